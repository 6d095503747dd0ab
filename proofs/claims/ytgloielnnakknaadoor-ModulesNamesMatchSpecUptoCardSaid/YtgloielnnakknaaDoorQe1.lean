/-
  Part 1 of the proof of names_holds: laws and contracts that it needs.
-/
import Derived.WalkKit
import Derived.WalkSpells
import Derived.WalkLawsBesides
import Derived.Deep.QuietTactic
import Derived.BigQuiet
import Derived.Lib.Hide
import Derived.Deep.AppendLies
import Derived.Deep.Draws
import Derived.Laws.OwnMore
import Derived.Maps.AppendAt
import Derived.RegionTactic
import Derived.OwnWalk
import Derived.Deep.RegionHeld
import Derived.Deep.LoopGhost
import Derived.IntWalk
import Derived.Laws.StructEq
import Derived.LaidEql
import Derived.Lib.AppendZeros
import Derived.Lib.ConvBytes
import Derived.Laws.Externs
import Derived.Lib.Bytealg
import Derived.Lib.Builder
import Derived.Lib.UnsafeStr
import Derived.Lib.AppendStr
import Derived.Test.YtgloielnnakknaaDoorRows
import Derived.Deep.Slices
import Derived.Deep.Fields
import Derived.ChangeSame
import Derived.Lib.SmallJoins
import Derived.ProofKit
import Derived.Carry
import Derived.SizedLaws
import Derived.Deep.DeepHandedRow
import Derived.Test.YtgloielnnakknaaDoorChecked
import Derived.LaidLaws
import Derived.Test.YtgloielnnakknaaDoorCards
import Derived.Test.YtgloielnnakknaaDoorTie
import Derived.SevenTiedAt
namespace Go.Proofs.YtgloielnnakknaaDoor
open Go.RowKit

theorem block_of_add (a : Addr) (n : Nat) : (a.add n).block = a.block := by unfold Addr.add; split <;> rfl
theorem add_of_add (a : Addr) (i j : Nat) : (a.add i).add j = a.add (i + j) := by
  unfold Addr.add
  by_cases hi : i = 0 <;> by_cases hj : j = 0 <;> simp [hi, hj, Nat.add_assoc]

/-- The cells xs lie from A on, in a block of w. -/
def Rd (w : World) (A : Option Addr) (xs : List Value) : Prop :=
  0 < xs.length → ∃ b o, A = some ⟨b, o, none⟩ ∧ b < w.heap.size ∧ ∀ j u, xs[j]? = some u → w.cell? ⟨b, o + j, none⟩ = some u

section
variable {w w' : World} {A : Option Addr} {xs : List Value}
theorem Rd.nil : Rd w A [] := fun h => absurd h (by simp)
theorem Rd.keep (h : Rd w A xs) (hs : w.heap.size ≤ w'.heap.size) (hk : ∀ p : Addr, p.block < w.heap.size → w'.cell? p = w.cell? p) : Rd w' A xs := fun hn => by
  obtain ⟨b, o, e, hb, hc⟩ := h hn
  exact ⟨b, o, e, by omega, fun j u hu => (hk _ hb).trans (hc j u hu)⟩
theorem Rd.below (h : Rd w A xs) (hb : Below w.heap.size w w') : Rd w' A xs := h.keep hb.size fun _ hp => hb.cell hp
theorem Rd.alloc (h : Rd w A xs) (o : Obj) : Rd (w.alloc o) A xs := h.keep (by simp) fun p hp => World.cell?_alloc_lt w o p hp
/-- A cut 's[k:]' of a row of size-cell elements. -/
theorem Rd.cut {size n k cap : Nat} (h : Rd w A xs) (hl : xs.length = n * size) (hk : k ≤ n) (hc : n ≤ cap) :
    Rd w (if cap = k then A else A.map (·.add (k * size))) (xs.drop (k * size)) := by
  intro hn
  rw [List.length_drop, hl, ← Nat.sub_mul] at hn
  have h1 : 0 < n - k := Nat.pos_of_mul_pos_right hn
  have h2 : 0 < xs.length := by rw [hl]; exact Nat.lt_of_lt_of_le hn (Nat.mul_le_mul_right _ (by omega))
  obtain ⟨b, o, rfl, hb, hcell⟩ := h h2
  rw [if_neg (by omega)]
  refine ⟨b, o + k * size, ?_, hb, fun j u hu => ?_⟩
  · simp only [Option.map_some, Addr.add]; split
    · rename_i h0; rw [h0]; rfl
    · rfl
  · rw [Nat.add_assoc]; exact hcell _ u (by rw [← hu, List.getElem?_drop])
theorem Rd.take (h : Rd w A xs) (k : Nat) : Rd w A (xs.take k) := fun hn => by
  rw [List.length_take] at hn
  obtain ⟨b, o, e, hb, hc⟩ := h (by omega)
  refine ⟨b, o, e, hb, fun j u hu => hc j u ?_⟩
  rw [List.getElem?_take] at hu
  split at hu
  · exact hu
  · cases hu
theorem Rd.of_own {base size n c : Nat} {e : TypeId} (h : w.ownsRow base e size (.slice A n c) n xs) : Rd w A xs := fun hn => by
  have hn' : 0 < n := by
    rcases Nat.eq_zero_or_pos n with h0 | h0
    · subst h0; have := h.1; omega
    · exact h0
  obtain ⟨g, cap, hv, _, hlt⟩ := h.form hn'
  have hA : A = some ⟨g, 0, none⟩ := by injection hv
  subst hA
  refine ⟨g, 0, rfl, hlt, fun j u hu => ?_⟩
  have := h.cells (g := g) rfl j u hu
  rw [Nat.zero_add]
  unfold Addr.add at this
  split at this
  · rename_i h0; subst h0; exact this
  · simpa using this
end

/-- The cells xs lie from A on, in a block that is let. -/
def RdIn (w : World) (ok : Nat → Prop) (A : Option Addr) (xs : List Value) : Prop :=
  0 < xs.length → ∃ b o, A = some ⟨b, o, none⟩ ∧ ok b ∧ b < w.heap.size ∧ ∀ j u, xs[j]? = some u → w.cell? ⟨b, o + j, none⟩ = some u
section
variable {w w' : World} {ok ok' : Nat → Prop} {A : Option Addr} {xs : List Value}
theorem RdIn.nil : RdIn w ok A [] := fun h => absurd h (by simp)
theorem RdIn.below (h : RdIn w ok A xs) (hb : Below w.heap.size w w') : RdIn w' ok A xs := fun hn => by
  obtain ⟨b, o, e, h1, hlt, hc⟩ := h hn
  exact ⟨b, o, e, h1, Nat.lt_of_lt_of_le hlt hb.size, fun j u hu => (hb.cell (p := ⟨b, o + j, none⟩) hlt).trans (hc j u hu)⟩
theorem RdIn.setCell (h : RdIn w ok A xs) {p : Addr} (hp : ¬ ok p.block) (u : Value) : RdIn (w.setCell p u) ok A xs := fun hn => by
  obtain ⟨b, o, e, h1, hlt, hc⟩ := h hn
  refine ⟨b, o, e, h1, by simpa [World.setCell] using hlt, fun j v hv => ?_⟩
  rw [World.cell?_setCell_other w p _ u (fun he => hp (by rw [he]; exact h1))]
  exact hc j v hv
theorem RdIn.cut {size n k cap : Nat} (h : RdIn w ok A xs) (hl : xs.length = n * size) (hk : k ≤ n) (hc : n ≤ cap) :
    RdIn w ok (if cap = k then A else A.map (·.add (k * size))) (xs.drop (k * size)) := by
  intro hn
  rw [List.length_drop, hl, ← Nat.sub_mul] at hn
  have h1 : 0 < n - k := Nat.pos_of_mul_pos_right hn
  have h2 : 0 < xs.length := by rw [hl]; exact Nat.lt_of_lt_of_le hn (Nat.mul_le_mul_right _ (by omega))
  obtain ⟨b, o, rfl, hok, hb, hcell⟩ := h h2
  rw [if_neg (by omega)]
  refine ⟨b, o + k * size, ?_, hok, hb, fun j u hu => ?_⟩
  · simp only [Option.map_some, Addr.add]; split
    · rename_i h0; rw [h0]; rfl
    · rfl
  · rw [Nat.add_assoc]; exact hcell _ u (by rw [← hu, List.getElem?_drop])
theorem Rd.within (h : Rd w A xs) {n : Nat} (hn : w.heap.size ≤ n) : RdIn w (· < n) A xs := fun hp => by
  obtain ⟨b, o, e, hb, hc⟩ := h hp
  exact ⟨b, o, e, by omega, hb, hc⟩
theorem RdIn.of_own {base size n c : Nat} {e : TypeId} (h : w.ownsRow base e size (.slice A n c) n xs) : RdIn w (base ≤ ·) A xs := fun hn => by
  have hn' : 0 < n := by
    rcases Nat.eq_zero_or_pos n with h0 | h0
    · subst h0; have := h.1; omega
    · exact h0
  obtain ⟨g, cap, hv, hbg, hlt⟩ := h.form hn'
  have hA : A = some ⟨g, 0, none⟩ := by injection hv
  subst hA
  obtain ⟨b, o, e', hb, hc⟩ := Rd.of_own h hn
  refine ⟨b, o, e', ?_, hb, hc⟩
  simp at e'
  rw [← e'.1]; exact hbg
end

/-! Blocks known whole -/
def Blk (w : World) (g : Nat) (t : TypeId) (cs : Array Value) : Prop := w.heap[g]? = some (.cells cs t (0, 0))
section
variable {w w' : World} {g : Nat} {t : TypeId} {cs : Array Value}
theorem Blk.lt (h : Blk w g t cs) : g < w.heap.size := by
  rcases Nat.lt_or_ge g w.heap.size with hlt | hge
  · exact hlt
  · unfold Blk at h; rw [Array.getElem?_eq_none hge] at h; cases h
theorem Blk.cell (h : Blk w g t cs) (i : Nat) : w.cell? ⟨g, i, none⟩ = cs[i]? := by
  unfold Blk at h; simp [World.cell?, h]
theorem Blk.frozen (h : Blk w g t cs) (i : Nat) : w.frozen? ⟨g, i, none⟩ = false := by
  unfold Blk at h; simp [World.frozen?, h]
theorem Blk.new (w : World) (t : TypeId) (cs : Array Value) : Blk (w.alloc (.cells cs t)) w.heap.size t cs := heap_alloc_new w _
theorem Blk.alloc (h : Blk w g t cs) (o : Obj) : Blk (w.alloc o) g t cs := (Below.heap_alloc w o g h.lt).trans h
theorem Blk.below {B : Nat} (h : Blk w g t cs) (hb : Below B w w') (hg : g < B) : Blk w' g t cs := (hb.block g hg).trans h
theorem Blk.set (h : Blk w g t cs) (i : Nat) (u : Value) : Blk (w.setCell ⟨g, i, none⟩ u) g t (cs.setIfInBounds i u) := by
  unfold Blk at h ⊢; simp [World.setCell, Array.getElem?_modify, h]
theorem Blk.far (h : Blk w g t cs) {p : Addr} (hp : g ≠ p.block) (u : Value) : Blk (w.setCell p u) g t cs := (Below.heap_setCell w p u g hp).trans h
theorem Blk.two {c0 c1 : Value} (h : Blk w g t #[c0, c1]) : w.cell? ⟨g, 0, none⟩ = some c0 ∧ w.cell? ⟨g, 1, none⟩ = some c1 ∧ w.frozen? ⟨g, 0, none⟩ = false ∧ w.frozen? ⟨g, 1, none⟩ = false :=
  ⟨h.cell 0, h.cell 1, h.frozen 0, h.frozen 1⟩
end
def ints (zs : List Int) : List Value := zs.map (Value.int .i64)
theorem ints_length (zs : List Int) : (ints zs).length = zs.length := by simp [ints]
theorem ints_get {zs : List Int} {k : Nat} (h : k < zs.length) : (ints zs)[k]? = some (.int .i64 zs[k]) := by simp [ints, h]
theorem Rd.int {w : World} {A : Option Addr} {zs : List Int} {k : Nat} (h : Rd w A (ints zs)) (hk : k < zs.length) :
    ∃ b o, A = some ⟨b, o, none⟩ ∧ b < w.heap.size ∧ w.cell? ⟨b, o + k, none⟩ = some (.int .i64 zs[k]) := by
  obtain ⟨b, o, e, hb, hc⟩ := h (by rw [ints_length]; omega)
  exact ⟨b, o, e, hb, hc k _ (ints_get hk)⟩

/-! Rows of records of m cells each -/
def rows {α : Type} (f : α → List Value) (xs : List α) : List Value := xs.flatMap f
section
variable {α : Type} {f : α → List Value} {m : Nat}
theorem rows_cons (x : α) (xs : List α) : rows f (x :: xs) = f x ++ rows f xs := by simp [rows]
theorem rows_length (hf : ∀ x, (f x).length = m) : ∀ xs : List α, (rows f xs).length = xs.length * m
  | [] => by simp [rows]
  | x :: xs => by rw [rows_cons, List.length_append, hf, rows_length hf xs, List.length_cons, Nat.succ_mul]; omega
theorem rows_drop (hf : ∀ x, (f x).length = m) : ∀ (xs : List α) (k : Nat), rows f (xs.drop k) = (rows f xs).drop (k * m)
  | xs, 0 => by simp
  | [], k + 1 => by simp [rows]
  | x :: xs, k + 1 => by
    have h1 : (k + 1) * m - m = k * m := by rw [Nat.succ_mul]; omega
    have h2 : (f x).drop ((k + 1) * m) = [] := List.drop_eq_nil_of_le (by rw [hf, Nat.succ_mul]; omega)
    rw [List.drop_succ_cons, rows_drop hf xs k, rows_cons, List.drop_append, hf, h1, h2, List.nil_append]
theorem rows_get (hf : ∀ x, (f x).length = m) {xs : List α} {k : Nat} (hk : k < xs.length) (j : Nat) (hj : j < m) : (rows f xs)[k * m + j]? = (f xs[k])[j]? := by
  rw [← List.getElem?_drop, ← rows_drop hf, List.drop_eq_getElem_cons hk, rows_cons, List.getElem?_append_left (by rw [hf]; exact hj)]
theorem Rd.row {w : World} {A : Option Addr} {xs : List α} {k : Nat} (h : Rd w A (rows f xs)) (hf : ∀ x, (f x).length = m) (hk : k < xs.length) (hm : 0 < m) :
    ∃ b o, A = some ⟨b, o, none⟩ ∧ b < w.heap.size ∧ ∀ j u, (f xs[k])[j]? = some u → w.cell? ⟨b, o + (k * m + j), none⟩ = some u := by
  obtain ⟨b, o, e, hb, hc⟩ := h (by rw [rows_length hf]; exact Nat.mul_pos (by omega) hm)
  refine ⟨b, o, e, hb, fun j u hu => hc _ u ?_⟩
  have hj : j < m := by
    rcases Nat.lt_or_ge j m with h1 | h1
    · exact h1
    · rw [List.getElem?_eq_none (by rw [hf]; exact h1)] at hu; cases hu
  rw [rows_get hf hk j hj, hu]
end

end Go.Proofs.YtgloielnnakknaaDoor
namespace Go.Proofs.YtgloielnnakknaaDoor
open Go.RowKit

structure SliceTy (P : Program) (t e : TypeId) (size bytes : Nat) : Prop where
  ht : P.underlying t = some (.slice e)
  hi : ∃ i z, P.info? e = some i ∧ i.zero = some z ∧ i.size = size ∧ i.bytes = bytes ∧ z.cells.size = size
  hsz : 0 < size

section
variable {P : Program} {w : World} {base : Nat} {t e : TypeId} {size bytes : Nat} {A : Option Addr} {n c : Nat} {xs : List Value}

theorem own_form {v : Value} {k : Nat} {ys : List Value} (h : w.ownsRow base e size v k ys) : ∃ A' c', v = .slice A' k c' ∧ k ≤ c' ∧ c' ≤ maxLen := by
  rcases h.2 with ⟨rfl, rfl⟩ | ⟨g, cap, cur, rfl, _, _, h1, h2, _⟩
  · exact ⟨none, 0, rfl, Nat.le_refl _, Nat.zero_le _⟩
  · exact ⟨_, _, rfl, h1, h2⟩

theorem run_app (ST : SliceTy P t e size bytes) (ty : TypeId) (hown : w.ownsRow base e size (.slice A n c) n xs)
    {B : Option Addr} {m d : Nat} {news : List Value} (hr : Rd w B news) (hl : news.length = m * size) (h1 : ∀ u ∈ news, u.oneCell' = true)
    (h63 : n + m ≤ maxLen) (hbytes : (n + m) * bytes ≤ 140737488355328) (hbase : base ≤ w.heap.size) :
    ∃ A' c' w', (Builtin.append_ #[t, t] ty #[.slice A n c, .slice B m d]).run P w = .ok (.slice A' (n + m) c') w' ∧ w'.ownsRow base e size (.slice A' (n + m) c') (n + m) (xs ++ news) ∧
      w.grownBy w' (Value.slice A n c).ownBlock ∧ ((Value.slice A' (n + m) c').ownBlock = (Value.slice A n c).ownBlock ∨ (Value.slice A' (n + m) c').ownBlock = some w.heap.size) := by
  obtain ⟨ht, ⟨i, z, hi, hz, hsize, hby, hzs⟩, hsz⟩ := ST
  rcases B with _ | ad
  · have hn : news = [] := by
      rcases news with _ | ⟨x, l⟩
      · rfl
      · obtain ⟨b, o, h, _⟩ := hr (by simp)
        cases h
    subst hn
    have hm : m = 0 := by
      rcases Nat.eq_zero_or_pos m with h0 | h0
      · exact h0
      · have := Nat.mul_pos h0 hsz; simp at hl; omega
    subst hm
    refine ⟨A, c, w, ?_, by simpa using hown, World.grownBy.refl w _, .inl rfl⟩
    rcases hown.2 with ⟨hv, rfl⟩ | ⟨g, cap, cur, hv, _, _, hnc, _⟩
    · injection hv with h1 h2 h3
      subst h1 h3
      simp [Builtin.append_, run_underlying ht, sizeOf, typeInfo, hi, Builtin.lenOf, Builtin.firstCells]
    · injection hv with h1 h2 h3
      subst h1 h3
      simp [Builtin.append_, run_underlying ht, sizeOf, typeInfo, hi, Builtin.lenOf, Builtin.firstCells, hnc, storeCells]
  · have hcells : ∀ j u, news[j]? = some u → w.cell? (ad.add j) = some u := by
      intro j u hu
      obtain ⟨b, o, h, _, hc⟩ := hr (by rcases news with _ | ⟨x, l⟩; (· simp at hu); (· exact Nat.succ_pos _))
      injection h with h
      subst h
      have := hc j u hu
      unfold Addr.add
      split
      · rename_i h0; subst h0; exact this
      · exact this
    obtain ⟨v', w', hrun, h2, h3, _, h5⟩ := run_append_own_at (P := P) w base t ty e i z size bytes ht hi hz hsize hby hzs hsz _ n xs hown ad m d news hl hcells h1 h63 hbytes hbase
    obtain ⟨A', c', rfl, _⟩ := own_form h2
    exact ⟨A', c', w', hrun, h2, h3, h5⟩

theorem Rd.new (w : World) (e : TypeId) (cs : Array Value) : Rd (w.alloc (.cells cs e)) (some ⟨w.heap.size, 0, none⟩) cs.toList := fun _ => by
  refine ⟨w.heap.size, 0, rfl, by simp, fun j u hu => ?_⟩
  have : (w.alloc (.cells cs e)).heap[w.heap.size]? = some (.cells cs e) := heap_alloc_new w _
  simp only [World.cell?, this, Nat.zero_add]
  simpa using hu
/-- An append onto a row of the call's own leaves all below base. -/
theorem Below.app {B : Nat} {w0 w' : World} {v : Value} {k : Nat} {ys : List Value} (hb : Below B w0 w) (h : w.ownsRow base e size v k ys) (hg : w.grownBy w' v.ownBlock) (hB : B ≤ base) (hB2 : B ≤ w.heap.size) : Below B w0 w' :=
  hb.grown hg hB2 fun g hk => Nat.le_trans hB (h.lt g hk).1
end
end Go.Proofs.YtgloielnnakknaaDoor
namespace Go.Proofs.YtgloielnnakknaaDoor
open Go.RowKit

/-- Look-up by a literal key. -/
def lk {α : Type} (n : Nat) : List (Nat × α) → Option α
  | [] => none
  | (k, v) :: r => bif Nat.beq n k then some v else lk n r
def nth {α : Type} : List α → Nat → Option α
  | [], _ => none
  | x :: _, 0 => some x
  | _ :: l, n + 1 => nth l n
theorem nth_eq {α : Type} : ∀ (l : List α) (n : Nat), nth l n = l[n]?
  | [], _ => by simp [nth]
  | x :: l, 0 => by simp [nth]
  | x :: l, n + 1 => by simp [nth, nth_eq l n]
theorem lk_mem {α : Type} {n : Nat} : ∀ {l : List (Nat × α)} {v : α}, lk n l = some v → (n, v) ∈ l
  | [], _, h => by simp [lk] at h
  | (k, u) :: r, v, h => by
    simp only [lk] at h
    cases hb : Nat.beq n k
    · rw [hb] at h; exact List.mem_cons_of_mem _ (lk_mem h)
    · rw [hb] at h
      simp only [cond_true, Option.some.injEq] at h
      rw [Nat.eq_of_beq_eq_true hb, h]; exact List.mem_cons_self

/-- What is left as it was. -/
structure Same (F : Nat → Prop) (w w' : World) : Prop where
  os : w'.os = w.os
  tape : w'.tape = w.tape
  output : w'.output = w.output
  size : w.heap.size ≤ w'.heap.size
  block : ∀ k, F k → w'.heap[k]? = w.heap[k]?
theorem Same.refl (F : Nat → Prop) (w : World) : Same F w w := ⟨rfl, rfl, rfl, Nat.le_refl _, fun _ _ => rfl⟩
theorem Same.trans {F : Nat → Prop} {a b c : World} (h : Same F a b) (k : Same F b c) : Same F a c :=
  ⟨k.os.trans h.os, k.tape.trans h.tape, k.output.trans h.output, Nat.le_trans h.size k.size, fun i hi => (k.block i hi).trans (h.block i hi)⟩
theorem Same.mono {F F' : Nat → Prop} {w w' : World} (h : Same F w w') (hF : ∀ b, F' b → F b) : Same F' w w' := ⟨h.os, h.tape, h.output, h.size, fun k hk => h.block k (hF k hk)⟩
theorem Same.of_below {F : Nat → Prop} {B : Nat} {w w' : World} (h : Below B w w') (hF : ∀ b, F b → b < B) : Same F w w' := ⟨h.os, h.tape, h.output, h.size, fun k hk => h.block k (hF k hk)⟩
theorem Same.below {B : Nat} {w w' : World} (h : Same (· < B) w w') : Below B w w' := ⟨h.os, h.tape, h.output, h.size, fun k hk => h.block k hk⟩
theorem Same.cell {F : Nat → Prop} {w w' : World} (h : Same F w w') {p : Addr} (hp : F p.block) : w'.cell? p = w.cell? p := World.cell?_of_block (w := w) (h.block p.block hp)

/-- What a block is: so many cells, or a map with these entries. -/
inductive Tot where
  | n (k : Nat)
  | m (es : List (Value × Value))
instance : Coe Nat Tot := ⟨.n⟩
/-- A block of the call's own: its element type, its first cells, the number of its cells. -/
structure Hb where
  ty : TypeId
  cs : List Value
  tot : Tot
/-- What is known of memory: the frozen blocks F are as in w0; own blocks. -/
structure Hs where
  F : Nat → Prop
  w0 : World
  hp : List (Nat × Hb)
/-- The block b holds x. -/
def HasB (w : World) (b : Nat) (x : Hb) : Prop := match x.tot with
  | .n k => ∃ junk : List Value, w.heap[b]? = some (.cells (x.cs ++ junk).toArray x.ty (0, 0)) ∧ x.cs.length + junk.length = k
  | .m es => x.cs = [] ∧ ∃ (arr : Array MapEntry) (clock : Nat), w.heap[b]? = some (.map arr clock) ∧ arr.toList.map (fun e => (e.key, e.val)) = es
/-- Either way. -/
theorem HasB.or {w : World} {b : Nat} {x : Hb} (h : HasB w b x) : (∃ k junk, x.tot = .n k ∧ w.heap[b]? = some (.cells (x.cs ++ junk).toArray x.ty (0, 0)) ∧ x.cs.length + junk.length = k) ∨ (x.cs = [] ∧ ∃ (es : List (Value × Value)) (arr : Array MapEntry) (clock : Nat), x.tot = .m es ∧ w.heap[b]? = some (.map arr clock) ∧ arr.toList.map (fun e => (e.key, e.val)) = es) := by
  unfold HasB at h
  split at h
  · rename_i k e; obtain ⟨junk, h1, h2⟩ := h; exact .inl ⟨k, junk, e, h1, h2⟩
  · rename_i es e; obtain ⟨h0, arr, clock, h1, h2⟩ := h; exact .inr ⟨h0, es, arr, clock, e, h1, h2⟩
structure Hp (h : Hs) (w : World) : Prop where
  same : Same h.F h.w0 w
  inF : ∀ b, h.F b → b < h.w0.heap.size
  blk : ∀ b x, (b, x) ∈ h.hp → HasB w b x
  nd : (h.hp.map Prod.fst).Nodup
  out : ∀ b x, (b, x) ∈ h.hp → ¬ h.F b
/-- What is known of the slots. -/
structure Slt (nt : Nat) (tm : List (Nat × Value)) (a : Act) : Prop where
  df : a.defers = []
  sz : a.tmps.size = nt
  tm : ∀ k v, lk k tm = some v → a.tmps[k]? = some v

def ev (tm : List (Nat × Value)) : Operand → Option Value
  | .tmp t => lk t tm
  | .const v => some v
  | .global g => some (.pointer (some ⟨g, 0, none⟩))
  | .func f => some (.func (.func f) #[] #[])
theorem Slt.ev {nt : Nat} {tm : List (Nat × Value)} {a : Act} (h : Slt nt tm a) {x : Operand} {v : Value} (hx : Go.Proofs.YtgloielnnakknaaDoor.ev tm x = some v) : a.eval x = v := by
  cases x with
  | tmp t => have := h.tm t v hx; simp [Act.eval, this]
  | const u => simpa [Go.Proofs.YtgloielnnakknaaDoor.ev, Act.eval] using hx
  | global g => simpa [Go.Proofs.YtgloielnnakknaaDoor.ev, Act.eval] using hx
  | func f => simpa [Go.Proofs.YtgloielnnakknaaDoor.ev, Act.eval] using hx
theorem Slt.put {nt : Nat} {tm : List (Nat × Value)} {a : Act} (h : Slt nt tm a) {d : Nat} (hd : d < nt) (v : Value) : Slt nt ((d, v) :: tm) (a.put (some d) v) := by
  refine ⟨h.df, by simp [Act.put, h.sz], fun k u hk => ?_⟩
  simp only [lk] at hk
  cases hb : Nat.beq k d
  · rw [hb] at hk
    have hne : d ≠ k := fun e => by rw [e, Nat.beq_refl] at hb; cases hb
    simp only [Act.put, Array.getElem?_setIfInBounds_ne hne]
    exact h.tm k u hk
  · rw [hb] at hk
    have := Nat.eq_of_beq_eq_true hb
    subst this
    simp only [cond_true, Option.some.injEq] at hk
    subst hk
    simp [Act.put, h.sz, hd]
theorem Slt.put_none {nt : Nat} {tm : List (Nat × Value)} {a : Act} (h : Slt nt tm a) (v : Value) : Slt nt tm (a.put none v) := h

section
variable {P : Program} {nt : Nat} {ops : Array Oper} {Q : Exit → Act → World → Prop} {tm : List (Nat × Value)} {h : Hs}

structure AWc (P : Program) (nt : Nat) (Q : Exit → Act → World → Prop) (c : Code) (tm : List (Nat × Value)) (h : Hs) : Prop where
  out : ∀ a w, Slt nt tm a → Hp h w → c.wp P Q a w
structure AWl (P : Program) (nt : Nat) (ops : Array Oper) (Q : Exit → Act → World → Prop) (l : List Oper) (tm : List (Nat × Value)) (h : Hs) : Prop where
  out : ∀ a w, Slt nt tm a → Hp h w → wpList P ops Q l a w
structure AWq (nt : Nat) (Q : Exit → Act → World → Prop) (e : Exit) (tm : List (Nat × Value)) (h : Hs) : Prop where
  out : ∀ a w, Slt nt tm a → Hp h w → Q e a w

theorem AWc.seq {x y : Code} (k : AWc P nt (Exit.then (y.wp P Q) Q) x tm h) : AWc P nt Q (.seq x y) tm h := ⟨fun a w ha hw => wp_seq (k.out a w ha hw)⟩
theorem AWc.skip (k : AWq nt Q .normal tm h) : AWc P nt Q .skip tm h := ⟨fun a w ha hw => wp_skip (k.out a w ha hw)⟩
theorem AWc.label {l : Nat} (k : AWq nt Q .normal tm h) : AWc P nt Q (.label l) tm h := ⟨fun a w ha hw => wp_label (k.out a w ha hw)⟩
theorem AWc.exit {i : Nat} (k : AWq nt Q (.exit i) tm h) : AWc P nt Q (.exit i) tm h := ⟨fun a w ha hw => wp_exit (k.out a w ha hw)⟩
theorem AWc.ret (k : AWq nt Q .ret tm h) : AWc P nt Q .ret tm h := ⟨fun a w ha hw => wp_ret (k.out a w ha hw)⟩
theorem AWc.block {i : Nat} {c : Code} (k : AWc P nt (Exit.inBlock i Q) c tm h) : AWc P nt Q (.block i c) tm h := ⟨fun a w ha hw => wp_block (k.out a w ha hw)⟩
theorem AWc.cond {c : Operand} {x y : Code} {b : Bool} (hc : ev tm c = some (.bool b)) (k1 : b = true → AWc P nt Q x tm h) (k2 : b = false → AWc P nt Q y tm h) : AWc P nt Q (.cond c x y) tm h :=
  ⟨fun a w ha hw => wp_cond_split (ha.ev hc) (fun e => (k1 e).out a w ha hw) (fun e => (k2 e).out a w ha hw)⟩
theorem AWc.region {i : Nat} {l : List Oper} (k : AWl P nt l.toArray Q l tm h) : AWc P nt Q (.region i l.toArray false) tm h := ⟨fun a w ha hw => wp_region_lit (k.out a w ha hw)⟩
theorem AWl.nil (k : AWq nt Q .normal tm h) : AWl P nt ops Q [] tm h := ⟨fun a w ha hw => wpList_nil (k.out a w ha hw)⟩

theorem AWq.then_ {y : Code} {Q' : Exit → Act → World → Prop} (k : AWc P nt Q y tm h) : AWq nt (Exit.then (y.wp P Q) Q') .normal tm h := ⟨k.out⟩
theorem AWq.pass_exit {K : Act → World → Prop} {i : Nat} (k : AWq nt Q (.exit i) tm h) : AWq nt (Exit.then K Q) (.exit i) tm h := ⟨k.out⟩
theorem AWq.pass_ret {K : Act → World → Prop} (k : AWq nt Q .ret tm h) : AWq nt (Exit.then K Q) .ret tm h := ⟨k.out⟩
theorem AWq.blk {i : Nat} (k : AWq nt Q .normal tm h) : AWq nt (Exit.inBlock i Q) .normal tm h := ⟨k.out⟩
theorem AWq.blk_ret {i : Nat} (k : AWq nt Q .ret tm h) : AWq nt (Exit.inBlock i Q) .ret tm h := ⟨k.out⟩
theorem AWq.blk_hit {i : Nat} (k : AWq nt Q .normal tm h) : AWq nt (Exit.inBlock i Q) (.exit i) tm h := ⟨fun a w ha hw => by
  have := k.out a w ha hw; simpa [Exit.inBlock] using this⟩
theorem AWq.blk_miss {i j : Nat} (hne : (Nat.beq j i) = false) (k : AWq nt Q (.exit j) tm h) : AWq nt (Exit.inBlock i Q) (.exit j) tm h := ⟨fun a w ha hw => by
  have := k.out a w ha hw
  have hji : ¬ j = i := fun e => by rw [e, Nat.beq_refl] at hne; cases hne
  simpa [Exit.inBlock, hji] using this⟩

/-- Less is known. -/
inductive SubT (tm : List (Nat × Value)) : List (Nat × Value) → Prop
  | nil : SubT tm []
  | cons {k : Nat} {v : Value} {l : List (Nat × Value)} : lk k tm = some v → SubT tm l → SubT tm ((k, v) :: l)
theorem SubT.lk {tm l : List (Nat × Value)} (s : SubT tm l) {k : Nat} {v : Value} (hk : Go.Proofs.YtgloielnnakknaaDoor.lk k l = some v) : Go.Proofs.YtgloielnnakknaaDoor.lk k tm = some v := by
  induction s with
  | nil => cases hk
  | @cons k' v' l h0 _ ih =>
    simp only [Go.Proofs.YtgloielnnakknaaDoor.lk] at hk
    cases hb : Nat.beq k k'
    · rw [hb] at hk; exact ih hk
    · rw [hb] at hk
      simp only [cond_true, Option.some.injEq] at hk
      rw [Nat.eq_of_beq_eq_true hb, ← hk]; exact h0
theorem Slt.sub {a : Act} {tm' : List (Nat × Value)} (ha : Slt nt tm a) (s : SubT tm tm') : Slt nt tm' a := ⟨ha.df, ha.sz, fun k v hk => ha.tm k v (s.lk hk)⟩
theorem Hp.sub {w : World} {F : Nat → Prop} {w0 : World} {hp hp' : List (Nat × Hb)} (hw : Hp ⟨F, w0, hp⟩ w) (s : hp'.Sublist hp) : Hp ⟨F, w0, hp'⟩ w :=
  ⟨hw.same, hw.inF, fun b x hx => hw.blk b x (s.subset hx), (s.map _).nodup hw.nd, fun b x hx => hw.out b x (s.subset hx)⟩
/-- What a round hands on. -/
def Rnd {ι : Type} (nt : Nat) (Φ : ι → Prop) (m : ι → Nat) (tS : ι → List (Nat × Value)) (hS : ι → Hs) (n : Nat) (a : Act) (w : World) : Prop := ∃ y, Φ y ∧ m y < n ∧ Slt nt (tS y) a ∧ Hp (hS y) w
theorem AWc.loop {ι : Type} {c : Code} (Φ : ι → Prop) (m : ι → Nat) (tS : ι → List (Nat × Value)) (hS : ι → Hs) (x0 : ι) (h0 : Φ x0)
    (k : ∀ x, Φ x → AWc P nt (Exit.then (Rnd nt Φ m tS hS (m x)) Q) c (tS x) (hS x)) : AWc P nt Q (.loop c) (tS x0) (hS x0) := ⟨fun a w ha hw => by
  refine wp_loop_ghost (fun n a w => ∃ y, Φ y ∧ m y = n ∧ Slt nt (tS y) a ∧ Hp (hS y) w) (m x0) ⟨x0, h0, rfl, ha, hw⟩ ?_
  rintro n a w ⟨y, hy, rfl, ha, hw⟩
  refine wp_mono ((k y hy).out a w ha hw) ?_
  intro e a' w' hq
  cases e <;> first | exact hq | (obtain ⟨z, hz, hlt, h1, h2⟩ := hq; exact ⟨m z, hlt, z, hz, rfl, h1, h2⟩)⟩
theorem AWq.round {ι : Type} {Φ : ι → Prop} {m : ι → Nat} {tS : ι → List (Nat × Value)} {hS : ι → Hs} {n : Nat} (y : ι) (hy : Φ y) (hm : m y < n) (s : SubT tm (tS y)) (hh : ∀ w, Hp h w → Hp (hS y) w) :
    AWq nt (Exit.then (Rnd nt Φ m tS hS n) Q) .normal tm h := ⟨fun _ w ha hw => ⟨y, hy, hm, ha.sub s, hh w hw⟩⟩
end
end Go.Proofs.YtgloielnnakknaaDoor

/-
  A walk over named blocks: types by a table; operations that only yield a value.
-/
namespace Go.Proofs.YtgloielnnakknaaDoor
open Go.RowKit

inductive Tk where
  | st (fs : List (Nat × TypeId))
  | ar (n : Nat) (e : TypeId)
  | sl (e : TypeId)
  | mp (k e : TypeId)
  | in_ (k : IntKind)
  | bo
  | sr
  | pt (e : TypeId)
  | ot
def Tk.agg : Tk → Bool
  | .st _ | .ar _ _ => true
  | _ => false
structure Ty where
  k : Tk
  size : Nat
  bytes : Nat
  zero : List Value
def KOk (P : Program) (t : TypeId) : Tk → Prop
  | .st fs => ∃ fields, P.underlying t = some (.struct fields) ∧ fields.toList.map (fun f => (f.offset, f.type)) = fs
  | .ar n e => P.underlying t = some (.array n e)
  | .sl e => P.underlying t = some (.slice e)
  | .mp k e => P.underlying t = some (.map k e)
  | .in_ k => P.underlying t = some (.int k)
  | .bo => P.underlying t = some .bool
  | .sr => P.underlying t = some .string
  | .pt e => P.underlying t = some (.pointer e)
  | .ot => ∃ d, P.underlying t = some d ∧ (∀ f, d ≠ .struct f) ∧ (∀ n e, d ≠ .array n e)
structure TyOk (P : Program) (t : TypeId) (i : Ty) : Prop where
  info : ∃ f z, P.info? t = some f ∧ f.size = i.size ∧ f.bytes = i.bytes ∧ f.zero = some z ∧ z.cells.toList = i.zero
  kind : KOk P t i.k
class Tys (P : Program) (T : outParam (List (Nat × Ty))) : Prop where
  ok : ∀ t i, lk t T = some i → TyOk P t i
  mo : P.follows .mixedOrders = true

section
variable {P : Program} {t : TypeId} {i : Ty} (w : World)
theorem TyOk.run_size (h : TyOk P t i) : (sizeOf t).run P w = .ok i.size w := by
  obtain ⟨f, z, h1, h2, _⟩ := h.info
  simp [sizeOf, typeInfo, h1, h2]
theorem TyOk.run_zero (h : TyOk P t i) : ∃ z, (zeroValue t).run P w = .ok z w ∧ z.cells.toList = i.zero := by
  obtain ⟨f, z, h1, _, _, h4, h5⟩ := h.info
  exact ⟨z, by simp [zeroValue, typeInfo, h1, h4], h5⟩
theorem TyOk.run_isAgg (h : TyOk P t i) : (isAgg t).run P w = .ok i.k.agg w := by
  have hk := h.kind
  obtain ⟨k, s, b, z⟩ := i
  cases k <;> simp only [KOk] at hk
  case st fs => obtain ⟨f, h1, _⟩ := hk; simp [isAgg, run_underlying h1, Tk.agg]
  case ot =>
    obtain ⟨d, h1, h2, h3⟩ := hk
    cases d <;> first | (exact absurd rfl (h2 _)) | (exact absurd rfl (h3 _ _)) | simp [isAgg, run_underlying h1, Tk.agg]
  all_goals simp [isAgg, run_underlying hk, Tk.agg]
end

/-- In every world that is known so. -/
structure CellA (h : Hs) (b o : Nat) (v : Value) : Prop where
  out : ∀ w, Hp h w → w.cell? ⟨b, o, none⟩ = some v
structure CellsA (h : Hs) (b o : Nat) (vs : List Value) : Prop where
  out : ∀ w, Hp h w → ∀ j u, vs[j]? = some u → w.cell? ⟨b, o + j, none⟩ = some u

inductive MemB (b : Nat) (x : Hb) : List (Nat × Hb) → Prop
  | here {r : List (Nat × Hb)} : MemB b x ((b, x) :: r)
  | there {p : Nat × Hb} {r : List (Nat × Hb)} : MemB b x r → MemB b x (p :: r)
  | skip {l r : List (Nat × Hb)} : MemB b x r → MemB b x (l ++ r)
theorem MemB.mem {b : Nat} {x : Hb} {r : List (Nat × Hb)} (m : MemB b x r) : (b, x) ∈ r := by
  induction m with
  | here => exact List.mem_cons_self
  | there _ ih => exact List.mem_cons_of_mem _ ih
  | skip _ ih => exact List.mem_append_right _ ih
theorem HasB.cell {w : World} {b o : Nat} {x : Hb} {v : Value} (hb : HasB w b x) (hv : x.cs[o]? = some v) : w.cell? ⟨b, o, none⟩ = some v := by
  rcases hb.or with ⟨k, junk, _, h1, _⟩ | ⟨h0, _⟩
  case inr => rw [h0] at hv; simp at hv
  have hlt : o < x.cs.length := by
    rcases Nat.lt_or_ge o x.cs.length with h | h
    · exact h
    · rw [List.getElem?_eq_none h] at hv; cases hv
  simp only [World.cell?, h1]
  simp only [Option.isSome_none, Bool.false_eq_true, if_false, List.getElem?_toArray]
  rw [List.getElem?_append_left hlt]; exact hv
theorem HasB.frozen {w : World} {b o : Nat} {x : Hb} (hb : HasB w b x) : w.frozen? ⟨b, o, none⟩ = false := by
  rcases hb.or with ⟨k, junk, _, h1, _⟩ | ⟨_, es, arr, clock, _, h1, _⟩ <;> simp [World.frozen?, h1]
theorem CellA.own {F : Nat → Prop} {w0 : World} {hp : List (Nat × Hb)} {b o : Nat} {x : Hb} {v : Value} (m : MemB b x hp) (hv : nth x.cs o = some v) : CellA ⟨F, w0, hp⟩ b o v :=
  ⟨fun w hw => (hw.blk b x m.mem).cell (by rw [← nth_eq]; exact hv)⟩
theorem CellA.frz {F : Nat → Prop} {w0 : World} {hp : List (Nat × Hb)} {b o : Nat} {v : Value} (hF : F b) (hc : w0.cell? ⟨b, o, none⟩ = some v) : CellA ⟨F, w0, hp⟩ b o v :=
  ⟨fun _ hw => (hw.same.cell (p := ⟨b, o, none⟩) hF).trans hc⟩
theorem CellsA.own {F : Nat → Prop} {w0 : World} {hp : List (Nat × Hb)} {b o : Nat} {x : Hb} {vs : List Value} (m : MemB b x hp) (hv : ∀ j u, vs[j]? = some u → x.cs[o + j]? = some u) : CellsA ⟨F, w0, hp⟩ b o vs :=
  ⟨fun w hw j u hu => (hw.blk b x m.mem).cell (hv j u hu)⟩
theorem CellsA.whole {F : Nat → Prop} {w0 : World} {hp : List (Nat × Hb)} {b : Nat} {x : Hb} (m : MemB b x hp) : CellsA ⟨F, w0, hp⟩ b 0 x.cs :=
  .own m fun j u hu => by rw [Nat.zero_add]; exact hu
theorem CellsA.frz {F : Nat → Prop} {w0 : World} {hp : List (Nat × Hb)} {b o : Nat} {vs : List Value} (hF : F b) (hc : ∀ j u, vs[j]? = some u → w0.cell? ⟨b, o + j, none⟩ = some u) : CellsA ⟨F, w0, hp⟩ b o vs :=
  ⟨fun _ hw j u hu => (hw.same.cell (p := ⟨b, o + j, none⟩) hF).trans (hc j u hu)⟩
def cut {α : Type} : List α → Nat → Nat → List α
  | _, _, 0 => []
  | [], _, _ => []
  | x :: l, 0, n + 1 => x :: cut l 0 n
  | _ :: l, o + 1, n => cut l o n
theorem cut_get {α : Type} : ∀ (l : List α) (o n j : Nat) (u : α), (cut l o n)[j]? = some u → l[o + j]? = some u
  | _, _, 0, j, u, h => by simp [cut] at h
  | [], _, n + 1, j, u, h => by simp [cut] at h
  | x :: l, 0, n + 1, 0, u, h => by simpa [cut] using h
  | x :: l, 0, n + 1, j + 1, u, h => by
    have h' : (cut l 0 n)[j]? = some u := by simpa [cut] using h
    have := cut_get l 0 n j u h'
    rw [Nat.zero_add] at this
    simpa using this
  | x :: l, o + 1, n + 1, j, u, h => by
    have h' : (cut l o (n + 1))[j]? = some u := by simpa [cut] using h
    have := cut_get l o (n + 1) j u h'
    rw [show o + 1 + j = (o + j) + 1 by omega]
    simpa using this
theorem CellsA.part {F : Nat → Prop} {w0 : World} {hp : List (Nat × Hb)} {b o : Nat} {x : Hb} (m : MemB b x hp) (n : Nat) : CellsA ⟨F, w0, hp⟩ b o (cut x.cs o n) := .own m fun j u hu => cut_get x.cs o n j u hu

theorem run_loadCells {P : Program} {w : World} {b : Nat} : ∀ (vs : List Value) (o i : Nat) (acc : Array Value), (∀ j u, vs[j]? = some u → w.cell? ⟨b, o + i + j, none⟩ = some u) →
    (loadCellsFrom ⟨b, o, none⟩ i vs.length acc).run P w = .ok (acc ++ vs.toArray) w
  | [], o, i, acc, _ => by simp [loadCellsFrom]
  | v :: vs, o, i, acc, hc => by
    have h0 := hc 0 v rfl
    have hadd : (⟨b, o, none⟩ : Addr).add i = ⟨b, o + i, none⟩ := by unfold Addr.add; split <;> simp_all
    have ih := run_loadCells (P := P) (w := w) (b := b) vs o (i + 1) (acc.push v) (fun j u hu => by have := hc (j + 1) u (by simpa using hu); rwa [show o + i + (j + 1) = o + (i + 1) + j by omega] at this)
    simp only [Nat.add_zero] at h0
    simp only [List.length_cons, loadCellsFrom, Sem.run_bind, run_load, hadd, h0, Result.andThen_ok, ih]
    simp

section
variable {P : Program} {T : List (Nat × Ty)} [hT : Tys P T] {nt : Nat} {tm : List (Nat × Value)} {h : Hs} {d : Option Tmp} {ty : TypeId} {pos : String} {af : Array Edge} {gd : Option (Nat × Bool)}

/-- The operation yields v and does nothing else. -/
structure Yd (P : Program) (nt : Nat) (o : Oper) (tm : List (Nat × Value)) (h : Hs) (v : Value) : Prop where
  out : ∀ a w, Slt nt tm a → Hp h w → (execOp a.eval o).run P w = .ok (.value v) w

theorem Yd.move {x : Operand} {v : Value} (hx : ev tm x = some v) : Yd P nt ⟨d, .move x, ty, pos, af, gd⟩ tm h v := ⟨fun a w ha _ => by simp [execOp, ha.ev hx]⟩
theorem Yd.assign {x : Operand} {v : Value} (hx : ev tm x = some v) : Yd P nt ⟨d, .assign x, ty, pos, af, gd⟩ tm h v := ⟨fun a w ha _ => by simp [execOp, ha.ev hx]⟩
theorem Yd.pick {c x y : Operand} {b : Bool} {v u : Value} (hc : ev tm c = some (.bool b)) (hx : ev tm x = some v) (hy : ev tm y = some u) : Yd P nt ⟨d, .pick c x y, ty, pos, af, gd⟩ tm h (if b then v else u) :=
  ⟨fun a w ha _ => by simp [execOp, ha.ev hc, ha.ev hx, ha.ev hy, asBool]⟩
theorem Yd.pickT {c x y : Operand} {b : Bool} {v : Value} (hc : ev tm c = some (.bool b)) (hb : b = true) (hx : ev tm x = some v) : Yd P nt ⟨d, .pick c x y, ty, pos, af, gd⟩ tm h v :=
  ⟨fun a w ha _ => by simp [execOp, ha.ev hc, ha.ev hx, asBool, hb]⟩
theorem Yd.pickF {c x y : Operand} {b : Bool} {v : Value} (hc : ev tm c = some (.bool b)) (hb : b = false) (hx : ev tm y = some v) : Yd P nt ⟨d, .pick c x y, ty, pos, af, gd⟩ tm h v :=
  ⟨fun a w ha _ => by simp [execOp, ha.ev hc, ha.ev hx, asBool, hb]⟩
theorem Yd.load1 {t : TypeId} {x : Operand} {b o : Nat} {i : Ty} {v : Value} (hx : ev tm x = some (.pointer (some ⟨b, o, none⟩))) (ht : lk t T = some i) (hk : i.k.agg = false) (hc : CellA h b o v) : Yd P nt ⟨d, .load t x, ty, pos, af, gd⟩ tm h v :=
  ⟨fun a w ha hw => by simp [execOp, Instr.loadAt, Instr.sureAddr, loadVar, ha.ev hx, (hT.ok t i ht).run_isAgg, hk, hc.out w hw]⟩
theorem Yd.loadn {t : TypeId} {x : Operand} {b o : Nat} {i : Ty} {vs : List Value} (hx : ev tm x = some (.pointer (some ⟨b, o, none⟩))) (ht : lk t T = some i) (hk : i.k.agg = true) (hc : CellsA h b o vs) (hn : i.size = vs.length) : Yd P nt ⟨d, .load t x, ty, pos, af, gd⟩ tm h (.agg vs.toArray) :=
  ⟨fun a w ha hw => by
    have := run_loadCells (P := P) (w := w) (b := b) vs o 0 #[] (fun j u hu => by simpa using hc.out w hw j u hu)
    simp [execOp, Instr.loadAt, Instr.sureAddr, loadVar, ha.ev hx, (hT.ok t i ht).run_isAgg, hk, (hT.ok t i ht).run_size, hn, loadCells, this]⟩
theorem Yd.nilCheck {x : Operand} {a0 : Addr} (hx : ev tm x = some (.pointer (some a0))) : Yd P nt ⟨d, .nilCheck x, ty, pos, af, gd⟩ tm h (.pointer (some a0)) := ⟨fun a w ha _ => by simp [execOp, ha.ev hx]⟩
theorem Yd.fieldAddr {s f : Nat} {x : Operand} {b o off ft : Nat} {i j : Ty} {fs : List (Nat × TypeId)} (hx : ev tm x = some (.pointer (some ⟨b, o, none⟩))) (ht : lk s T = some i) (hk : i.k = .st fs) (hf : nth fs f = some (off, ft)) (hj : lk ft T = some j) (hz : Nat.beq j.size 0 = false) :
    Yd P nt ⟨d, .fieldAddr s x f, ty, pos, af, gd⟩ tm h (.pointer (some ⟨b, o + off, none⟩)) :=
  ⟨fun a w ha hw => by
    have h1 := (hT.ok s i ht).kind
    rw [hk] at h1
    obtain ⟨fields, h2, h3⟩ := h1
    rw [nth_eq, ← h3, List.getElem?_map] at hf
    cases hfj : fields.toList[f]? with
    | none => rw [hfj] at hf; cases hf
    | some fl =>
      rw [hfj] at hf
      simp only [Option.map_some, Option.some.injEq, Prod.mk.injEq] at hf
      obtain ⟨rfl, rfl⟩ := hf
      have hfa : fields[f]? = some fl := by simpa using hfj
      have hne : ¬ j.size = 0 := fun e => by rw [e] at hz; cases hz
      have hadd : (⟨b, o, none⟩ : Addr).add fl.offset = ⟨b, o + fl.offset, none⟩ := by unfold Addr.add; split <;> simp_all
      simp [execOp, Instr.fieldAt, Instr.sureAddr, fieldPlace, ha.ev hx, run_underlying h2, hfa, (hT.ok _ j hj).run_size, hne, hadd]⟩
theorem Yd.indexAddr {t e : Nat} {x ix : Operand} {b o n c : Nat} {k : IntKind} {z : Int} {i : Ty} {jk : Tk} {js jb : Nat} {jz : List Value} (hx : ev tm x = some (.slice (some ⟨b, o, none⟩) n c)) (hix : ev tm ix = some (.int k z)) (ht : lk t T = some i) (hk : i.k = .sl e) (hj : lk e T = some ⟨jk, js, jb, jz⟩) (h0 : 0 ≤ z) (hz : z < (n : Int)) :
    Yd P nt ⟨d, .indexAddr t x ix, ty, pos, af, gd⟩ tm h (.pointer (some ⟨b, o + z.toNat * js, none⟩)) :=
  ⟨fun a w ha hw => by
    have h1 := (hT.ok t i ht).kind
    rw [hk] at h1
    have h1 : P.underlying t = some (.slice e) := h1
    have hadd : (⟨b, o, none⟩ : Addr).add (z.toNat * js) = ⟨b, o + z.toNat * js, none⟩ := by unfold Addr.add; split <;> simp_all
    simp [execOp, Instr.indexAt, asIntOf, ha.ev hx, ha.ev hix, run_underlying h1, (hT.ok e _ hj).run_size, h0, hz, hadd]⟩
theorem Yd.indexNat {t e : Nat} {x ix : Operand} {b o n c m : Nat} {k : IntKind} {i : Ty} {jk : Tk} {js jb : Nat} {jz : List Value} (hx : ev tm x = some (.slice (some ⟨b, o, none⟩) n c)) (hix : ev tm ix = some (.int k (m : Int))) (ht : lk t T = some i) (hk : i.k = .sl e) (hj : lk e T = some ⟨jk, js, jb, jz⟩) (hz : m < n) :
    Yd P nt ⟨d, .indexAddr t x ix, ty, pos, af, gd⟩ tm h (.pointer (some ⟨b, o + m * js, none⟩)) := by
  have := Yd.indexAddr (P := P) (T := T) (nt := nt) (h := h) (d := d) (ty := ty) (pos := pos) (af := af) (gd := gd) hx hix ht hk hj (by omega) (by omega)
  simpa using this
theorem Yd.extract {x : Operand} {m : Nat} {vs : Array Value} {v : Value} (hx : ev tm x = some (.tuple vs)) (hm : nth vs.toList m = some v) : Yd P nt ⟨d, .extract x m, ty, pos, af, gd⟩ tm h v :=
  ⟨fun a w ha _ => by
    rw [nth_eq] at hm
    have hm : vs[m]? = some v := by simpa using hm
    simp [execOp, Instr.extract, ha.ev hx, hm]⟩
theorem Yd.field1 {s f : Nat} {x : Operand} {off ft : Nat} {i j : Ty} {fs : List (Nat × TypeId)} {cs : Array Value} {v : Value} (hx : ev tm x = some (.agg cs)) (ht : lk s T = some i) (hk : i.k = .st fs) (hf : nth fs f = some (off, ft)) (hj : lk ft T = some j) (hg : j.k.agg = false) (hv : nth cs.toList off = some v) :
    Yd P nt ⟨d, .field s x f, ty, pos, af, gd⟩ tm h v :=
  ⟨fun a w ha hw => by
    have h1 := (hT.ok s i ht).kind
    rw [hk] at h1
    obtain ⟨fields, h2, h3⟩ := h1
    rw [nth_eq, ← h3, List.getElem?_map] at hf
    cases hfj : fields.toList[f]? with
    | none => rw [hfj] at hf; cases hf
    | some fl =>
      rw [hfj] at hf
      simp only [Option.map_some, Option.some.injEq, Prod.mk.injEq] at hf
      obtain ⟨rfl, rfl⟩ := hf
      have hfa : fields[f]? = some fl := by simpa using hfj
      rw [nth_eq] at hv
      have hv : cs[fl.offset]? = some v := by simpa using hv
      simp [execOp, Instr.field, part, asAgg, ha.ev hx, run_underlying h2, hfa, (hT.ok _ j hj).run_isAgg, hg, hv]⟩
theorem Yd.len {x : Operand} {t e : Nat} {p : Option Addr} {n c : Nat} {i : Ty} (hx : ev tm x = some (.slice p n c)) (ht : lk t T = some i) (hk : i.k = .sl e) : Yd P nt ⟨d, .call ⟨.builtin .len, #[x], #[t]⟩, ty, pos, af, gd⟩ tm h (.int .i64 (n : Int)) :=
  ⟨fun a w ha _ => by
    have h1 := (hT.ok t i ht).kind
    rw [hk] at h1
    have h1 : P.underlying t = some (.slice e) := h1
    simp [execOp, resolve, invoke, builtin, Builtin.len_, ha.ev hx, run_underlying h1, goInt]⟩
theorem Yd.lenStr {x : Operand} {t : Nat} {s : ByteArray} {i : Ty} (hx : ev tm x = some (.string s)) (ht : lk t T = some i) (hk : i.k = .sr) : Yd P nt ⟨d, .call ⟨.builtin .len, #[x], #[t]⟩, ty, pos, af, gd⟩ tm h (.int .i64 (s.size : Int)) :=
  ⟨fun a w ha _ => by
    have h1 := (hT.ok t i ht).kind
    rw [hk] at h1
    have h1 : P.underlying t = some .string := h1
    simp [execOp, resolve, invoke, builtin, Builtin.len_, ha.ev hx, run_underlying h1, goInt]⟩
theorem Yd.not {x : Operand} {t : Nat} {b : Bool} (hx : ev tm x = some (.bool b)) : Yd P nt ⟨d, .unOp .not t x, ty, pos, af, gd⟩ tm h (.bool (!b)) := ⟨fun a w ha _ => by simp [execOp, Op.unary, ha.ev hx]⟩
theorem Yd.neg {x : Operand} {t : Nat} {n : Int} (hx : ev tm x = some (.int .i64 n)) (hr : -9223372036854775807 ≤ n ∧ n ≤ 9223372036854775807) : Yd P nt ⟨d, .unOp .neg t x, ty, pos, af, gd⟩ tm h (.int .i64 (-n)) := ⟨fun a w ha _ => by
  have := IntWalk.i64_in (-n) (by omega)
  simp [execOp, Op.unary, Op.intArith, ha.ev hx, this]⟩
section
variable {x y : Operand} {t u : Nat} {m n : Int} {k : IntKind}
theorem Yd.add (hx : ev tm x = some (.int .i64 m)) (hy : ev tm y = some (.int .i64 n)) (hr : -9223372036854775808 ≤ m + n ∧ m + n ≤ 9223372036854775807) : Yd P nt ⟨d, .binOp .add t x y u, ty, pos, af, gd⟩ tm h (.int .i64 (m + n)) := ⟨fun a w ha _ => by
  simp [execOp, eqGuard, binOp, Op.intArith, ha.ev hx, ha.ev hy, IntWalk.i64_in _ hr]⟩
theorem Yd.sub (hx : ev tm x = some (.int .i64 m)) (hy : ev tm y = some (.int .i64 n)) (hr : -9223372036854775808 ≤ m - n ∧ m - n ≤ 9223372036854775807) : Yd P nt ⟨d, .binOp .sub t x y u, ty, pos, af, gd⟩ tm h (.int .i64 (m - n)) := ⟨fun a w ha _ => by
  simp [execOp, eqGuard, binOp, Op.intArith, ha.ev hx, ha.ev hy, IntWalk.i64_in _ hr]⟩
theorem Yd.mul (hx : ev tm x = some (.int .i64 m)) (hy : ev tm y = some (.int .i64 n)) (hr : -9223372036854775808 ≤ m * n ∧ m * n ≤ 9223372036854775807) : Yd P nt ⟨d, .binOp .mul t x y u, ty, pos, af, gd⟩ tm h (.int .i64 (m * n)) := ⟨fun a w ha _ => by
  simp [execOp, eqGuard, binOp, Op.intArith, ha.ev hx, ha.ev hy, IntWalk.i64_in _ hr]⟩
theorem Yd.eql (hx : ev tm x = some (.int k m)) (hy : ev tm y = some (.int k n)) : Yd P nt ⟨d, .binOp .eql t x y u, ty, pos, af, gd⟩ tm h (.bool (m == n)) := ⟨fun a w ha _ => by
  simp [execOp, eqGuard, binOp, Op.intCmp, ha.ev hx, ha.ev hy]⟩
theorem Yd.neq (hx : ev tm x = some (.int k m)) (hy : ev tm y = some (.int k n)) : Yd P nt ⟨d, .binOp .neq t x y u, ty, pos, af, gd⟩ tm h (.bool (m != n)) := ⟨fun a w ha _ => by
  simp [execOp, eqGuard, binOp, Op.intCmp, ha.ev hx, ha.ev hy]⟩
theorem Yd.lss (hx : ev tm x = some (.int k m)) (hy : ev tm y = some (.int k n)) : Yd P nt ⟨d, .binOp .lss t x y u, ty, pos, af, gd⟩ tm h (.bool (decide (m < n))) := ⟨fun a w ha _ => by
  simp [execOp, eqGuard, binOp, Op.intCmp, ha.ev hx, ha.ev hy]⟩
theorem Yd.leq (hx : ev tm x = some (.int k m)) (hy : ev tm y = some (.int k n)) : Yd P nt ⟨d, .binOp .leq t x y u, ty, pos, af, gd⟩ tm h (.bool (decide (m ≤ n))) := ⟨fun a w ha _ => by
  simp [execOp, eqGuard, binOp, Op.intCmp, ha.ev hx, ha.ev hy]⟩
theorem Yd.gtr (hx : ev tm x = some (.int k m)) (hy : ev tm y = some (.int k n)) : Yd P nt ⟨d, .binOp .gtr t x y u, ty, pos, af, gd⟩ tm h (.bool (decide (n < m))) := ⟨fun a w ha _ => by
  simp [execOp, eqGuard, binOp, Op.intCmp, ha.ev hx, ha.ev hy]⟩
theorem Yd.geq (hx : ev tm x = some (.int k m)) (hy : ev tm y = some (.int k n)) : Yd P nt ⟨d, .binOp .geq t x y u, ty, pos, af, gd⟩ tm h (.bool (decide (n ≤ m))) := ⟨fun a w ha _ => by
  simp [execOp, eqGuard, binOp, Op.intCmp, ha.ev hx, ha.ev hy]⟩
end
end
end Go.Proofs.YtgloielnnakknaaDoor

/-
  A walk over named blocks: operations that make or write memory; calls; what is handed back.
-/
namespace Go.Proofs.YtgloielnnakknaaDoor
open Go.RowKit

theorem HasB.lt {w : World} {b : Nat} {x : Hb} (hb : HasB w b x) : b < w.heap.size := by
  rcases Nat.lt_or_ge b w.heap.size with h | h
  · exact h
  · rcases hb.or with ⟨k, junk, _, h1, _⟩ | ⟨_, es, arr, clock, _, h1, _⟩ <;> (rw [Array.getElem?_eq_none h] at h1; cases h1)
theorem HasB.of_block {w w' : World} {b : Nat} {x : Hb} (hb : HasB w b x) (e : w'.heap[b]? = w.heap[b]?) : HasB w' b x := by
  unfold HasB at hb ⊢
  split at hb
  · obtain ⟨junk, h1, h2⟩ := hb
    exact ⟨junk, e.trans h1, h2⟩
  · obtain ⟨h0, arr, clock, h1, h2⟩ := hb
    exact ⟨h0, arr, clock, e.trans h1, h2⟩
section
variable {h : Hs} {w w' : World}
theorem Hp.keep (hw : Hp h w) (hs : Same h.F w w') (hb : ∀ b x, (b, x) ∈ h.hp → w'.heap[b]? = w.heap[b]?) : Hp h w' :=
  ⟨hw.same.trans hs, hw.inF, fun b x hx => (hw.blk b x hx).of_block (hb b x hx), hw.nd, hw.out⟩
theorem Hp.below (hw : Hp h w) (hb : Below w.heap.size w w') : Hp h w' :=
  hw.keep (Same.of_below hb fun b hF => Nat.lt_of_lt_of_le (hw.inF b hF) hw.same.size) fun b x hx => hb.block b (hw.blk b x hx).lt
theorem Hp.drawn (hw : Hp h w) (n : Nat) : Hp h { w with drawn := n } := hw.keep ⟨rfl, rfl, rfl, Nat.le_refl _, fun _ _ => rfl⟩ fun _ _ _ => rfl
theorem Hp.Flt (hw : Hp h w) {b : Nat} (hF : h.F b) : b < w.heap.size := Nat.lt_of_lt_of_le (hw.inF b hF) hw.same.size
/-- A new own block. -/
theorem Hp.add {F : Nat → Prop} {w0 : World} {hp : List (Nat × Hb)} (hw : Hp ⟨F, w0, hp⟩ w) (hk : Below w.heap.size w w') {b : Nat} {x : Hb} (hge : w.heap.size ≤ b) (hb : HasB w' b x) : Hp ⟨F, w0, (b, x) :: hp⟩ w' := by
  have h1 := hw.below hk
  refine ⟨h1.same, h1.inF, ?_, ?_, ?_⟩
  · intro c y hy
    rcases List.mem_cons.1 hy with e | hy
    · injection e with e1 e2; subst e1 e2; exact hb
    · exact h1.blk c y hy
  · simp only [List.map_cons, List.nodup_cons]
    refine ⟨fun hm => ?_, h1.nd⟩
    obtain ⟨⟨c, y⟩, hy, rfl⟩ := List.mem_map.1 hm
    exact absurd (hw.blk c y hy).lt (by simpa using hge)
  · intro c y hy
    rcases List.mem_cons.1 hy with e | hy
    · injection e with e1 e2; subst e1 e2
      exact fun hF => absurd (hw.Flt hF) (by omega)
    · exact h1.out c y hy
theorem Hp.alloc {F : Nat → Prop} {w0 : World} {hp : List (Nat × Hb)} (hw : Hp ⟨F, w0, hp⟩ w) (t : TypeId) (cs : Array Value) : Hp ⟨F, w0, (w.heap.size, ⟨t, cs.toList, cs.toList.length⟩) :: hp⟩ (w.alloc (.cells cs t)) :=
  hw.add ((Below.refl _ _).alloc (Nat.le_refl _) _) (Nat.le_refl _) ⟨[], by rw [heap_alloc_new]; simp, by simp⟩
end

/-- A block is exchanged. -/
inductive UpdB (b : Nat) (x y : Hb) : List (Nat × Hb) → List (Nat × Hb) → Prop
  | here {r : List (Nat × Hb)} : UpdB b x y ((b, x) :: r) ((b, y) :: r)
  | there {p : Nat × Hb} {r r' : List (Nat × Hb)} : UpdB b x y r r' → UpdB b x y (p :: r) (p :: r')
  | skip {l r r' : List (Nat × Hb)} : UpdB b x y r r' → UpdB b x y (l ++ r) (l ++ r')
theorem UpdB.mem {b : Nat} {x y : Hb} {r r' : List (Nat × Hb)} (u : UpdB b x y r r') : (b, x) ∈ r := by
  induction u with
  | here => exact List.mem_cons_self
  | there _ ih => exact List.mem_cons_of_mem _ ih
  | skip _ ih => exact List.mem_append_right _ ih
theorem UpdB.keys {b : Nat} {x y : Hb} {r r' : List (Nat × Hb)} (u : UpdB b x y r r') : r'.map Prod.fst = r.map Prod.fst := by
  induction u with
  | here => rfl
  | there _ ih => simp [ih]
  | skip _ ih => simp [ih]
theorem UpdB.cases {b : Nat} {x y : Hb} {r r' : List (Nat × Hb)} (u : UpdB b x y r r') (hn : (r.map Prod.fst).Nodup) : ∀ c z, (c, z) ∈ r' → (c = b ∧ z = y) ∨ (c ≠ b ∧ (c, z) ∈ r) := by
  induction u with
  | here =>
    intro c z hz
    simp only [List.map_cons, List.nodup_cons] at hn
    rcases List.mem_cons.1 hz with e | hz
    · injection e with e1 e2; exact .inl ⟨e1, e2⟩
    · exact .inr ⟨fun e => hn.1 (e ▸ List.mem_map_of_mem hz), List.mem_cons_of_mem _ hz⟩
  | @there p r r' u ih =>
    intro c z hz
    simp only [List.map_cons, List.nodup_cons] at hn
    rcases List.mem_cons.1 hz with e | hz
    · subst e
      exact .inr ⟨fun e => hn.1 (by have := List.mem_map_of_mem (f := Prod.fst) u.mem; simpa [e] using this), List.mem_cons_self⟩
    · rcases ih hn.2 c z hz with h | ⟨h1, h2⟩
      · exact .inl h
      · exact .inr ⟨h1, List.mem_cons_of_mem _ h2⟩
  | @skip l r r' u ih =>
    intro c z hz
    rw [List.map_append, List.nodup_append] at hn
    rcases List.mem_append.1 hz with hz | hz
    · refine .inr ⟨fun e => ?_, List.mem_append_left _ hz⟩
      have h1 : c ∈ l.map Prod.fst := List.mem_map_of_mem (f := Prod.fst) hz
      have h2 : b ∈ r.map Prod.fst := List.mem_map_of_mem (f := Prod.fst) u.mem
      exact hn.2.2 c h1 b h2 e
    · rcases ih hn.2.1 c z hz with h | ⟨h1, h2⟩
      · exact .inl h
      · exact .inr ⟨h1, List.mem_append_right _ h2⟩
theorem Hp.upd {F : Nat → Prop} {w0 w w' : World} {hp hp' : List (Nat × Hb)} {b : Nat} {x y : Hb} (hw : Hp ⟨F, w0, hp⟩ w) (u : UpdB b x y hp hp') (hg : Same (· ≠ b) w w') (hb : HasB w' b y) : Hp ⟨F, w0, hp'⟩ w' := by
  refine ⟨hw.same.trans (hg.mono fun c hF e => ?_), hw.inF, ?_, by rw [u.keys]; exact hw.nd, ?_⟩
  · subst e; exact hw.out _ _ u.mem hF
  · intro c z hz
    rcases u.cases hw.nd c z hz with ⟨rfl, rfl⟩ | ⟨h1, h2⟩
    · exact hb
    · exact (hw.blk c z h2).of_block (hg.block c h1)
  · intro c z hz
    rcases u.cases hw.nd c z hz with ⟨rfl, rfl⟩ | ⟨h1, h2⟩
    · exact hw.out _ _ u.mem
    · exact hw.out c z h2

/-- The cells vs over the cells from o on. -/
def spl : List Value → Nat → List Value → List Value
  | cs, _, [] => cs
  | [], _, _ => []
  | _ :: cs, 0, v :: vs => v :: spl cs 0 vs
  | c :: cs, o + 1, vs => c :: spl cs o vs
theorem spl_nil (cs : List Value) (o : Nat) : spl cs o [] = cs := by cases cs <;> cases o <;> rfl
theorem spl_cons : ∀ (cs : List Value) (o : Nat) (v : Value) (vs : List Value), spl cs o (v :: vs) = spl (cs.set o v) (o + 1) vs
  | [], o, v, vs => by cases vs <;> simp [spl]
  | c :: cs, 0, v, vs => by cases vs <;> simp [spl, spl_nil]
  | c :: cs, o + 1, v, vs => by
    have := spl_cons cs o v vs
    cases vs with
    | nil => simp only [spl_nil] at this; simp [spl, this]
    | cons u us => simp only [spl, List.set_cons_succ, this]
theorem spl_length : ∀ (vs cs : List Value) (o : Nat), (spl cs o vs).length = cs.length
  | [], cs, o => by rw [spl_nil]
  | v :: vs, cs, o => by rw [spl_cons, spl_length vs]; simp

theorem run_storeCells {P : Program} {b : Nat} {t : TypeId} : ∀ (vs cs : List Value) (w : World) (junk : List Value) (o i : Nat), w.heap[b]? = some (.cells (cs ++ junk).toArray t (0, 0)) → o + i + vs.length ≤ cs.length → (vs.all Value.oneCell') = true →
    ∃ w', (storeCells ⟨b, o, none⟩ vs i).run P w = .ok () w' ∧ Same (· ≠ b) w w' ∧ w'.heap[b]? = some (.cells (spl cs (o + i) vs ++ junk).toArray t (0, 0))
  | [], cs, w, junk, o, i, hh, _, _ => ⟨w, by simp [storeCells], Same.refl _ _, by rw [spl_nil]; exact hh⟩
  | v :: vs, cs, w, junk, o, i, hh, hl, ho => by
    simp only [List.length_cons] at hl
    simp only [List.all_cons, Bool.and_eq_true] at ho
    have hadd : (⟨b, o, none⟩ : Addr).add i = ⟨b, o + i, none⟩ := by unfold Addr.add; split <;> simp_all
    have hb : HasB w b ⟨t, cs, cs.length + junk.length⟩ := ⟨junk, hh, rfl⟩
    have hc : w.cell? ⟨b, o + i, none⟩ = some (cs[o + i]'(by omega)) := hb.cell (o := o + i) (List.getElem?_eq_getElem (by dsimp only; omega))
    have hf := hb.frozen (o := o + i)
    have hset : (w.setCell ⟨b, o + i, none⟩ v).heap[b]? = some (.cells (cs.set (o + i) v ++ junk).toArray t (0, 0)) := by
      simp only [World.setCell, Array.getElem?_modify, hh, if_true, Option.map_some, Option.isSome_none, Bool.false_eq_true, if_false]
      rw [List.setIfInBounds_toArray, List.set_append_left _ _ (by omega)]
    obtain ⟨w', h1, h2, h3⟩ := run_storeCells (P := P) (b := b) (t := t) vs (cs.set (o + i) v) (w.setCell ⟨b, o + i, none⟩ v) junk o (i + 1) hset (by simp; omega) ho.2
    refine ⟨w', ?_, ?_, ?_⟩
    · simp only [storeCells, Sem.run_bind, hadd, run_store P w _ v .plain ho.1, hc, hf, Bool.false_eq_true, if_false, Result.andThen_ok, h1]
    · exact Same.trans (b := w.setCell ⟨b, o + i, none⟩ v) ⟨rfl, rfl, rfl, by simp [World.setCell], fun k hk => Below.heap_setCell w ⟨b, o + i, none⟩ v k hk⟩ h2
    · rw [h3, spl_cons, Nat.add_assoc]

def vcells : Value → List Value
  | .agg cs => cs.toList
  | .bool b => [.bool b]
  | .int k n => [.int k n]
  | .float k n => [.float k n]
  | .complex k a b => [.complex k a b]
  | .string s => [.string s]
  | .pointer a => [.pointer a]
  | .slice a n c => [.slice a n c]
  | .map r => [.map r]
  | .chan r => [.chan r]
  | .func f a b => [.func f a b]
  | .nilFunc => [.nilFunc]
  | .iface t v => [.iface t v]
  | .nilIface => [.nilIface]
  | .tuple vs => [.tuple vs]
theorem vcells_eq (v : Value) : v.cells.toList = vcells v := by cases v <;> rfl

inductive ArgsL (tm : List (Nat × Value)) : List Operand → List Value → Prop
  | nil : ArgsL tm [] []
  | cons {x : Operand} {v : Value} {l : List Operand} {r : List Value} : ev tm x = some v → ArgsL tm l r → ArgsL tm (x :: l) (v :: r)
theorem ArgsL.eq {nt : Nat} {tm : List (Nat × Value)} {a : Act} (ha : Slt nt tm a) {l : List Operand} {r : List Value} (p : ArgsL tm l r) : l.map a.eval = r := by
  induction p with
  | nil => rfl
  | cons hx _ ih => simp [ha.ev hx, ih]

section
variable {P : Program} {T : List (Nat × Ty)} [hT : Tys P T] {nt : Nat} {ops : Array Oper} {Q : Exit → Act → World → Prop} {tm : List (Nat × Value)} {h : Hs} {ty : TypeId} {pos : String} {af : Array Edge} {gd : Option (Nat × Bool)}
variable {F : Nat → Prop} {w0 : World} {hp : List (Nat × Hb)}

/-- One operation; K: what follows. -/
structure OpS (P : Program) (nt : Nat) (Q : Exit → Act → World → Prop) (o : Oper) (tm : List (Nat × Value)) (h : Hs) (K : List (Nat × Value) → Hs → Prop) : Prop where
  out : ∀ a w, Slt nt tm a → Hp h w → o.wp P a w (fun a' w' => ∃ tm' h', Slt nt tm' a' ∧ Hp h' w' ∧ K tm' h') Q
theorem AWl.step {d : Option Tmp} {op : Op} {rest : List Oper} (k : OpS P nt Q ⟨d, op, ty, pos, af, none⟩ tm h (AWl P nt ops Q rest)) : AWl P nt ops Q (⟨d, op, ty, pos, af, none⟩ :: rest) tm h :=
  ⟨fun a w ha hw => wpList_plain rfl fun _ hK => Oper.wp_mono (fun a' w' ⟨_, _, h1, h2, h3⟩ => hK a' w' (h3.out a' w' h1 h2)) (k.out a w ha hw)⟩
theorem yielded_of {j t : Nat} {b : Bool} {a : Act} (ha : Slt nt tm a) (hj : (ops[j]?).bind (·.dst) = some t) (hb : lk t tm = some (.bool b)) : yielded ops a.tmps j = some b := by
  simp [yielded, hj, ha.tm t _ hb]
theorem AWl.stepT {d : Option Tmp} {op : Op} {rest : List Oper} {j t : Nat} {want b : Bool} (hj : (ops[j]?).bind (·.dst) = some t) (hb : lk t tm = some (.bool b)) (hw : b = want) (k : OpS P nt Q ⟨d, op, ty, pos, af, some (j, want)⟩ tm h (AWl P nt ops Q rest)) : AWl P nt ops Q (⟨d, op, ty, pos, af, some (j, want)⟩ :: rest) tm h :=
  ⟨fun a w ha hw' => wpList_step fun K hK => by
    have : Region.wanted ⟨d, op, ty, pos, af, some (j, want)⟩ (yielded ops a.tmps) = true := by simp [Region.wanted, yielded_of ha hj hb, hw]
    rw [if_pos this]
    exact Oper.wp_mono (fun a' w' ⟨_, _, h1, h2, h3⟩ => hK a' w' (h3.out a' w' h1 h2)) (k.out a w ha hw')⟩
theorem AWl.stepF {d : Tmp} {op : Op} {rest : List Oper} {j t : Nat} {want b : Bool} (hj : (ops[j]?).bind (·.dst) = some t) (hb : lk t tm = some (.bool b)) (hw : b = !want) (hd : Nat.blt d nt = true) (k : AWl P nt ops Q rest ((d, undef) :: tm) h) : AWl P nt ops Q (⟨some d, op, ty, pos, af, some (j, want)⟩ :: rest) tm h :=
  ⟨fun a w ha hw' => wpList_step fun K hK => by
    have : ¬ Region.wanted ⟨some d, op, ty, pos, af, some (j, want)⟩ (yielded ops a.tmps) = true := by
      simp [Region.wanted, yielded_of ha hj hb, hw]
    rw [if_neg this]
    exact hK _ _ (k.out _ w (ha.put (by simpa using hd) _) hw')⟩
theorem AWl.stepF' {op : Op} {rest : List Oper} {j t : Nat} {want b : Bool} (hj : (ops[j]?).bind (·.dst) = some t) (hb : lk t tm = some (.bool b)) (hw : b = !want) (k : AWl P nt ops Q rest tm h) : AWl P nt ops Q (⟨none, op, ty, pos, af, some (j, want)⟩ :: rest) tm h :=
  ⟨fun a w ha hw' => wpList_step fun K hK => by
    have : ¬ Region.wanted ⟨none, op, ty, pos, af, some (j, want)⟩ (yielded ops a.tmps) = true := by
      simp [Region.wanted, yielded_of ha hj hb, hw]
    rw [if_neg this]
    exact hK _ _ (k.out _ w ha hw')⟩

theorem OpS.yd {d : Tmp} {op : Op} {v : Value} {K : List (Nat × Value) → Hs → Prop} (y : Yd P nt ⟨some d, op, ty, pos, af, gd⟩ tm h v) (hd : Nat.blt d nt = true) (k : K ((d, v) :: tm) h) : OpS P nt Q ⟨some d, op, ty, pos, af, gd⟩ tm h K :=
  ⟨fun a w ha hw => by
    unfold Oper.wp
    rw [y.out a w ha hw]
    exact ⟨_, h, ha.put (by simpa using hd) v, hw, k⟩⟩
theorem OpS.of_run {d : Tmp} {op : Op} {K : List (Nat × Value) → Hs → Prop} (hd : Nat.blt d nt = true)
    (y : ∀ a w, Slt nt tm a → Hp h w → ∃ v w' h', (execOp a.eval ⟨some d, op, ty, pos, af, gd⟩).run P w = .ok (.value v) w' ∧ Hp h' w' ∧ K ((d, v) :: tm) h') : OpS P nt Q ⟨some d, op, ty, pos, af, gd⟩ tm h K :=
  ⟨fun a w ha hw => by
    obtain ⟨v, w', h', h1, h2, h3⟩ := y a w ha hw
    unfold Oper.wp
    rw [h1]
    exact ⟨_, h', ha.put (by simpa using hd) v, h2, h3⟩⟩
theorem OpS.box {d : Tmp} {t : TypeId} {x : Operand} {v : Value} {K : List (Nat × Value) → Hs → Prop} (hx : ev tm x = some v) (hd : Nat.blt d nt = true)
    (k : ∀ b, K ((d, .pointer (some ⟨b, 0, none⟩)) :: tm) ⟨F, w0, (b, ⟨t, vcells v, (vcells v).length⟩) :: hp⟩) : OpS P nt Q ⟨some d, .box t x, ty, pos, af, gd⟩ tm ⟨F, w0, hp⟩ K :=
  .of_run hd fun a w ha hw => by
    refine ⟨_, _, _, ?_, by have := hw.alloc t v.cells; rw [vcells_eq] at this; exact this, k _⟩
    simp [execOp, Instr.box, newVar, newRow, ha.ev hx]
theorem OpS.alloc {d : Tmp} {t : TypeId} {ik : Tk} {is ib : Nat} {iz : List Value} {K : List (Nat × Value) → Hs → Prop} (ht : lk t T = some ⟨ik, is, ib, iz⟩) (hd : Nat.blt d nt = true)
    (k : ∀ b, K ((d, .pointer (some ⟨b, 0, none⟩)) :: tm) ⟨F, w0, (b, ⟨t, iz, iz.length⟩) :: hp⟩) : OpS P nt Q ⟨some d, .alloc t, ty, pos, af, gd⟩ tm ⟨F, w0, hp⟩ K :=
  .of_run hd fun a w ha hw => by
    obtain ⟨z, hz1, hz2⟩ := (hT.ok t _ ht).run_zero w
    refine ⟨_, _, _, ?_, by have := hw.alloc t z.cells; rw [hz2] at this; exact this, k _⟩
    simp [execOp, Instr.alloc, newVar, newRow, hz1]
theorem OpS.store {t : TypeId} {x y : Operand} {b o : Nat} {v : Value} {i : Ty} {z : Hb} {cs' : List Value} {hp' : List (Nat × Hb)} {K : List (Nat × Value) → Hs → Prop} (hx : ev tm x = some (.pointer (some ⟨b, o, none⟩))) (hy : ev tm y = some v) (ht : lk t T = some i)
    (u : UpdB b z ⟨z.ty, cs', z.tot⟩ hp hp') (hn : (vcells v).length = i.size) (h1 : (vcells v).all Value.oneCell' = true) (hl : Nat.ble (o + i.size) z.cs.length = true) (hcs : spl z.cs o (vcells v) = cs') (k : K tm ⟨F, w0, hp'⟩) :
    OpS P nt Q ⟨none, .store t x y, ty, pos, af, gd⟩ tm ⟨F, w0, hp⟩ K :=
  ⟨fun a w ha hw => by
    have hsz : v.cells.size = i.size := by rw [← hn, ← vcells_eq]; simp
    rcases (hw.blk b z u.mem).or with ⟨tk, junk, htk, hh, hj⟩ | ⟨h0, es, arr, clock, q1, q2, q3⟩
    case inr =>
      have hz : (vcells v).length = 0 := by rw [hn]; rw [h0] at hl; simp at hl; exact hl.2
      have hv : vcells v = [] := List.eq_nil_of_length_eq_zero hz
      have hrun : (execOp a.eval ⟨none, .store t x y, ty, pos, af, gd⟩).run P w = .ok .skip w := by
        simp [execOp, Instr.storeAt, Instr.sureAddr, storeVar, ha.ev hx, ha.ev hy, (hT.ok t i ht).run_size, hsz, vcells_eq, hv, storeCells]
      unfold Oper.wp
      rw [hrun]
      refine ⟨tm, _, ha, hw.upd u (Same.refl _ _) ?_, k⟩
      unfold HasB
      rw [hv, spl_nil, h0] at hcs
      dsimp only
      rw [q1]
      exact ⟨hcs.symm, arr, clock, q2, q3⟩
    obtain ⟨w', e1, e2, e3⟩ := run_storeCells (P := P) (vcells v) z.cs w junk o 0 hh (by rw [hn]; simpa using hl) h1
    have hrun : (execOp a.eval ⟨none, .store t x y, ty, pos, af, gd⟩).run P w = .ok .skip w' := by
      simp [execOp, Instr.storeAt, Instr.sureAddr, storeVar, ha.ev hx, ha.ev hy, (hT.ok t i ht).run_size, hsz, vcells_eq, e1]
    unfold Oper.wp
    rw [hrun]
    refine ⟨tm, _, ha, hw.upd u e2 ?_, k⟩
    unfold HasB
    dsimp only
    rw [htk]
    refine ⟨junk, ?_, ?_⟩
    · rw [e3, ← hcs]; rfl
    · simp only [← hcs, spl_length]; exact hj⟩

/-- A call of a function by its contract. M: what is known of the answer and of memory behind it. -/
theorem OpS.call {d : Tmp} {f : FuncId} {fn : Func} {c : Code} {xs : List Operand} {ts : Array TypeId} {vs : List Value} {K : List (Nat × Value) → Hs → Prop} (M : Value → Hs → Prop) (hf : P.funcs[f]? = some fn) (hb : fn.body = some c) (hnm : (fn.name == "runtime.NumGoroutine") = false) (hx : ArgsL tm xs vs) (hd : Nat.blt d nt = true)
    (hC : ∀ w, Hp h w → Calls P f vs.toArray w fun e w' => ∃ v h', e = .returned v ∧ Hp h' w' ∧ M v h') (k : ∀ v h', M v h' → K ((d, v) :: tm) h') : OpS P nt Q ⟨some d, .call ⟨.value (.func f), xs.toArray, ts⟩, ty, pos, af, gd⟩ tm h K :=
  ⟨fun a w ha hw => by
    have hargs : xs.toArray.map a.eval = vs.toArray := by rw [List.map_toArray, hx.eq ha]
    have hrun : (execOp a.eval ⟨some d, .call ⟨.value (.func f), xs.toArray, ts⟩, ty, pos, af, gd⟩).run P w = .ok (.enter f vs.toArray) w := by
      have hnm' : ¬ fn.name = "runtime.NumGoroutine" := by simpa using hnm
      simp only [execOp, resolve, Sem.run_bind, hargs, Deferred.ofValue, Act.eval, invoke, callFunc]
      simp [hf, hb, hnm']
    unfold Oper.wp
    rw [hrun]
    refine (hC w hw).mono ?_
    rintro e w' ⟨v, h', rfl, h1, h2⟩
    exact ⟨_, h', ha.put (by simpa using hd) v, h1, k v h' h2⟩⟩
theorem OpS.call0 {f : FuncId} {fn : Func} {c : Code} {xs : List Operand} {ts : Array TypeId} {vs : List Value} {K : List (Nat × Value) → Hs → Prop} (M : Value → Hs → Prop) (hf : P.funcs[f]? = some fn) (hb : fn.body = some c) (hnm : (fn.name == "runtime.NumGoroutine") = false) (hx : ArgsL tm xs vs)
    (hC : ∀ w, Hp h w → Calls P f vs.toArray w fun e w' => ∃ v h', e = .returned v ∧ Hp h' w' ∧ M v h') (k : ∀ v h', M v h' → K tm h') : OpS P nt Q ⟨none, .call ⟨.value (.func f), xs.toArray, ts⟩, ty, pos, af, gd⟩ tm h K :=
  ⟨fun a w ha hw => by
    have hargs : xs.toArray.map a.eval = vs.toArray := by rw [List.map_toArray, hx.eq ha]
    have hrun : (execOp a.eval ⟨none, .call ⟨.value (.func f), xs.toArray, ts⟩, ty, pos, af, gd⟩).run P w = .ok (.enter f vs.toArray) w := by
      have hnm' : ¬ fn.name = "runtime.NumGoroutine" := by simpa using hnm
      simp only [execOp, resolve, Sem.run_bind, hargs, Deferred.ofValue, Act.eval, invoke, callFunc]
      simp [hf, hb, hnm']
    unfold Oper.wp
    rw [hrun]
    refine (hC w hw).mono ?_
    rintro e w' ⟨v, h', rfl, h1, h2⟩
    exact ⟨_, h', ha, h1, k v h' h2⟩⟩
end
end Go.Proofs.YtgloielnnakknaaDoor

/-
  A walk over named blocks: regions that draw their order; entering and leaving a function.
-/
namespace Go.Proofs.YtgloielnnakknaaDoor
open Go.RowKit

class PanicOk (Q : Exit → Act → World → Prop) : Prop where
  ok : ∀ c (a : Act) d v w, Q (.panic c) (a.put d v) w → Q (.panic c) a w
instance {P : Program} {fn : Func} {R : Ending → World → Prop} : PanicOk (bodyPost P fn R) := ⟨fun c a d v w hq => by
  cases d <;> exact hq⟩
instance {K : Act → World → Prop} {Q : Exit → Act → World → Prop} [q : PanicOk Q] : PanicOk (Exit.then K Q) := ⟨fun c a d v w hq => q.ok c a d v w hq⟩
instance {i : Nat} {Q : Exit → Act → World → Prop} [q : PanicOk Q] : PanicOk (Exit.inBlock i Q) := ⟨fun c a d v w hq => q.ok c a d v w hq⟩

section
variable {P : Program} {ops : Array Oper} {Q : Exit → Act → World → Prop} {md : Region.Mode} {S : World → Prop} {late : List Nat}

/-- Operation j waits for operation i. -/
def waits (md : Region.Mode) (ops : Array Oper) : Nat → Nat → Nat → Bool
  | 0, _, _ => false
  | n + 1, j, i => match ops[j]? with
    | none => false
    | some o => o.after.toList.any fun e => Region.binds md e && (e.on == i || waits md ops n e.on i)
def DepsIn (md : Region.Mode) (listed : Array Bool) (o : Oper) : Prop := ∀ e ∈ o.after, Region.binds md e = true → listed.getD e.on false = true
def DC (md : Region.Mode) (ops : Array Oper) (listed : Array Bool) : Prop := ∀ j o, ops[j]? = some o → listed.getD j false = true → DepsIn md listed o
theorem waits_listed {listed : Array Bool} (hd : DC md ops listed) {i : Nat} : ∀ (n j : Nat) (o : Oper), ops[j]? = some o → DepsIn md listed o → waits md ops n j i = true → listed.getD i false = true
  | 0, _, _, _, _, h => by simp [waits] at h
  | n + 1, j, o, ho, hdep, h => by
    simp only [waits, ho, List.any_eq_true, Bool.and_eq_true, Bool.or_eq_true, beq_iff_eq] at h
    obtain ⟨e, he, hb, h⟩ := h
    have hl := hdep e (by simpa using he) hb
    rcases h with rfl | h
    · exact hl
    · cases hk : ops[e.on]? with
      | none => cases n <;> simp [waits, hk] at h
      | some o' => exact waits_listed hd n e.on o' hk (hd _ _ hk hl) h
theorem getD_set_false {listed : Array Bool} {i k : Nat} (h : listed.getD k false = true) : (listed.setIfInBounds i true).getD k false = true := by
  by_cases hik : i = k
  · subst hik
    have hlt : i < listed.size := by
      rcases Nat.lt_or_ge i listed.size with h' | h'
      · exact h'
      · simp [Array.getElem?_eq_none h'] at h
    simp [hlt]
  · rw [getD_set_ne false hik]; exact h
theorem DC.set {listed : Array Bool} (hd : DC md ops listed) {i : Nat} {oi : Oper} (hi : ops[i]? = some oi) (hdep : DepsIn md listed oi) : DC md ops (listed.setIfInBounds i true) := by
  intro j o ho hj e he hb
  by_cases hij : i = j
  · subst hij
    rw [hi] at ho; injection ho with ho; subst ho
    exact getD_set_false (hdep e he hb)
  · rw [getD_set_ne false hij] at hj
    exact getD_set_false (hd j o ho hj e he hb)
theorem DC.start : DC md ops (Array.replicate ops.size false) := fun j o _ hj => by
  rcases Nat.lt_or_ge j ops.size with h | h <;> simp [h] at hj

/-- Whatever order is picked; S holds behind every operation that is not late. -/
def wpAnyG (P : Program) (md : Region.Mode) (ops : Array Oper) (Q : Exit → Act → World → Prop) (S : World → Prop) (late : List Nat) : Nat → Array Bool → Act → World → Prop
  | 0, listed, a, w => Region.ready md ops listed = [] ∧ Q .normal a w
  | fuel + 1, listed, a, w =>
    (Region.ready md ops listed = [] → Q .normal a w) ∧
    ∀ i ∈ Region.ready md ops listed, wpOp P ops Q i (fun a' w' => (late.contains i = false → S w') ∧ wpAnyG P md ops Q S late fuel (listed.setIfInBounds i true) a' w') a w
theorem wpAny_of_G : ∀ (fuel : Nat) (listed : Array Bool) (a : Act) (w : World), wpAnyG P md ops Q S late fuel listed a w → wpAny P md ops Q fuel listed a w
  | 0, _, _, _, h => h
  | fuel + 1, _, _, _, h => ⟨h.1, fun i hi => wpOp_mono (fun a' w' h' => wpAny_of_G fuel _ a' w' h'.2) (h.2 i hi)⟩
theorem wpAnyG_first {i : Nat} {oi : Oper} {v : Value} (hi : ops[i]? = some oi) (hsel : ∀ (j : Nat) (o : Oper) cs b, ops[j]? = some o → o.op ≠ .select cs b)
    (hQ : ∀ c a w, Q (.panic c) (a.put oi.dst v) w → Q (.panic c) a w) {n : Nat} (hlate : ∀ j, late.contains j = true → waits md ops n j i = true) :
    ∀ (fuel : Nat) (listed : Array Bool) (a : Act) (w : World), DC md ops listed →
      (∀ j oj, ops[j]? = some oj → j ≠ i → listed.getD j true = false → (∀ e ∈ oj.after, Region.binds md e = true → e.on ≠ i) → oi.apart ops oj = true) →
      i ∈ Region.ready md ops listed → YieldsIf P ops S oi v a → S w →
      wpAnyG P md ops Q S late fuel (listed.setIfInBounds i true) (a.put oi.dst v) w → wpAnyG P md ops Q S late (fuel + 1) listed a w := by
  intro fuel
  induction fuel with
  | zero =>
    intro listed a w _ _ hr hy hS H
    refine ⟨fun h => (by rw [h] at hr; cases hr), fun j hj => ?_⟩
    by_cases hji : j = i
    · subst hji; exact hy.wpOp hi hS ⟨fun _ => hS, H⟩
    · have := ready_mono hj hji
      rw [H.1] at this
      cases this
  | succ fuel ih =>
    intro listed a w hdc hfree hr hy hS H
    refine ⟨fun h => (by rw [h] at hr; cases hr), fun j hj => ?_⟩
    by_cases hji : j = i
    · subst hji; exact hy.wpOp hi hS ⟨fun _ => hS, H⟩
    · have h1 := H.2 j (ready_mono hj hji)
      obtain ⟨hjun, oj, hoj, hall⟩ := mem_ready.1 hj
      have hiun : listed.getD i false ≠ true := fun h' => by
        have h0 := (mem_ready.1 hr).1
        rcases Nat.lt_or_ge i listed.size with h2 | h2
        · simp [h2] at h0 h'; rw [h0] at h'; cases h'
        · simp [Array.getElem?_eq_none h2] at h'
      have hnl : late.contains j = false := by
        cases hc : late.contains j
        · rfl
        · exact absurd (waits_listed hdc n j oj hoj hall (hlate j hc)) hiun
      have hnot : ∀ e ∈ oj.after, Region.binds md e = true → e.on ≠ i := fun e he hb heq => hiun (heq ▸ hall e he hb)
      have h2 := wpOp_putIf hoj (hfree j oj hoj hji hjun hnot) (fun cs b => hsel i oi cs b hi) (fun cs b => hsel j oj cs b hoj) hQ hy h1
      have hfree' : ∀ k ok, ops[k]? = some ok → k ≠ i → (listed.setIfInBounds j true).getD k true = false →
          (∀ e ∈ ok.after, Region.binds md e = true → e.on ≠ i) → oi.apart ops ok = true := fun k ok hk hki hun hno => by
        refine hfree k ok hk hki ?_ hno
        by_cases hjk : j = k
        · subst hjk; exact hjun
        · rw [getD_set_ne true hjk] at hun; exact hun
      refine wpOp_mono (fun a' w' h3 => ⟨h3.2.1, ih (listed.setIfInBounds j true) a' w' (hdc.set hoj hall) hfree' (ready_mono hr (Ne.symm hji)) h3.1 (h3.2.1 hnl) ?_⟩) h2
      rw [Array.setIfInBounds_comm _ _ hji]
      exact h3.2.2
end

section
variable {P : Program} {T : List (Nat × Ty)} [hT : Tys P T] {nt : Nat} {ops : Array Oper} {Q : Exit → Act → World → Prop} {tm : List (Nat × Value)} {h h0 : Hs} {late : List Nat} {fuel : Nat} {listed : Array Bool} {todo mem : List Nat}

/-- In a region that draws: todo and mem say what is tried next. -/
structure AWr (P : Program) (nt : Nat) (ops : Array Oper) (Q : Exit → Act → World → Prop) (late : List Nat) (h0 : Hs) (fuel : Nat) (listed : Array Bool) (_todo _mem : List Nat) (tm : List (Nat × Value)) (h : Hs) : Prop where
  out : DC .any ops listed → ∀ a w, Slt nt tm a → Hp h w → (fuel ≠ 0 → Hp h0 w) → wpAnyG P .any ops Q (Hp h0) late fuel listed a w
/-- Is S asked behind the operation? And is it at hand? -/
structure Nxt (P : Program) (nt : Nat) (ops : Array Oper) (Q : Exit → Act → World → Prop) (late : List Nat) (h0 : Hs) (fuel : Nat) (listed : Array Bool) (todo mem : List Nat) (i : Nat) (tm : List (Nat × Value)) (h : Hs) : Prop where
  s1 : late.contains i = false → ∀ w, Hp h w → Hp h0 w
  s2 : late.contains i = true → fuel = 0 ∨ ∀ w, Hp h w → Hp h0 w
  k : AWr P nt ops Q late h0 fuel (listed.setIfInBounds i true) todo mem tm h
def idxs {α : Type} : List α → Nat → List Nat
  | [], _ => []
  | _ :: l, n => n :: idxs l (n + 1)
theorem AWc.draw {P : Program} {T : List (Nat × Ty)} [hT : Tys P T] {i : Nat} {l : List Oper} (late : List Nat) (k : AWr P nt l.toArray Q late h l.length (Array.replicate l.length false) [] [] tm h) : AWc P nt Q (.region i l.toArray true) tm h :=
  ⟨fun a w ha hw => wp_region_any hT.mo (wpAny_of_G (S := Hp h) (late := late) _ _ _ _ (by
    have := k.out (by have := DC.start (md := .any) (ops := l.toArray); simpa using this) a { w with drawn := w.drawn + 1 } ha (hw.drawn _) (fun _ => hw.drawn _)
    simpa using this))⟩
theorem AWr.skip {i : Nat} {r : List Nat} (_hl : listed.getD i false = true) (k : AWr P nt ops Q late h0 fuel listed r mem tm h) : AWr P nt ops Q late h0 fuel listed (i :: r) mem tm h := ⟨k.out⟩
theorem AWr.again (k : AWr P nt ops Q late h0 fuel listed mem [] tm h) : AWr P nt ops Q late h0 fuel listed [] mem tm h := ⟨k.out⟩
theorem AWr.done (hr : Region.ready .any ops listed = []) (k : AWq nt Q .normal tm h) : AWr P nt ops Q late h0 fuel listed todo mem tm h := ⟨fun _ a w ha hw _ => by
  cases fuel with
  | zero => exact ⟨hr, k.out a w ha hw⟩
  | succ n => exact ⟨fun _ => k.out a w ha hw, by rw [hr]; simp⟩⟩
theorem AWr.takeG [q : PanicOk Q] {i : Nat} {r : List Nat} {oi : Oper} {v : Value} {d : Tmp} (hi : ops[i]? = some oi) (hs : Region.noSelect ops = true) (hf : Region.free .any ops listed i = true) (hr : (Region.ready .any ops listed).contains i = true)
    (hl : (late.all fun j => waits .any ops ops.size j i) = true) (hdst : oi.dst = some d) (hd : Nat.blt d nt = true) (y : ∀ a, Slt nt tm a → YieldsIf P ops (Hp h0) oi v a)
    (k : AWr P nt ops Q late h0 fuel (listed.setIfInBounds i true) r mem ((d, v) :: tm) h) : AWr P nt ops Q late h0 (fuel + 1) listed (i :: r) mem tm h := ⟨fun hdc a w ha hw hw0 => by
  have hr' : i ∈ Region.ready .any ops listed := by simpa using hr
  obtain ⟨_, o, ho, hdep⟩ := mem_ready.1 hr'
  have : o = oi := by rw [hi] at ho; injection ho with e; exact e.symm
  subst this
  refine wpAnyG_first hi (Region.noSelect_spec hs) (fun c a w hq => q.ok c a _ _ w hq) (n := ops.size) (fun j hj => ?_) fuel listed a w hdc (Region.free_spec hi hf) hr' (y a ha) (hw0 (by omega)) (k.out (hdc.set hi hdep) _ w (by rw [hdst]; exact ha.put (by simpa using hd) v) hw (fun _ => hw0 (by omega)))
  have := List.all_eq_true.1 hl j (by simpa using hj)
  exact this⟩
theorem AWr.take [PanicOk Q] {i : Nat} {r : List Nat} {d : Tmp} {op : Op} {ty : TypeId} {pos : String} {af : Array Edge} {v : Value} (hi : ops[i]? = some ⟨some d, op, ty, pos, af, none⟩) (y : Yd P nt ⟨some d, op, ty, pos, af, none⟩ tm h0 v) (hs : Region.noSelect ops = true) (hf : Region.free .any ops listed i = true) (hr : (Region.ready .any ops listed).contains i = true)
    (hl : (late.all fun j => waits .any ops ops.size j i) = true) (hd : Nat.blt d nt = true)
    (k : AWr P nt ops Q late h0 fuel (listed.setIfInBounds i true) r mem ((d, v) :: tm) h) : AWr P nt ops Q late h0 (fuel + 1) listed (i :: r) mem tm h :=
  AWr.takeG hi hs hf hr hl rfl hd (fun a ha => .inl ⟨by simp [Region.wanted], fun w hw => y.out a w ha hw⟩) k
/-- What the kernel reckons for an operation that is taken first. -/
def regOk (ops : Array Oper) (listed : Array Bool) (late : List Nat) (i : Nat) : Bool := Region.noSelect ops && (Region.free .any ops listed i && ((Region.ready .any ops listed).contains i && late.all fun j => waits .any ops ops.size j i))
section
variable {P : Program} {nt : Nat} {ops : Array Oper} {Q : Exit → Act → World → Prop} [PanicOk Q] {tm : List (Nat × Value)} {h h0 : Hs} {late : List Nat} {fuel : Nat} {listed : Array Bool} {todo mem : List Nat} {d : Tmp} {op : Op} {ty : TypeId} {pos : String} {af : Array Edge} {v : Value} {j t : Nat} {want b : Bool}
end
theorem AWr.exec1 {i : Nat} {d : Option Tmp} {op : Op} {ty : TypeId} {pos : String} {af : Array Edge} (hi : ops[i]? = some ⟨d, op, ty, pos, af, none⟩)
    (k : OpS P nt Q ⟨d, op, ty, pos, af, none⟩ tm h (Nxt P nt ops Q late h0 fuel listed mem [] i)) (hr : i ∈ Region.ready .any ops listed) (hdc : DC .any ops listed) : ∀ a w, Slt nt tm a → Hp h w → (fuel + 1 ≠ 0 → Hp h0 w) →
      wpOp P ops Q i (fun a' w' => (late.contains i = false → Hp h0 w') ∧ wpAnyG P .any ops Q (Hp h0) late fuel (listed.setIfInBounds i true) a' w') a w := fun a w ha hw _ => by
  obtain ⟨_, o, ho, hdep⟩ := mem_ready.1 hr
  have : o = ⟨d, op, ty, pos, af, none⟩ := by rw [hi] at ho; injection ho with e; exact e.symm
  subst this
  unfold wpOp
  simp only [hi]
  rw [if_pos (by simp [Region.wanted])]
  refine .inl (Oper.wp_mono ?_ (k.out a w ha hw))
  rintro a' w' ⟨tm', h', h1, h2, h3, h5, h4⟩
  refine ⟨fun hn => h3 hn w' h2, h4.out (hdc.set hi hdep) a' w' h1 h2 (fun hf => ?_)⟩
  cases hc : late.contains i
  · exact h3 hc w' h2
  · rcases h5 hc with e | e
    · exact absurd e hf
    · exact e w' h2
theorem AWr.one {i : Nat} {d : Option Tmp} {op : Op} {ty : TypeId} {pos : String} {af : Array Edge} (hr : Region.ready .any ops listed = [i]) (hi : ops[i]? = some ⟨d, op, ty, pos, af, none⟩)
    (k : OpS P nt Q ⟨d, op, ty, pos, af, none⟩ tm h (Nxt P nt ops Q late h0 fuel listed mem [] i)) : AWr P nt ops Q late h0 (fuel + 1) listed [] mem tm h := ⟨fun hdc a w ha hw hw0 => by
  refine ⟨fun h' => (by rw [hr] at h'; cases h'), fun j hj => ?_⟩
  have hj' := hj
  rw [hr] at hj
  obtain rfl : j = i := by simpa using hj
  exact AWr.exec1 hi k hj' hdc a w ha hw hw0⟩
theorem AWr.two {i j : Nat} {d d' : Option Tmp} {op op' : Op} {ty ty' : TypeId} {pos pos' : String} {af af' : Array Edge} (hr : Region.ready .any ops listed = [i, j]) (hi : ops[i]? = some ⟨d, op, ty, pos, af, none⟩) (hj : ops[j]? = some ⟨d', op', ty', pos', af', none⟩)
    (k : OpS P nt Q ⟨d, op, ty, pos, af, none⟩ tm h (Nxt P nt ops Q late h0 fuel listed mem [] i)) (k' : OpS P nt Q ⟨d', op', ty', pos', af', none⟩ tm h (Nxt P nt ops Q late h0 fuel listed mem [] j)) : AWr P nt ops Q late h0 (fuel + 1) listed [] mem tm h := ⟨fun hdc a w ha hw hw0 => by
  refine ⟨fun h' => (by rw [hr] at h'; cases h'), fun m hm => ?_⟩
  have hm' := hm
  rw [hr] at hm
  rcases List.mem_cons.1 hm with rfl | hm
  · exact AWr.exec1 hi k hm' hdc a w ha hw hw0
  · obtain rfl : m = j := by simpa using hm
    exact AWr.exec1 hj k' hm' hdc a w ha hw hw0⟩
theorem Nxt.same {F : Nat → Prop} {w0 : World} {hp hp0 : List (Nat × Hb)} {i : Nat} (s : hp0.Sublist hp) (k : AWr P nt ops Q late ⟨F, w0, hp0⟩ fuel (listed.setIfInBounds i true) todo mem tm ⟨F, w0, hp⟩) : Nxt P nt ops Q late ⟨F, w0, hp0⟩ fuel listed todo mem i tm ⟨F, w0, hp⟩ :=
  ⟨fun _ _ hw => hw.sub s, fun _ => .inr fun _ hw => hw.sub s, k⟩
theorem Nxt.last {i : Nat} (hl : late.contains i = true) (k : AWr P nt ops Q late h0 0 (listed.setIfInBounds i true) todo mem tm h) : Nxt P nt ops Q late h0 0 listed todo mem i tm h :=
  ⟨fun e => (by rw [hl] at e; cases e), fun _ => .inl rfl, k⟩
theorem Nxt.of {i : Nat} (s : ∀ w, Hp h w → Hp h0 w) (k : AWr P nt ops Q late h0 fuel (listed.setIfInBounds i true) todo mem tm h) : Nxt P nt ops Q late h0 fuel listed todo mem i tm h :=
  ⟨fun _ => s, fun _ => .inr s, k⟩
end

/-! Entering and leaving -/
section
variable {P : Program} {T : List (Nat × Ty)} [hT : Tys P T] {nt : Nat} {tm : List (Nat × Value)} {h : Hs} {fn : Func} {R : Ending → World → Prop}
def slots : Nat → List Value → List (Nat × Value)
  | _, [] => []
  | n, v :: vs => (n, v) :: slots (n + 1) vs
theorem slots_lk : ∀ (vs : List Value) (n k : Nat) (v : Value), lk k (slots n vs) = some v → n ≤ k ∧ vs[k - n]? = some v
  | [], n, k, v, h => by simp [slots, lk] at h
  | u :: us, n, k, v, h => by
    simp only [slots, lk] at h
    cases hb : Nat.beq k n
    · rw [hb] at h
      obtain ⟨h1, h2⟩ := slots_lk us (n + 1) k v h
      refine ⟨by omega, ?_⟩
      rw [show k - n = (k - (n + 1)) + 1 by omega]; simpa using h2
    · rw [hb] at h
      have := Nat.eq_of_beq_eq_true hb
      subst this
      simpa using h
theorem Hp.init (w : World) : Hp ⟨(· < w.heap.size), w, []⟩ w := ⟨Same.refl _ _, fun _ h => h, fun _ _ h => (by cases h), by simp, fun _ _ h => (by cases h)⟩
theorem calls_of_AW {f : FuncId} {c : Code} {vs : List Value} {w : World} (hf : P.funcs[f]? = some fn) (hb : fn.body = some c) (hn : fn.ntmps = nt) (hv : Nat.ble vs.length nt = true) (hw : Hp h w) (k : AWc P nt (bodyPost P fn R) c (slots 0 vs) h) : Calls P f vs.toArray w R := by
  have hle : vs.length ≤ nt := by simpa using hv
  refine calls_of_wp hf hb (k.out _ w ⟨rfl, ?_, ?_⟩ hw)
  · simp [hn]; omega
  · intro j v hj
    obtain ⟨_, h2⟩ := slots_lk vs 0 j v hj
    have hlt : j < vs.length := by
      rcases Nat.lt_or_ge j vs.length with h' | h'
      · exact h'
      · rw [Nat.sub_zero, List.getElem?_eq_none h'] at h2; cases h2
    rw [Nat.sub_zero] at h2
    simp [hlt, hn] at h2 ⊢
    rw [← h2]
    simp [Array.getElem?_append, hlt]
/-- The value of a result. -/
def resRun (tmps : Array Value) : ResultVar → Sem Value
  | .tmp t => pure (tmps.getD t undef)
  | .cell c t => do loadVar t (← asAddr (tmps.getD c undef))
theorem results_eq (fn : Func) (tmps : Array Value) : results fn tmps = (do let vs ← fn.results.mapM (resRun tmps); pure (if h : vs.size = 1 then vs[0] else .tuple vs)) := by
  unfold results
  congr 2
structure Res (P : Program) (nt : Nat) (tm : List (Nat × Value)) (h : Hs) (r : ResultVar) (v : Value) : Prop where
  out : ∀ (a : Act) w, Slt nt tm a → Hp h w → (resRun a.tmps r).run P w = .ok v w
theorem Res.tmp {t : Tmp} {v : Value} (ht : lk t tm = some v) : Res P nt tm h (.tmp t) v := ⟨fun a w ha _ => by
  have := ha.tm t v ht
  simp [resRun, this]⟩
theorem Res.cell {c : Tmp} {t : TypeId} {b o : Nat} {i : Ty} {vs : List Value} (hc : lk c tm = some (.pointer (some ⟨b, o, none⟩))) (ht : lk t T = some i) (hk : i.k.agg = true) (hcs : CellsA h b o vs) (hn : i.size = vs.length) : Res P nt tm h (.cell c t) (.agg vs.toArray) := ⟨fun a w ha hw => by
  have := ha.tm c _ hc
  have h2 := run_loadCells (P := P) (w := w) (b := b) vs o 0 #[] (fun j u hu => by simpa using hcs.out w hw j u hu)
  simp [resRun, this, asAddr, loadVar, (hT.ok t i ht).run_isAgg, hk, (hT.ok t i ht).run_size, hn, loadCells, h2]⟩
theorem Res.cell1 {c : Tmp} {t : TypeId} {b o : Nat} {i : Ty} {v : Value} (hc : lk c tm = some (.pointer (some ⟨b, o, none⟩))) (ht : lk t T = some i) (hk : i.k.agg = false) (hcs : CellA h b o v) : Res P nt tm h (.cell c t) v := ⟨fun a w ha hw => by
  have := ha.tm c _ hc
  simp [resRun, this, asAddr, loadVar, (hT.ok t i ht).run_isAgg, hk, hcs.out w hw]⟩
end
end Go.Proofs.YtgloielnnakknaaDoor

/-
  A walk over named blocks: build, buildSlice, append, slice expressions.
-/
namespace Go.Proofs.YtgloielnnakknaaDoor
open Go.RowKit

theorem fold_spl : ∀ (vs : List Value) (cells : Array Value) (off k : Nat), ((vs.zipIdx k).foldl (fun cs (p : Value × Nat) => cs.setIfInBounds (off + p.2) p.1) cells).toList = spl cells.toList (off + k) vs
  | [], cells, off, k => by simp [spl_nil]
  | v :: vs, cells, off, k => by
    rw [List.zipIdx_cons, List.foldl_cons, fold_spl vs, spl_cons]
    simp [Nat.add_assoc]
/-- The parts of a struct or of a row, laid over the zero. -/
def fillV (place : Nat → Option (Nat × Nat)) : List Value → List (Nat × Value) → Option (List Value)
  | cs, [] => some cs
  | cs, (i, v) :: r => match place i with
    | none => none
    | some (off, size) => bif Nat.beq (vcells v).length size && Nat.ble (off + (vcells v).length) cs.length then fillV place (spl cs off (vcells v)) r else none
theorem fill_eq (place : Nat → Option (Nat × Nat)) : ∀ (l : List (Nat × Value)) (cells : Array Value) (cs : List Value), fillV place cells.toList l = some cs → Instr.fill place cells l = some cs.toArray
  | [], cells, cs, h => by simp [fillV] at h; simp [Instr.fill, ← h]
  | (i, v) :: r, cells, cs, h => by
    simp only [fillV] at h
    simp only [Instr.fill]
    cases hp : place i with
    | none => simp [hp] at h
    | some q =>
      obtain ⟨off, size⟩ := q
      simp only [hp] at h ⊢
      cases hb : (Nat.beq (vcells v).length size && Nat.ble (off + (vcells v).length) cells.toList.length)
      · rw [hb] at h; simp at h
      · rw [hb] at h
        simp only [cond_true] at h
        simp only [Bool.and_eq_true, Nat.beq_eq_true_eq, Nat.ble_eq] at hb
        have hsz : v.cells.size = (vcells v).length := by rw [← vcells_eq]; simp
        rw [if_neg (by rw [hsz]; simp; simp at hb; omega)]
        refine fill_eq place r _ cs ?_
        rw [← h]
        have := fold_spl v.cells.toList cells off 0
        rw [← vcells_eq]
        rw [← Array.foldl_toList, Array.toList_zipIdx]
        rw [this, Nat.add_zero]

inductive PartsL (tm : List (Nat × Value)) : List (Nat × Operand) → List (Nat × Value) → Prop
  | nil : PartsL tm [] []
  | cons {i : Nat} {x : Operand} {v : Value} {l : List (Nat × Operand)} {r : List (Nat × Value)} : ev tm x = some v → PartsL tm l r → PartsL tm ((i, x) :: l) ((i, v) :: r)
theorem PartsL.eq {nt : Nat} {tm : List (Nat × Value)} {a : Act} (ha : Slt nt tm a) {l : List (Nat × Operand)} {r : List (Nat × Value)} (p : PartsL tm l r) : l.map (fun q => (q.1, a.eval q.2)) = r := by
  induction p with
  | nil => rfl
  | cons hx _ ih => simp [ha.ev hx, ih]
def szs (T : List (Nat × Ty)) : List (Nat × TypeId) → Option (List (Nat × Nat))
  | [] => some []
  | (off, t) :: r => match lk t T, szs T r with
    | some i, some l => some ((off, i.size) :: l)
    | _, _ => none
theorem szs_run {P : Program} {T : List (Nat × Ty)} [hT : Tys P T] (w : World) : ∀ (fields : List Field) (ps : List (Nat × Nat)), szs T (fields.map fun f => (f.offset, f.type)) = some ps →
    (fields.mapM (fun f => do pure (f.offset, ← sizeOf f.type) : Field → Sem (Nat × Nat))).run P w = .ok ps w
  | [], ps, h => by simp [szs] at h; simp [← h]
  | f :: fs, ps, h => by
    simp only [List.map_cons, szs] at h
    cases h1 : lk f.type T with
    | none => simp [h1] at h
    | some i =>
      cases h2 : szs T (fs.map fun f => (f.offset, f.type)) with
      | none => simp [h1, h2] at h
      | some l =>
        simp only [h1, h2, Option.some.injEq] at h
        have := szs_run (P := P) w fs l h2
        rw [List.mapM_cons, ← h]
        simp only [Sem.run_bind, (hT.ok _ _ h1).run_size, Result.andThen_ok, Sem.run_pure, this]

section
variable {P : Program} {T : List (Nat × Ty)} [hT : Tys P T] {nt : Nat} {ops : Array Oper} {Q : Exit → Act → World → Prop} {tm : List (Nat × Value)} {h : Hs} {ty : TypeId} {pos : String} {af : Array Edge} {gd : Option (Nat × Bool)}
variable {F : Nat → Prop} {w0 : World} {hp : List (Nat × Hb)}

theorem Yd.build {d : Option Tmp} {t : TypeId} {parts : List (Nat × Operand)} {vs : List (Nat × Value)} {i : Ty} {fs : List (Nat × TypeId)} {ps : List (Nat × Nat)} {cs : List Value} (ht : lk t T = some i) (hk : i.k = .st fs) (hs : szs T fs = some ps) (hv : PartsL tm parts vs) (hf : fillV (nth ps) i.zero vs = some cs) :
    Yd P nt ⟨d, .build t parts.toArray, ty, pos, af, gd⟩ tm h (.agg cs.toArray) := ⟨fun a w ha _ => by
  have h1 := (hT.ok t i ht).kind
  rw [hk] at h1
  obtain ⟨fields, h2, h3⟩ := h1
  obtain ⟨z, hz1, hz2⟩ := (hT.ok t i ht).run_zero w
  rw [← h3] at hs
  have hm := szs_run (P := P) w fields.toList ps hs
  have hpl : (parts.toArray.map fun (q : Nat × Operand) => (q.1, a.eval q.2)) = vs.toArray := by rw [List.map_toArray, hv.eq ha]
  have hfill : Instr.fill (ps.toArray[·]?) z.cells vs = some cs.toArray := by
    refine fill_eq _ vs z.cells cs ?_
    rw [hz2, ← hf]
    congr 1
    funext j
    simp [nth_eq]
  have hm' : (fields.mapM (fun f => do pure (f.offset, ← sizeOf f.type) : Field → Sem (Nat × Nat))).run P w = .ok ps.toArray w := by
    rw [Array.mapM_eq_mapM_toList]
    simp only [map_eq_pure_bind, Sem.run_bind, hm, Result.andThen_ok, Sem.run_pure]
  have hpl' : (parts.toArray.map fun x => match x with | (j, x) => (j, a.eval x)) = vs.toArray := hpl
  simp only [execOp, Instr.build, Sem.run_bind, hz1, Result.andThen_ok, run_underlying h2, hm', hpl', hfill, Sem.run_pure]⟩

theorem OpS.buildSlice {d : Tmp} {t e : TypeId} {n : Nat} {parts : List (Nat × Operand)} {vs : List (Nat × Value)} {i j : Ty} {cs : List Value} {K : List (Nat × Value) → Hs → Prop} (ht : lk t T = some i) (hk : i.k = .sl e) (hj : lk e T = some j) (hn : Nat.ble (n * j.size) 16777216 = true) (hv : PartsL tm parts vs)
    (hf : fillV (fun m => some (m * j.size, j.size)) ((List.range (n * j.size)).map fun m => j.zero[m % j.zero.length]!) vs = some cs) (hd : Nat.blt d nt = true)
    (k : ∀ b, K ((d, .slice (some ⟨b, 0, none⟩) n n) :: tm) ⟨F, w0, (b, ⟨e, cs, cs.length⟩) :: hp⟩) : OpS P nt Q ⟨some d, .buildSlice t n parts.toArray, ty, pos, af, gd⟩ tm ⟨F, w0, hp⟩ K :=
  .of_run hd fun a w ha hw => by
    have h1 := (hT.ok t i ht).kind
    rw [hk] at h1
    have h1 : P.underlying t = some (.slice e) := h1
    obtain ⟨z, hz1, hz2⟩ := (hT.ok e j hj).run_zero w
    have hpl : (parts.toArray.map fun (q : Nat × Operand) => (q.1, a.eval q.2)) = vs.toArray := by rw [List.map_toArray, hv.eq ha]
    have hfill : Instr.fill (fun m => some (m * j.size, j.size)) ((Array.range (n * j.size)).map ((if n * j.size = 0 then #[] else z.cells)[· % (if n * j.size = 0 then (#[] : Array Value) else z.cells).size]!)) vs = some cs.toArray := by
      refine fill_eq _ vs _ cs ?_
      rw [← hf]
      congr 1
      by_cases h0 : n * j.size = 0
      · simp [h0]
      · simp only [h0, if_false, Array.toList_map, Array.toList_range]
        refine List.map_congr_left fun m _ => ?_
        rw [← hz2]
        simp only [getElem!_def, Array.length_toList, Array.getElem?_toList]
    refine ⟨_, _, _, ?_, hw.alloc e cs.toArray, by simpa using k _⟩
    have hle : ¬ n * j.size > 2 ^ 24 := by simp at hn; omega
    have hpl' : (parts.toArray.map fun x => match x with | (j, x) => (j, a.eval x)) = vs.toArray := hpl
    by_cases h0 : n * j.size = 0
    · simp only [h0, if_true] at hfill hle
      simp only [execOp, Instr.buildSlice, Sem.run_bind, run_underlying h1, Result.andThen_ok, (hT.ok e j hj).run_size, h0, hle, if_true, if_false, Sem.run_pure, hpl', hfill]
      simp [newRow]
    · simp only [h0, if_false] at hfill
      simp only [execOp, Instr.buildSlice, Sem.run_bind, run_underlying h1, Result.andThen_ok, (hT.ok e j hj).run_size, h0, hle, if_false, Sem.run_pure, hz1, hpl', hfill]
      simp [newRow]

/-- A slice's cells, wherever they lie. -/
structure SrcA (h : Hs) (B : Option Addr) (news : List Value) : Prop where
  out : ∀ w, Hp h w → Rd w B news
theorem SrcA.own {b : Nat} {x : Hb} (m : MemB b x hp) : SrcA ⟨F, w0, hp⟩ (some ⟨b, 0, none⟩) x.cs := ⟨fun w hw _ => by
  have hb := hw.blk b x m.mem
  exact ⟨b, 0, rfl, hb.lt, fun j u hu => by rw [Nat.zero_add]; exact hb.cell hu⟩⟩
theorem SrcA.frz {B : Option Addr} {news : List Value} (hr : RdIn w0 F B news) : SrcA ⟨F, w0, hp⟩ B news := ⟨fun w hw hn => by
  obtain ⟨b, o, e, h1, _, h2⟩ := hr hn
  exact ⟨b, o, e, hw.Flt h1, fun j u hu => (hw.same.cell (p := ⟨b, o + j, none⟩) h1).trans (h2 j u hu)⟩⟩
theorem SrcA.nil {B : Option Addr} : SrcA h B [] := ⟨fun _ _ => Rd.nil⟩
inductive RemB (b : Nat) (x : Hb) : List (Nat × Hb) → List (Nat × Hb) → Prop
  | here {r : List (Nat × Hb)} : RemB b x ((b, x) :: r) r
  | there {p : Nat × Hb} {r r' : List (Nat × Hb)} : RemB b x r r' → RemB b x (p :: r) (p :: r')
theorem RemB.mem {b : Nat} {x : Hb} {r r' : List (Nat × Hb)} (u : RemB b x r r') : (b, x) ∈ r := by
  induction u with
  | here => exact List.mem_cons_self
  | there _ ih => exact List.mem_cons_of_mem _ ih
theorem RemB.sub {b : Nat} {x : Hb} {r r' : List (Nat × Hb)} (u : RemB b x r r') : r'.Sublist r := by
  induction u with
  | here => exact List.sublist_cons_self _ _
  | there _ ih => exact ih.cons_cons _
theorem RemB.ne {b : Nat} {x : Hb} {r r' : List (Nat × Hb)} (u : RemB b x r r') (hn : (r.map Prod.fst).Nodup) : ∀ c z, (c, z) ∈ r' → c ≠ b := by
  induction u with
  | here =>
    intro c z hz e
    simp only [List.map_cons, List.nodup_cons] at hn
    exact hn.1 (e ▸ List.mem_map_of_mem hz)
  | @there p r r' u ih =>
    intro c z hz
    simp only [List.map_cons, List.nodup_cons] at hn
    rcases List.mem_cons.1 hz with e | hz
    · subst e
      exact fun e => hn.1 (by have := List.mem_map_of_mem (f := Prod.fst) u.mem; simpa [e] using this)
    · exact ih hn.2 c z hz

theorem TyOk.slice {t e : TypeId} {i j : Ty} (ht : lk t T = some i) (hk : i.k = .sl e) (hj : lk e T = some j) (hz : j.zero.length = j.size) (hp : 0 < j.size) : SliceTy P t e j.size j.bytes := by
  have h1 := (hT.ok t i ht).kind
  rw [hk] at h1
  obtain ⟨f, z, h2, h3, h4, h5, h6⟩ := (hT.ok e j hj).info
  exact ⟨h1, ⟨f, z, h2, h5, h3, h4, by rw [← hz, ← h6]; simp⟩, hp⟩
/-- Behind an append onto a row of the call's own. -/
theorem Hp.grow {w w' : World} {hp' : List (Nat × Hb)} {b g : Nat} {x y : Hb} (hw : Hp ⟨F, w0, hp⟩ w) (u : RemB b x hp hp') (hg : w.grownBy w' (some b)) (hat : g = b ∨ g = w.heap.size) (hb : HasB w' g y) : Hp ⟨F, w0, (g, y) :: hp'⟩ w' := by
  have hk : ∀ c z, (c, z) ∈ hp' → c ≠ b := u.ne hw.nd
  have hnF : ¬ F b := hw.out b x u.mem
  refine ⟨hw.same.trans ⟨hg.os, hg.tape, hg.output, hg.size, fun c hc => hg.block c (hw.Flt hc) (fun e => hnF (by injection e with e; exact e ▸ hc))⟩, hw.inF, ?_, ?_, ?_⟩
  · intro c z hz
    rcases List.mem_cons.1 hz with e | hz
    · injection e with e1 e2; subst e1 e2; exact hb
    · have := hw.blk c z (u.sub.subset hz)
      exact this.of_block (hg.block c this.lt (fun e => hk c z hz (by injection e)))
  · simp only [List.map_cons, List.nodup_cons]
    refine ⟨fun hm => ?_, (u.sub.map _).nodup hw.nd⟩
    obtain ⟨⟨c, z⟩, hz, e⟩ := List.mem_map.1 hm
    simp only at e
    subst e
    rcases hat with e | e
    · exact hk _ _ hz e
    · exact absurd (hw.blk c z (u.sub.subset hz)).lt (by omega)
  · intro c z hz
    rcases List.mem_cons.1 hz with e | hz
    · injection e with e1 e2
      subst e1 e2
      rcases hat with e | e
      · rw [e]; exact hnF
      · exact fun hF => absurd (hw.Flt hF) (by omega)
    · exact hw.out c z (u.sub.subset hz)
theorem own_hasB {w : World} {base : Nat} {e : TypeId} {size g n c : Nat} {xs : List Value} (ho : w.ownsRow base e size (.slice (some ⟨g, 0, none⟩) n c) n xs) : HasB w g ⟨e, xs, c * size⟩ ∧ n ≤ c ∧ c ≤ maxLen := by
  rcases ho.2 with ⟨hv, _⟩ | ⟨g', cap, cur, hv, _, hh, h1, h2, h3, h4⟩
  · cases hv
  · injection hv with e1 e2 e3
    injection e1 with e1
    injection e1 with e1
    subst e1 e3
    refine ⟨⟨cur.toList.drop (n * size), ?_, ?_⟩, h1, h2⟩
    · simp only [← h4, List.take_append_drop]; simpa using hh
    · have hl := ho.1
      simp only [hl, List.length_drop, Array.length_toList, h3]
      have := Nat.mul_le_mul_right size h1
      omega
theorem own_of_hasB {w : World} {e : TypeId} {size g n c : Nat} {xs : List Value} (hb : HasB w g ⟨e, xs, c * size⟩) (hl : xs.length = n * size) (hc : n ≤ c) (hm : c ≤ maxLen) : w.ownsRow 0 e size (.slice (some ⟨g, 0, none⟩) n c) n xs := by
  obtain ⟨junk, h1, h2⟩ := hb
  refine ⟨hl, .inr ⟨g, c, _, rfl, Nat.zero_le _, h1, hc, hm, ?_, ?_⟩⟩
  · simp only [List.size_toArray, List.length_append]; exact h2
  · simp only [← hl]; simp
section
variable {d : Option Tmp} {t e : TypeId} {x lo hi : Operand} {b o n c : Nat} {k k' : IntKind} {l m : Nat} {i : Ty} {jk : Tk} {js jb : Nat} {jz : List Value}
theorem run_slice_aux {w : World} {A : Option Addr} (ht : lk t T = some i) (hk : i.k = .sl e) (hj : lk e T = some ⟨jk, js, jb, jz⟩) {lo hi : Option Value} {l m c n : Nat} (hlo : (lo = none ∧ l = 0) ∨ ∃ k, lo = some (.int k (l : Int))) (hhi : (hi = none ∧ m = n) ∨ ∃ k, hi = some (.int k (m : Int))) (h1 : l ≤ m) (h2 : m ≤ c) :
    (Instr.sliceAt t (.slice A n c) lo hi none).run P w = .ok (.slice (if c = l then A else A.map (·.add (l * js))) (m - l) (c - l)) w := by
  have hu := (hT.ok t i ht).kind
  rw [hk] at hu
  have hu : P.underlying t = some (.slice e) := hu
  rcases hlo with ⟨rfl, rfl⟩ | ⟨kl, rfl⟩ <;> rcases hhi with ⟨rfl, rfl⟩ | ⟨kh, rfl⟩
  · simp [Instr.sliceAt, Instr.slice, Instr.sliceBounds, run_underlying hu, (hT.ok e _ hj).run_size]
  · simp [Instr.sliceAt, Instr.slice, Instr.sliceBounds, Instr.sliceBound, asIntOf, run_underlying hu, (hT.ok e _ hj).run_size, h2]
  · simp [Instr.sliceAt, Instr.slice, Instr.sliceBounds, Instr.sliceBound, asIntOf, run_underlying hu, (hT.ok e _ hj).run_size, h1]
  · simp [Instr.sliceAt, Instr.slice, Instr.sliceBounds, Instr.sliceBound, asIntOf, run_underlying hu, (hT.ok e _ hj).run_size, h1, h2]
end
end
end Go.Proofs.YtgloielnnakknaaDoor

/-
  A walk over named blocks: the table of types is checked by the kernel.
-/
namespace Go.Proofs.YtgloielnnakknaaDoor
open Go.RowKit

def vEqb : Value → Value → Bool
  | .bool a, .bool b => a == b
  | .int k a, .int k' b => k == k' && a == b
  | .string a, .string b => a.data.isEmpty && b.data.isEmpty
  | .pointer none, .pointer none => true
  | .slice none a b, .slice none c d => a == c && b == d
  | .map none, .map none => true
  | .nilFunc, .nilFunc => true
  | .nilIface, .nilIface => true
  | _, _ => false
theorem vEqb_eq {a b : Value} (h : vEqb a b = true) : a = b := by
  unfold vEqb at h
  split at h
  · rw [eq_of_beq h]
  · simp only [Bool.and_eq_true] at h; rw [eq_of_beq h.1, eq_of_beq h.2]
  · rename_i a b
    obtain ⟨a⟩ := a
    obtain ⟨b⟩ := b
    simp at h
    rw [h.1, h.2]
  · rfl
  · simp only [Bool.and_eq_true] at h; rw [eq_of_beq h.1, eq_of_beq h.2]
  · rfl
  · rfl
  · rfl
  · cases h
def vsEqb : List Value → List Value → Bool
  | [], [] => true
  | a :: l, b :: r => vEqb a b && vsEqb l r
  | _, _ => false
theorem vsEqb_eq : ∀ {l r : List Value}, vsEqb l r = true → l = r
  | [], [], _ => rfl
  | a :: l, b :: r, h => by
    simp only [vsEqb, Bool.and_eq_true] at h
    rw [vEqb_eq h.1, vsEqb_eq h.2]
  | [], _ :: _, h => by simp [vsEqb] at h
  | _ :: _, [], h => by simp [vsEqb] at h
def kChk : TypeDesc → Tk → Bool
  | .struct f, .st fs => (f.toList.map fun f => (f.offset, f.type)) == fs
  | .array n e, .ar n' e' => n == n' && e == e'
  | .slice e, .sl e' => e == e'
  | .map k e, .mp k' e' => k == k' && e == e'
  | .int k, .in_ k' => k == k'
  | .bool, .bo => true
  | .string, .sr => true
  | .pointer e, .pt e' => e == e'
  | .func _ _ _, .ot => true
  | .interface _, .ot => true
  | _, _ => false
def tyChk (P : Program) (t : TypeId) (i : Ty) : Bool := match P.info? t, P.underlying t with
  | some f, some d => f.size == i.size && (f.bytes == i.bytes && ((match f.zero with | some z => vsEqb z.cells.toList i.zero | none => false) && kChk d i.k))
  | _, _ => false
theorem tyChk_ok {P : Program} {t : TypeId} {i : Ty} (h : tyChk P t i = true) : TyOk P t i := by
  unfold tyChk at h
  cases hf : P.info? t with
  | none => simp [hf] at h
  | some f =>
    cases hd : P.underlying t with
    | none => simp [hf, hd] at h
    | some d =>
      simp only [hf, hd, Bool.and_eq_true] at h
      obtain ⟨h1, h2, h3, h4⟩ := h
      cases hz : f.zero with
      | none => simp [hz] at h3
      | some z =>
        simp only [hz] at h3
        refine ⟨⟨f, z, hf, eq_of_beq h1, eq_of_beq h2, hz, vsEqb_eq h3⟩, ?_⟩
        obtain ⟨k, s, b, zz⟩ := i
        simp only at h4
        unfold kChk at h4
        split at h4
        · exact ⟨_, hd, eq_of_beq h4⟩
        · simp only [Bool.and_eq_true] at h4; rw [eq_of_beq h4.1, eq_of_beq h4.2] at hd; exact hd
        · rw [eq_of_beq h4] at hd; exact hd
        · simp only [Bool.and_eq_true] at h4; rw [eq_of_beq h4.1, eq_of_beq h4.2] at hd; exact hd
        · rw [eq_of_beq h4] at hd; exact hd
        · exact hd
        · exact hd
        · rw [eq_of_beq h4] at hd; exact hd
        · exact ⟨_, hd, by simp, by simp⟩
        · exact ⟨_, hd, by simp, by simp⟩
        · cases h4
theorem tys_of {P : Program} {T : List (Nat × Ty)} (h : (T.all fun p => tyChk P p.1 p.2) = true) (mo : P.follows .mixedOrders = true) : Tys P T :=
  ⟨fun t i ht => tyChk_ok (List.all_eq_true.1 h (t, i) (lk_mem ht)), mo⟩
end Go.Proofs.YtgloielnnakknaaDoor

/-
  A walk over named blocks: rows of the call's own that may be nil.
-/
namespace Go.Proofs.YtgloielnnakknaaDoor
open Go.RowKit

/-- The block of a row of the call's own, if there is one. -/
def hbA (A : Option Addr) (e : TypeId) (xs : List Value) (c size : Nat) : List (Nat × Hb) := match A with
  | none => []
  | some a => [(a.block, ⟨e, xs, c * size⟩)]
/-- A slice of n elements that is nil, or begins a block. -/
structure OkA (A : Option Addr) (xs : List Value) (n c size : Nat) : Prop where
  form : (A = none ∧ n = 0 ∧ c = 0) ∨ ∃ g, A = some ⟨g, 0, none⟩
  len : xs.length = n * size
  cap : n ≤ c
  max : c ≤ maxLen
theorem OkA.nil (size : Nat) : OkA none [] 0 0 size := ⟨.inl ⟨rfl, rfl, rfl⟩, by simp, by simp, by simp⟩
theorem OkA.of_own {w : World} {base : Nat} {e : TypeId} {size n c : Nat} {A : Option Addr} {xs : List Value} (h : w.ownsRow base e size (.slice A n c) n xs) : OkA A xs n c size := by
  rcases h.2 with ⟨hv, h0⟩ | ⟨g, cap, cur, hv, _, _, h1, h2, _⟩
  · injection hv with e1 e2 e3
    subst e1 e2 e3
    exact ⟨.inl ⟨rfl, rfl, rfl⟩, h.1, Nat.le_refl _, Nat.zero_le _⟩
  · injection hv with e1 e2 e3
    subst e1 e3
    exact ⟨.inr ⟨g, rfl⟩, h.1, h1, h2⟩
/-- A place in a list of blocks. -/
inductive RowAt (X : List (Nat × Hb)) : List (Nat × Hb) → (List (Nat × Hb) → List (Nat × Hb)) → Prop
  | here {r : List (Nat × Hb)} : RowAt X (X ++ r) (fun Y => Y ++ r)
  | there {p : Nat × Hb} {r : List (Nat × Hb)} {f : List (Nat × Hb) → List (Nat × Hb)} : RowAt X r f → RowAt X (p :: r) (fun Y => p :: f Y)
  | skip {l r : List (Nat × Hb)} {f : List (Nat × Hb) → List (Nat × Hb)} : RowAt X r f → RowAt X (l ++ r) (fun Y => l ++ f Y)
section
variable {X hp : List (Nat × Hb)} {f : List (Nat × Hb) → List (Nat × Hb)}
theorem RowAt.eq (r : RowAt X hp f) : f X = hp := by
  induction r with
  | here => rfl
  | there _ ih => simp [ih]
  | skip _ ih => simp [ih]
theorem RowAt.perm (r : RowAt X hp f) : ∀ Y, (f Y).Perm (Y ++ f []) := by
  induction r with
  | here => intro Y; simp
  | @there p r f _ ih => intro Y; exact ((ih Y).cons p).trans List.perm_middle.symm
  | @skip l r f _ ih =>
    intro Y
    refine ((ih Y).append_left l).trans ?_
    simp only [← List.append_assoc]
    exact (List.perm_append_comm).append_right _
end
theorem Hp.perm {F : Nat → Prop} {w0 w : World} {hp hp' : List (Nat × Hb)} (hw : Hp ⟨F, w0, hp⟩ w) (p : hp.Perm hp') : Hp ⟨F, w0, hp'⟩ w :=
  ⟨hw.same, hw.inF, fun b x hx => hw.blk b x (p.mem_iff.2 hx), (p.map _).nodup_iff.1 hw.nd, fun b x hx => hw.out b x (p.mem_iff.2 hx)⟩
section
variable {F : Nat → Prop} {w0 w w' : World} {hp : List (Nat × Hb)} {f : List (Nat × Hb) → List (Nat × Hb)} {A A' : Option Addr} {e : TypeId} {xs ys : List Value} {n m c c' size : Nat}
theorem Hp.row (hw : Hp ⟨F, w0, hp⟩ w) (r : RowAt (hbA A e xs c size) hp f) (ha : OkA A xs n c size) : w.ownsRow 0 e size (.slice A n c) n xs := by
  rcases ha.form with ⟨rfl, rfl, rfl⟩ | ⟨g, rfl⟩
  · have : xs = [] := List.eq_nil_of_length_eq_zero (by rw [ha.len]; simp)
    subst this
    exact World.ownsRow_nil _ _ _ _
  · have hm : (g, (⟨e, xs, c * size⟩ : Hb)) ∈ hp := by
      have := (r.perm (hbA (some ⟨g, 0, none⟩) e xs c size)).mem_iff (a := (g, (⟨e, xs, c * size⟩ : Hb)))
      rw [r.eq] at this
      exact this.2 (by simp [hbA])
    exact own_of_hasB (hw.blk _ _ hm) ha.len ha.cap ha.max
theorem Hp.rowGrow (hw : Hp ⟨F, w0, hp⟩ w) (r : RowAt (hbA A e xs c size) hp f) (ha : OkA A xs n c size) (hg : w.grownBy w' (Value.slice A n c).ownBlock) (ho : w'.ownsRow 0 e size (.slice A' m c') m ys)
    (hat : (Value.slice A' m c').ownBlock = (Value.slice A n c).ownBlock ∨ (Value.slice A' m c').ownBlock = some w.heap.size) : Hp ⟨F, w0, f (hbA A' e ys c' size)⟩ w' := by
  have h1 : Hp ⟨F, w0, hbA A e xs c size ++ f []⟩ w := hw.perm (by have := r.perm (hbA A e xs c size); rwa [r.eq] at this)
  refine Hp.perm (hp := hbA A' e ys c' size ++ f []) ?_ (r.perm _).symm
  have ho' := OkA.of_own ho
  rcases ha.form with ⟨rfl, rfl, rfl⟩ | ⟨g, rfl⟩
  · have hb : Below w.heap.size w w' := ⟨hg.os, hg.tape, hg.output, hg.size, fun k hk => hg.block k hk (by simp [Value.ownBlock])⟩
    rcases ho'.form with ⟨rfl, rfl, rfl⟩ | ⟨g', rfl⟩
    · exact h1.below hb
    · obtain ⟨q1, _, _⟩ := own_hasB ho
      have hge : g' = w.heap.size := by simpa [Value.ownBlock] using hat
      exact Hp.add (by simpa [hbA] using h1) hb (by dsimp only; omega) q1
  · rcases ho'.form with ⟨rfl, rfl, rfl⟩ | ⟨g', rfl⟩
    · simp [Value.ownBlock] at hat
    · obtain ⟨q1, _, _⟩ := own_hasB ho
      have hge : g' = g ∨ g' = w.heap.size := by simpa [Value.ownBlock] using hat
      exact Hp.grow (b := g) (by simpa [hbA] using h1) RemB.here (by simpa [Value.ownBlock] using hg) hge q1
theorem Hp.addRow (hw : Hp ⟨F, w0, hp⟩ w) (hb : Below w.heap.size w w') {base : Nat} (hbase : w.heap.size ≤ base) (ho : w'.ownsRow base e size (.slice A n c) n xs) : Hp ⟨F, w0, hbA A e xs c size ++ hp⟩ w' := by
  rcases (OkA.of_own ho).form with ⟨rfl, _⟩ | ⟨g, rfl⟩
  · exact hw.below hb
  · obtain ⟨q1, _, _⟩ := own_hasB ho
    have := (ho.lt g rfl).1
    exact hw.add hb (by dsimp only; omega) q1
theorem SrcA.row (r : RowAt (hbA A e xs c size) hp f) (ha : OkA A xs n c size) : SrcA ⟨F, w0, hp⟩ A xs := ⟨fun w hw => Rd.of_own (hw.row r ha)⟩
end
section
variable {P : Program} {T : List (Nat × Ty)} [hT : Tys P T] {nt : Nat} {ops : Array Oper} {Q : Exit → Act → World → Prop} {tm : List (Nat × Value)} {h : Hs} {ty : TypeId} {pos : String} {af : Array Edge} {gd : Option (Nat × Bool)}
variable {F : Nat → Prop} {w0 : World} {hp : List (Nat × Hb)}
theorem OpS.appendA {d : Tmp} {t e : TypeId} {x y : Operand} {A B : Option Addr} {n c m dd : Nat} {xs news : List Value} {i : Ty} {jk : Tk} {js jb : Nat} {jz : List Value} {f : List (Nat × Hb) → List (Nat × Hb)} {K : List (Nat × Value) → Hs → Prop} (hx : ev tm x = some (.slice A n c)) (hy : ev tm y = some (.slice B m dd)) (ht : lk t T = some i) (hk : i.k = .sl e) (hj : lk e T = some ⟨jk, js, jb, jz⟩) (hz : jz.length = js) (hpos : 0 < js)
    (ha : OkA A xs n c js) (r : RowAt (hbA A e xs c js) hp f) (hs : SrcA ⟨F, w0, hp⟩ B news) (hln : news.length = m * js) (h1 : ∀ u ∈ news, u.oneCell' = true) (hb : (n + m) * jb ≤ 140737488355328) (hmx : n + m ≤ maxLen) (hd : Nat.blt d nt = true)
    (k : ∀ A' c', OkA A' (xs ++ news) (n + m) c' js → K ((d, .slice A' (n + m) c') :: tm) ⟨F, w0, f (hbA A' e (xs ++ news) c' js)⟩) :
    OpS P nt Q ⟨some d, .call ⟨.builtin .append, #[x, y], #[t, t]⟩, ty, pos, af, gd⟩ tm ⟨F, w0, hp⟩ K :=
  .of_run hd fun a w ha' hw => by
    have ho := hw.row r ha
    obtain ⟨A', c', w', hrun, h2, h3, h4⟩ := run_app (TyOk.slice (P := P) ht hk hj hz hpos) ty ho (hs.out w hw) hln h1 hmx hb (Nat.zero_le _) (d := dd)
    refine ⟨_, w', _, ?_, hw.rowGrow r ha h3 h2 h4, k A' c' (OkA.of_own h2)⟩
    simp [execOp, resolve, invoke, builtin, ha'.ev hx, ha'.ev hy, hrun]
theorem AWc.loopS {ι : Type} {c : Code} (Φ : ι → Prop) (m : ι → Nat) (tS : ι → List (Nat × Value)) (hS : ι → Hs) (x0 : ι) (h0 : Φ x0) (s : SubT tm (tS x0)) (hh : ∀ w, Hp h w → Hp (hS x0) w)
    (k : ∀ x, Φ x → AWc P nt (Exit.then (Rnd nt Φ m tS hS (m x)) Q) c (tS x) (hS x)) : AWc P nt Q (.loop c) tm h := ⟨fun a w ha hw => (AWc.loop Φ m tS hS x0 h0 k).out a w (ha.sub s) (hh w hw)⟩
end
theorem RdIn.cutA {w : World} {ok : Nat → Prop} {b o c l size n : Nat} {xs : List Value} (h : RdIn w ok (some ⟨b, o, none⟩) xs) (hl : xs.length = n * size) (hk : l ≤ n) (hc : n ≤ c) : RdIn w ok (some ⟨b, if c = l then o else o + l * size, none⟩) (xs.drop (l * size)) := by
  have := h.cut (k := l) (cap := c) hl hk hc
  by_cases hcl : c = l
  · rw [if_pos hcl] at this ⊢; exact this
  · rw [if_neg hcl] at this ⊢
    have hadd : (⟨b, o, none⟩ : Addr).add (l * size) = ⟨b, o + l * size, none⟩ := by unfold Addr.add; split <;> simp_all
    simpa [hadd] using this
end Go.Proofs.YtgloielnnakknaaDoor
namespace Go.Proofs.YtgloielnnakknaaDoor
open Go.RowKit

/-- One cell as a tree that holds no name. -/
inductive V where
  | int (k : IntKind) (n : Int)
  | bool (b : Bool)
  | str (s : ByteArray)
  | nl
  | sl (sz : Nat) (rs : List (List V))
  | pn
  | fn (f : FuncId)
  | v (x : Value)
  /-- A pointer into member i of the family k. -/
  | m (k i o : Nat)
  /-- A function value that holds pointers to frozen cells. -/
  | cl (f : FuncId) (cs : List (List V))
  /-- A frozen map (whether values are structs; the entries). -/
  | fz (vg : Bool) (es : List (List V × List V))
/-- One cell as a tree: u: no name; ow: a slice over the own array k; p: into the own box k; e: into row i of the own array k; q: to frozen cells; fn: a function with what it holds; mp: an own map. -/
inductive D where
  | u (x : V)
  | ow (k n : Nat)
  | p (k o : Nat)
  | e (k i o : Nat)
  | q (cs : List V) (o : Nat)
  | fn (f : FuncId) (ks : List Nat)
  | mp (k : Nat)
  /-- A slice over the array that cell o of member i of the family k owns; re: into its row j. -/
  | r (k i o sz n : Nat)
  | re (k i o j f : Nat)
  /-- A part of the own array k, from row off on; anything of one cell. -/
  | ows (k off n : Nat)
  | any
/-- A slot's content; sc: a part of a tuple. -/
inductive SC where
  | d (x : D)
  | a (cs : List D)
inductive SV where
  | d (x : D)
  | a (cs : List D)
  | t (vs : List SC)
def SC.up : SC → SV
  | .d x => .d x
  | .a cs => .a cs
/-- What is readable; families of boxes: the blocks of their members; which of them are own. -/
structure FG where
  on : Nat → Prop
  fam : Nat → List Nat
  own : Nat → Prop
instance : CoeFun FG (fun _ => Nat → Prop) := ⟨FG.on⟩
def FG.or (G : FG) (B : Nat → Prop) : FG := ⟨fun b => G b ∨ B b, G.fam, G.own⟩
/-- Families have only grown, and only own ones. -/
structure Fam (G0 G : FG) : Prop where
  own : G.own = G0.own
  eq : ∀ k, ¬ G0.own k → G.fam k = G0.fam k
  gr : ∀ (k i b : Nat), (G0.fam k)[i]? = some b → (G.fam k)[i]? = some b
theorem Fam.refl (G : FG) : Fam G G := ⟨rfl, fun _ _ => rfl, fun _ _ _ h => h⟩
theorem Fam.or {G0 G : FG} {B : Nat → Prop} (h : Fam G0 G) : Fam G0 (G.or B) := ⟨h.own, h.eq, h.gr⟩
theorem Fam.trans {G0 G G1 : FG} (h : Fam G0 G) (h' : Fam G G1) : Fam G0 G1 := ⟨h'.own.trans h.own, fun k hk => (h'.eq k (by rw [h.own]; exact hk)).trans (h.eq k hk), fun k i b hb => h'.gr k i b (h.gr k i b hb)⟩
/-- Readable frozen memory. -/
structure Fz where
  G : FG
  w0 : World
/-- Where an own object lies: its first cell, its capacity, the size of a row. -/
structure Loc where
  A : Option Addr
  c : Nat
  sz : Nat
/-- Where named objects lie; where the arrays lie that cells own. -/
structure Rho where
  loc : Nat → Option Loc
  os : Nat → Nat → Nat → Option Loc
instance : CoeFun Rho (fun _ => Nat → Option Loc) := ⟨Rho.loc⟩
/-- The cells of a key or of a value of a map. -/
def mcl : Bool → Value → List Value
  | true, .agg us => us.toList
  | _, v => [v]
def rowK (g : Bool) (cs : List V) (v : Value) : Prop := (g = true → ∃ us, v = .agg us) ∧ (mcl g v).length = cs.length ∧ (mcl g v).all Value.oneCell' = true
/-- The value is the tree. -/
inductive DenV (z : Fz) : V → Value → Prop
  | int (k : IntKind) (n : Int) : DenV z (.int k n) (.int k n)
  | bool (b : Bool) : DenV z (.bool b) (.bool b)
  | str (s : ByteArray) (hs : s.size ≤ maxLen) : DenV z (.str s) (.string s)
  | nl : DenV z .nl (.slice none 0 0)
  | sl {sz : Nat} {rs : List (List V)} {A : Option Addr} {n c b o : Nat} (us : List Value) (hn : rs.length = n) (hc : n ≤ c) (hm : n ≤ maxLen) (hr : ∀ r ∈ rs, r.length = sz) (hA : rs ≠ [] → A = some ⟨b, o, none⟩ ∧ z.G b)
      (hl : us.length = rs.flatten.length) (hu : ∀ (j : Nat) u, us[j]? = some u → z.w0.cell? ⟨b, o + j, none⟩ = some u) (h1 : us.all Value.oneCell' = true) (hd : ∀ (j : Nat) d u, rs.flatten[j]? = some d → us[j]? = some u → DenV z d u) : DenV z (.sl sz rs) (.slice A n c)
  | pn : DenV z .pn (.pointer none)
  | fn {f : FuncId} : DenV z (.fn f) (.func (.func f) #[] #[])
  | v {x : Value} (h1 : x.oneCell' = true) : DenV z (.v x) x
  | m {k i o b : Nat} (h : (z.G.fam k)[i]? = some b) : DenV z (.m k i o) (.pointer (some ⟨b, o, none⟩))
  | cl {f : FuncId} {cs : List (List V)} (us : List Value) (B O : Nat → Nat) (X : Nat → List Value) (hl : us.length = cs.length) (hu : ∀ (j : Nat) u, us[j]? = some u → u = .pointer (some ⟨B j, O j, none⟩)) (hG : ∀ j, j < cs.length → z.G (B j)) (hX : ∀ (j : Nat) c, cs[j]? = some c → (X j).length = c.length) (h1 : ∀ j, j < cs.length → (X j).all Value.oneCell' = true)
      (hc : ∀ j, j < cs.length → ∀ (i : Nat) x, (X j)[i]? = some x → z.w0.cell? ⟨B j, O j + i, none⟩ = some x) (hd : ∀ (j : Nat) c (i : Nat) d x, cs[j]? = some c → c[i]? = some d → (X j)[i]? = some x → DenV z d x) : DenV z (.cl f cs) (.func (.func f) #[] us.toArray)
  | fz {vg : Bool} {es : List (List V × List V)} {b clock : Nat} {arr : Array MapEntry} (hG : z.G b) (hb : z.w0.heap[b]? = some (.map arr clock)) (hl : arr.toList.length = es.length)
      (hs : ∀ (j : Nat) e m, es[j]? = some e → arr.toList[j]? = some m → rowK false e.1 m.key ∧ rowK vg e.2 m.val)
      (hk : ∀ (j : Nat) e m (i : Nat) d u, es[j]? = some e → arr.toList[j]? = some m → (e.1 ++ e.2)[i]? = some d → (mcl false m.key ++ mcl vg m.val)[i]? = some u → DenV z d u) : DenV z (.fz vg es) (.map (some b))
/-- Cells. -/
structure DenVL (z : Fz) (cs : List V) (us : List Value) : Prop where
  len : us.length = cs.length
  one : us.all Value.oneCell' = true
  den : ∀ (j : Nat) d u, cs[j]? = some d → us[j]? = some u → DenV z d u
inductive Den (ρ : Rho) (z : Fz) : D → Value → Prop
  | u {x : V} {v : Value} (h : DenV z x v) : Den ρ z (.u x) v
  | ow {k n : Nat} {l : Loc} (h : ρ k = some l) (hA : l.A = none → n = 0) (hc : n ≤ l.c) : Den ρ z (.ow k n) (.slice l.A n l.c)
  | p {k o b c sz : Nat} (h : ρ k = some ⟨some ⟨b, 0, none⟩, c, sz⟩) : Den ρ z (.p k o) (.pointer (some ⟨b, o, none⟩))
  | e {k i o b c sz : Nat} (h : ρ k = some ⟨some ⟨b, 0, none⟩, c, sz⟩) : Den ρ z (.e k i o) (.pointer (some ⟨b, i * sz + o, none⟩))
  | q {cs : List V} {o b o' : Nat} {us : List Value} (hb : z.G b) (hu : ∀ (j : Nat) u, us[j]? = some u → z.w0.cell? ⟨b, o' + j, none⟩ = some u) (hd : DenVL z cs us) : Den ρ z (.q cs o) (.pointer (some ⟨b, o' + o, none⟩))
  | fn {f : FuncId} {ks : List Nat} (us : List Value) (hl : us.length = ks.length) (hd : ∀ (j : Nat) k u, ks[j]? = some k → us[j]? = some u → ∃ b c sz, ρ k = some ⟨some ⟨b, 0, none⟩, c, sz⟩ ∧ u = .pointer (some ⟨b, 0, none⟩)) : Den ρ z (.fn f ks) (.func (.func f) #[] us.toArray)
  | mp {k b : Nat} {l : Loc} (h : ρ k = some l) (hA : l.A = some ⟨b, 0, none⟩) : Den ρ z (.mp k) (.map (some b))
  | r {k i o sz n c : Nat} {A : Option Addr} (h : ρ.os k i o = some ⟨A, c, sz⟩) (hA : (A = none ∧ n = 0) ∨ ∃ b, A = some ⟨b, 0, none⟩) (hc : n ≤ c) (hm : c ≤ maxLen) : Den ρ z (.r k i o sz n) (.slice A n c)
  | ows {k off n c sz : Nat} {A : Option Addr} (h : ρ k = some ⟨A, c, sz⟩) (hc : off + n ≤ c) : Den ρ z (.ows k off n) (.slice (if c = off then A else A.map (·.add (off * sz))) n (c - off))
  | any {v : Value} (h1 : v.oneCell' = true) : Den ρ z .any v
  | re {k i o j f b c sz : Nat} (h : ρ.os k i o = some ⟨some ⟨b, 0, none⟩, c, sz⟩) : Den ρ z (.re k i o j f) (.pointer (some ⟨b, j * sz + f, none⟩))
structure DenL (ρ : Rho) (z : Fz) (cs : List D) (us : List Value) : Prop where
  len : us.length = cs.length
  one : us.all Value.oneCell' = true
  den : ∀ (j : Nat) d u, cs[j]? = some d → us[j]? = some u → Den ρ z d u
inductive DenC (ρ : Rho) (z : Fz) : SC → Value → Prop
  | d {x : D} {v : Value} (h : Den ρ z x v) : DenC ρ z (.d x) v
  | a {cs : List D} {us : List Value} (h : DenL ρ z cs us) : DenC ρ z (.a cs) (.agg us.toArray)
inductive DenS (ρ : Rho) (z : Fz) : SV → Value → Prop
  | d {x : D} {v : Value} (h : Den ρ z x v) : DenS ρ z (.d x) v
  | a {cs : List D} {us : List Value} (h : DenL ρ z cs us) : DenS ρ z (.a cs) (.agg us.toArray)
  | t {ss : List SC} {vs : List Value} (hl : vs.length = ss.length) (hd : ∀ (j : Nat) s v, ss[j]? = some s → vs[j]? = some v → DenC ρ z s v) : DenS ρ z (.t ss) (.tuple vs.toArray)

theorem DenV.one {z : Fz} {d : V} {v : Value} (h : DenV z d v) : v.oneCell' = true := by
  cases h <;> first | rfl | assumption
theorem Den.one {ρ : Rho} {z : Fz} {d : D} {v : Value} (h : Den ρ z d v) : v.oneCell' = true := by
  cases h <;> first | rfl | assumption | (rename_i h; exact h.one)
section
variable {ρ ρ' : Rho} {z z' : Fz}
/-- More is frozen. -/
structure Mz (z z' : Fz) : Prop where
  g : ∀ b, z.G b → z'.G b
  w : ∀ b, z.G b → z'.w0.heap[b]? = z.w0.heap[b]?
  f : ∀ (k i b : Nat), (z.G.fam k)[i]? = some b → (z'.G.fam k)[i]? = some b
theorem Mz.refl : Mz z z := ⟨fun _ h => h, fun _ _ => rfl, fun _ _ _ h => h⟩
theorem Mz.cell (m : Mz z z') {b o : Nat} (hb : z.G b) : z'.w0.cell? ⟨b, o, none⟩ = z.w0.cell? ⟨b, o, none⟩ := World.cell?_of_block (w := z.w0) (a := ⟨b, o, none⟩) (m.w b hb)
theorem DenV.mono (m : Mz z z') {d : V} {v : Value} (h : DenV z d v) : DenV z' d v := by
  induction h with
  | int k n => exact .int k n
  | bool b => exact .bool b
  | str s hs => exact .str s hs
  | nl => exact .nl
  | @sl sz rs A n c b o us hn hc hm hr hA hl hu h1 hd ih =>
    by_cases hrs : rs = []
    · subst hrs
      exact .sl (b := b) (o := o) [] hn hc hm hr (fun h => absurd rfl h) (by simp) (fun j u h => by simp at h) rfl (fun j d u h => by simp at h)
    · exact .sl (b := b) (o := o) us hn hc hm hr (fun h => ⟨(hA h).1, m.g b (hA h).2⟩) hl (fun j u h => (m.cell (hA hrs).2).trans (hu j u h)) h1 ih
  | pn => exact .pn
  | fn => exact .fn
  | v h1 => exact .v h1
  | m h => exact .m (m.f _ _ _ h)
  | cl us B O X hl hu hG hX h1 hc hd ih => exact .cl us B O X hl hu (fun j hj => m.g _ (hG j hj)) hX h1 (fun j hj i x hx => (m.cell (hG j hj)).trans (hc j hj i x hx)) ih
  | fz hG hb hl hs hk ih => exact .fz (m.g _ hG) ((m.w _ hG).trans hb) hl hs ih
theorem DenVL.mono (m : Mz z z') {cs : List V} {us : List Value} (h : DenVL z cs us) : DenVL z' cs us := ⟨h.len, h.one, fun j d u h1 h2 => (h.den j d u h1 h2).mono m⟩
/-- More has a name. -/
structure Mr (ρ ρ' : Rho) : Prop where
  l : ∀ k l, ρ k = some l → ρ' k = some l
  o : ∀ k i o l, ρ.os k i o = some l → ρ'.os k i o = some l
theorem Mr.refl : Mr ρ ρ := ⟨fun _ _ h => h, fun _ _ _ _ h => h⟩
theorem Den.mono (m : Mz z z') (r : Mr ρ ρ') {d : D} {v : Value} (h : Den ρ z d v) : Den ρ' z' d v := by
  cases h with
  | u h => exact .u (h.mono m)
  | ow h hA hc => exact .ow (r.l _ _ h) hA hc
  | p h => exact .p (r.l _ _ h)
  | e h => exact .e (r.l _ _ h)
  | q hb hu hd => exact .q (m.g _ hb) (fun j u h => (m.cell hb).trans (hu j u h)) (hd.mono m)
  | fn us hl hd =>
    refine .fn us hl fun j k u h1 h2 => ?_
    obtain ⟨b, c, sz, h3, h4⟩ := hd j k u h1 h2
    exact ⟨b, c, sz, r.l _ _ h3, h4⟩
  | mp h hA => exact .mp (r.l _ _ h) hA
  | r h hA hc hm => exact .r (r.o _ _ _ _ h) hA hc hm
  | re h => exact .re (r.o _ _ _ _ h)
  | ows h hc => exact .ows (r.l _ _ h) hc
  | any h1 => exact .any h1
theorem DenL.mono (m : Mz z z') (r : Mr ρ ρ') {cs : List D} {us : List Value} (h : DenL ρ z cs us) : DenL ρ' z' cs us := ⟨h.len, h.one, fun j d u h1 h2 => (h.den j d u h1 h2).mono m r⟩
theorem DenC.mono (m : Mz z z') (r : Mr ρ ρ') {s : SC} {v : Value} (h : DenC ρ z s v) : DenC ρ' z' s v := by
  cases h with
  | d h => exact .d (h.mono m r)
  | a h => exact .a (h.mono m r)
theorem DenC.up {s : SC} {v : Value} (h : DenC ρ z s v) : DenS ρ z s.up v := by
  cases h with
  | d h => exact .d h
  | a h => exact .a h
theorem DenS.mono (m : Mz z z') (r : Mr ρ ρ') {s : SV} {v : Value} (h : DenS ρ z s v) : DenS ρ' z' s v := by
  cases h with
  | d h => exact .d (h.mono m r)
  | a h => exact .a (h.mono m r)
  | t hl hd => exact .t hl fun j s v h1 h2 => (hd j s v h1 h2).mono m r
end

/-- A cell of a family's member: a value; a slice over an array that the cell owns; anything. -/
inductive E where
  | v (x : V)
  | os (ty sz : Nat) (rs : List (List V))
  | hl
/-- An own object: a box with its cells; an array with its rows; a family of boxes with theirs; a map with its entries (whether keys, values are structs); an array with rows of cells that may own arrays. -/
inductive Ob where
  | bx (ty : TypeId) (cs : List D)
  | ar (ty : TypeId) (sz : Nat) (rs : List (List V))
  | fm (ty : TypeId) (rs : List (List E))
  | mp (kg vg : Bool) (es : List (List V × List V))
  | fa (ty : TypeId) (sz : Nat) (rs : List (List E))
/-- One value that is these cells. -/
def DenW (z : Fz) (g : Bool) (cs : List V) (v : Value) : Prop := match g with
  | true => ∃ us : List Value, v = .agg us.toArray ∧ DenVL z cs us
  | false => ∃ c, cs = [c] ∧ DenV z c v
/-- The entries of a map. -/
structure EntsOk (z : Fz) (kg vg : Bool) (es : List (List V × List V)) (vs : List (Value × Value)) : Prop where
  len : vs.length = es.length
  den : ∀ (j : Nat) e p, es[j]? = some e → vs[j]? = some p → DenW z kg e.1 p.1 ∧ DenW z vg e.2 p.2
structure St where
  tm : List (Nat × SV)
  ob : List (Nat × Ob)
/-- One cell of a member, with the blocks that it owns. -/
def CellOk (ρ : Rho) (z : Fz) (k i o : Nat) : E → Value → List (Nat × Hb) → Prop
  | .v x, u, X => X = [] ∧ DenV z x u
  | .os ty sz rs, u, X => ∃ A c us, X = hbA A ty us c sz ∧ u = .slice A rs.length c ∧ ρ.os k i o = some ⟨A, c, sz⟩ ∧ OkA A us rs.length c sz ∧ DenVL z rs.flatten us ∧ (∀ r ∈ rs, r.length = sz)
  | .hl, u, X => X = [] ∧ u.oneCell' = true
inductive CellsOk (ρ : Rho) (z : Fz) (k i : Nat) : Nat → List E → List Value → List (Nat × Hb) → Prop
  | nil {o : Nat} : CellsOk ρ z k i o [] [] []
  | cons {o : Nat} {e : E} {u : Value} {X : List (Nat × Hb)} {es : List E} {us : List Value} {Y : List (Nat × Hb)} : CellOk ρ z k i o e u X → CellsOk ρ z k i (o + 1) es us Y → CellsOk ρ z k i o (e :: es) (u :: us) (X ++ Y)
inductive FamOk (ρ : Rho) (z : Fz) (k : Nat) (ty : TypeId) : Nat → List Nat → List (List E) → List (Nat × Hb) → Prop
  | nil {i : Nat} : FamOk ρ z k ty i [] [] []
  | cons {i b : Nat} {bs : List Nat} {row : List E} {rows : List (List E)} {us : List Value} {X Y : List (Nat × Hb)} : CellsOk ρ z k i 0 row us X → FamOk ρ z k ty (i + 1) bs rows Y → FamOk ρ z k ty i (b :: bs) (row :: rows) ((b, ⟨ty, us, us.length⟩) :: X ++ Y)
/-- The rows of an array whose cells may own arrays. -/
inductive FaOk (ρ : Rho) (z : Fz) (k : Nat) : Nat → List (List E) → List Value → List (Nat × Hb) → Prop
  | nil {i : Nat} : FaOk ρ z k i [] [] []
  | cons {i : Nat} {row : List E} {rows : List (List E)} {us vs : List Value} {X Y : List (Nat × Hb)} : CellsOk ρ z k i 0 row us X → FaOk ρ z k (i + 1) rows vs Y → FaOk ρ z k i (row :: rows) (us ++ vs) (X ++ Y)
/-- The object lies there, as these blocks. -/
def ObOk (ρ : Rho) (z : Fz) (k : Nat) : Ob → List (Nat × Hb) → Prop
  | .bx ty cs, X => ∃ b us, X = [(b, ⟨ty, us, cs.length⟩)] ∧ ρ k = some ⟨some ⟨b, 0, none⟩, 1, cs.length⟩ ∧ DenL ρ z cs us
  | .ar ty sz rs, X => ∃ A c us, X = hbA A ty us c sz ∧ ρ k = some ⟨A, c, sz⟩ ∧ OkA A us rs.length c sz ∧ DenVL z rs.flatten us ∧ (∀ r ∈ rs, r.length = sz)
  | .fm ty rs, X => FamOk ρ z k ty 0 (z.G.fam k) rs X ∧ z.G.own k
  | .mp kg vg es, X => ∃ b vs, X = [(b, ⟨0, [], .m vs⟩)] ∧ ρ k = some ⟨some ⟨b, 0, none⟩, 1, 0⟩ ∧ EntsOk z kg vg es vs
  | .fa ty sz rs, X => ∃ A c us Y, X = hbA A ty us c sz ++ Y ∧ ρ k = some ⟨A, c, sz⟩ ∧ OkA A us rs.length c sz ∧ FaOk ρ z k 0 rs us Y ∧ (∀ r ∈ rs, r.length = sz)
def ObsOk (ρ : Rho) (z : Fz) : List (Nat × Ob) → List (Nat × Hb) → Prop
  | [], hp => hp = []
  | (k, o) :: r, hp => ∃ X hp', hp = X ++ hp' ∧ ObOk ρ z k o X ∧ ObsOk ρ z r hp'
/-- In which call a walk is: what must stay, as it was; what could be read at its start. -/
structure Cx where
  F : Nat → Prop
  w : World
  G : FG
structure Gd (c : Cx) (st : St) (tm : List (Nat × Value)) (h : Hs) (ρ : Rho) (G : FG) : Prop where
  fF : ∀ b, c.F b → h.F b
  fw : Same c.F c.w h.w0
  gF : ∀ b, G b → h.F b
  gx : ∀ b, G b → c.G b ∨ ¬ c.F b
  fm : Fam c.G G
  tm : ∀ k s, lk k st.tm = some s → ∃ v, lk k tm = some v ∧ DenS ρ ⟨G, h.w0⟩ s v
  ob : ObsOk ρ ⟨G, h.w0⟩ st.ob h.hp
def Kd (c : Cx) (K : List (Nat × SV) → List (Nat × Ob) → Prop) (tm : List (Nat × Value)) (h : Hs) : Prop := ∃ st ρ G h', (∀ w, Hp h w → Hp h' w) ∧ Gd c st tm h' ρ G ∧ K st.tm st.ob

/-- A constant as a tree. -/
def zeroT : Value → Option V
  | .int k n => some (.int k n)
  | .bool b => some (.bool b)
  | .string s => bif Nat.ble s.size 1000000 then some (.str s) else none
  | .slice none 0 0 => some .nl
  | .pointer none => some .pn
  | .map none => some (.v (.map none))
  | .nilFunc => some (.v .nilFunc)
  | .nilIface => some (.v .nilIface)
  | _ => none
theorem zeroT_den {z : Fz} {v : Value} {x : V} (h : zeroT v = some x) : DenV z x v := by
  unfold zeroT at h
  split at h
  all_goals first | (cases h; done) | (injection h with h; subst h; first | exact .int _ _ | exact .bool _ | exact .nl | exact .pn | exact .v rfl) | skip
  rename_i s
  cases hb : Nat.ble s.size 1000000 <;> rw [hb] at h
  · cases h
  · injection h with h
    subst h
    rw [Nat.ble_eq] at hb
    exact .str _ (by unfold maxLen; omega)
def evT (tm : List (Nat × SV)) : Operand → Option SV
  | .tmp t => lk t tm
  | .const v => match zeroT v with
    | some x => some (.d (.u x))
    | none => none
  | .global _ => none
  | .func f => some (.d (.u (.fn f)))
theorem Gd.ev {c : Cx} {st : St} {tm : List (Nat × Value)} {h : Hs} {ρ : Rho} {G : FG} (g : Gd c st tm h ρ G) {x : Operand} {s : SV} (hx : evT st.tm x = some s) : ∃ v, ev tm x = some v ∧ DenS ρ ⟨G, h.w0⟩ s v := by
  cases x with
  | tmp t => exact g.tm t s hx
  | const v =>
    simp only [evT] at hx
    cases hz : zeroT v with
    | none => simp [hz] at hx
    | some y =>
      simp only [hz, Option.some.injEq] at hx
      subst hx
      exact ⟨_, rfl, .d (.u (zeroT_den hz))⟩
  | global g => cases hx
  | func f =>
    simp only [evT, Option.some.injEq] at hx
    subst hx
    exact ⟨_, rfl, .d (.u .fn)⟩
theorem Gd.put {c : Cx} {st : St} {tm : List (Nat × Value)} {h : Hs} {ρ : Rho} {G : FG} (g : Gd c st tm h ρ G) {d : Nat} {s : SV} {v : Value} (hs : DenS ρ ⟨G, h.w0⟩ s v) : Gd c ⟨(d, s) :: st.tm, st.ob⟩ ((d, v) :: tm) h ρ G :=
  ⟨g.fF, g.fw, g.gF, g.gx, g.fm, fun k u hk => by
    simp only [lk] at hk ⊢
    cases hb : Nat.beq k d
    · rw [hb] at hk; exact g.tm k u hk
    · rw [hb] at hk
      simp only [cond_true, Option.some.injEq] at hk
      subst hk
      exact ⟨v, rfl, hs⟩, g.ob⟩
end Go.Proofs.YtgloielnnakknaaDoor

/-
  The layer of trees: operations that only yield a value.
-/
namespace Go.Proofs.YtgloielnnakknaaDoor
open Go.RowKit

section
variable {ρ : Rho} {z : Fz}
theorem CellOk.mono {ρ' : Rho} {z' : Fz} (m : Mz z z') (r : Mr ρ ρ') {k i o : Nat} {e : E} {u : Value} {X : List (Nat × Hb)} (h : CellOk ρ z k i o e u X) : CellOk ρ' z' k i o e u X := by
  cases e with
  | v x => exact ⟨h.1, h.2.mono m⟩
  | os ty sz rs => obtain ⟨A, c, us, h1, h2, h3, h4, h5, h6⟩ := h; exact ⟨A, c, us, h1, h2, r.o _ _ _ _ h3, h4, h5.mono m, h6⟩
  | hl => exact h
theorem CellsOk.mono {ρ' : Rho} {z' : Fz} (m : Mz z z') (r : Mr ρ ρ') {k i o : Nat} {es : List E} {us : List Value} {X : List (Nat × Hb)} (h : CellsOk ρ z k i o es us X) : CellsOk ρ' z' k i o es us X := by
  induction h with
  | nil => exact .nil
  | cons h _ ih => exact .cons (h.mono m r) ih
theorem FamOk.mono {ρ' : Rho} {z' : Fz} (m : Mz z z') (r : Mr ρ ρ') {k : Nat} {ty : TypeId} {i : Nat} {bs : List Nat} {rs : List (List E)} {X : List (Nat × Hb)} (h : FamOk ρ z k ty i bs rs X) : FamOk ρ' z' k ty i bs rs X := by
  induction h with
  | nil => exact .nil
  | cons h _ ih => exact .cons (h.mono m r) ih
theorem FaOk.mono {ρ' : Rho} {z' : Fz} (m : Mz z z') (r : Mr ρ ρ') {k i : Nat} {rs : List (List E)} {us : List Value} {X : List (Nat × Hb)} (h : FaOk ρ z k i rs us X) : FaOk ρ' z' k i rs us X := by
  induction h with
  | nil => exact .nil
  | cons h _ ih => exact .cons (h.mono m r) ih
/-- What families ask of more readable memory. -/
def Fms (z z' : Fz) (k : Nat) (o : Ob) : Prop := match o with
  | .fm _ _ => z'.G.fam k = z.G.fam k ∧ (z.G.own k → z'.G.own k)
  | _ => True
theorem Fms.of {z z' : Fz} {k : Nat} {o : Ob} (h : ∀ t rs, o = .fm t rs → z'.G.fam k = z.G.fam k ∧ (z.G.own k → z'.G.own k)) : Fms z z' k o := by
  cases o <;> simp only [Fms]
  exact h _ _ rfl
theorem Fms.same {z z' : Fz} (h1 : z'.G.fam = z.G.fam) (h2 : z'.G.own = z.G.own) (k : Nat) (o : Ob) : Fms z z' k o := by
  cases o <;> simp only [Fms]
  exact ⟨by rw [h1], by rw [h2]; exact id⟩
theorem DenW.mono {z' : Fz} (m : Mz z z') {g : Bool} {cs : List V} {v : Value} (h : DenW z g cs v) : DenW z' g cs v := by
  cases g
  · obtain ⟨c, h1, h2⟩ := h; exact ⟨c, h1, h2.mono m⟩
  · obtain ⟨us, h1, h2⟩ := h; exact ⟨us, h1, h2.mono m⟩
theorem EntsOk.mono {z' : Fz} (m : Mz z z') {kg vg : Bool} {es : List (List V × List V)} {vs : List (Value × Value)} (h : EntsOk z kg vg es vs) : EntsOk z' kg vg es vs :=
  ⟨h.len, fun j e p h1 h2 => ⟨(h.den j e p h1 h2).1.mono m, (h.den j e p h1 h2).2.mono m⟩⟩
theorem DenW.rowk {g : Bool} {cs : List V} {v : Value} (h : DenW z g cs v) : rowK g cs v ∧ DenVL z cs (mcl g v) := by
  cases g
  · obtain ⟨c, rfl, h2⟩ := h
    exact ⟨⟨fun h => (by cases h), rfl, by simp [mcl, h2.one]⟩, ⟨rfl, by simp [mcl, h2.one], fun j d u e1 e2 => by
      cases j with
      | zero => simp [mcl] at e1 e2; subst e1 e2; exact h2
      | succ j => simp at e1⟩⟩
  · obtain ⟨us, rfl, h2⟩ := h
    exact ⟨⟨fun _ => ⟨_, rfl⟩, h2.len, h2.one⟩, h2⟩
theorem DenW.of_rk {g : Bool} {cs : List V} {v : Value} (h : rowK g cs v) (k : ∀ (i : Nat) d u, cs[i]? = some d → (mcl g v)[i]? = some u → DenV z d u) : DenW z g cs v := by
  obtain ⟨h0, h1, h2⟩ := h
  cases g
  · have h1 : 1 = cs.length := h1
    match cs, h1 with
    | [c], _ => exact ⟨c, rfl, k 0 c v rfl rfl⟩
  · obtain ⟨us, rfl⟩ := h0 rfl
    exact ⟨us.toList, by simp, h1, h2, k⟩
theorem DenV.fz_of {vg : Bool} {es : List (List V × List V)} {b clock : Nat} {arr : Array MapEntry} (hG : z.G b) (hb : z.w0.heap[b]? = some (.map arr clock)) (h : EntsOk z false vg es (arr.toList.map fun e => (e.key, e.val))) : DenV z (.fz vg es) (.map (some b)) := by
  have hd : ∀ (j : Nat) e m, es[j]? = some e → arr.toList[j]? = some m → DenW z false e.1 m.key ∧ DenW z vg e.2 m.val := fun j e m e1 e2 => h.den j e (m.key, m.val) e1 (by rw [List.getElem?_map, e2]; rfl)
  refine .fz hG hb (by have := h.len; simpa using this) (fun j e m e1 e2 => ⟨(hd j e m e1 e2).1.rowk.1, (hd j e m e1 e2).2.rowk.1⟩) fun j e m i d u e1 e2 e3 e4 => ?_
  obtain ⟨h1, h2⟩ := hd j e m e1 e2
  have h1 := h1.rowk.2
  have h2 := h2.rowk.2
  by_cases hi : i < e.1.length
  · rw [List.getElem?_append_left hi] at e3
    rw [List.getElem?_append_left (by rw [h1.len]; exact hi)] at e4
    exact h1.den i d u e3 e4
  · rw [List.getElem?_append_right (by omega)] at e3
    rw [List.getElem?_append_right (by rw [h1.len]; omega), h1.len] at e4
    exact h2.den _ d u e3 e4
theorem DenV.fz_inv {vg : Bool} {es : List (List V × List V)} {v : Value} (h : DenV z (.fz vg es) v) : ∃ b clock arr, v = .map (some b) ∧ z.G b ∧ z.w0.heap[b]? = some (.map arr clock) ∧ EntsOk z false vg es (arr.toList.map fun e => (e.key, e.val)) := by
  cases h with | @fz _ _ b clock arr hG hb hl hs hk =>
  refine ⟨b, clock, arr, rfl, hG, hb, by simpa using hl, fun j e p e1 e2 => ?_⟩
  rw [List.getElem?_map] at e2
  cases hm : arr.toList[j]? with
  | none => rw [hm] at e2; cases e2
  | some m =>
    rw [hm] at e2
    injection e2 with e2
    subst e2
    obtain ⟨h1, h2⟩ := hs j e m e1 hm
    refine ⟨.of_rk h1 fun i d u f1 f2 => hk j e m i d u e1 hm ?_ ?_, .of_rk h2 fun i d u f1 f2 => hk j e m (e.1.length + i) d u e1 hm ?_ ?_⟩
    · rw [List.getElem?_append_left (List.getElem?_eq_some_iff.1 f1).1]; exact f1
    · rw [List.getElem?_append_left (List.getElem?_eq_some_iff.1 f2).1]; exact f2
    · rw [List.getElem?_append_right (by omega), Nat.add_sub_cancel_left]; exact f1
    · rw [List.getElem?_append_right (by rw [h1.2.1]; omega), h1.2.1, Nat.add_sub_cancel_left]; exact f2
theorem ObOk.mono {ρ' : Rho} {z' : Fz} (m : Mz z z') (r : Mr ρ ρ') {k : Nat} {o : Ob} {X : List (Nat × Hb)} (hf : Fms z z' k o) (h : ObOk ρ z k o X) : ObOk ρ' z' k o X := by
  cases o with
  | bx ty cs => obtain ⟨b, us, h1, h2, h3⟩ := h; exact ⟨b, us, h1, r.l _ _ h2, h3.mono m r⟩
  | ar ty sz rs => obtain ⟨A, c, us, h1, h2, h3, h4, h5⟩ := h; exact ⟨A, c, us, h1, r.l _ _ h2, h3, h4.mono m, h5⟩
  | fm ty rs => exact ⟨by rw [hf.1]; exact h.1.mono m r, hf.2 h.2⟩
  | mp kg vg es => obtain ⟨b, vs, h1, h2, h3⟩ := h; exact ⟨b, vs, h1, r.l _ _ h2, h3.mono m⟩
  | fa ty sz rs => obtain ⟨A, c, us, Y, h1, h2, h3, h4, h5⟩ := h; exact ⟨A, c, us, Y, h1, r.l _ _ h2, h3, h4.mono m r, h5⟩
theorem ObsOk.monoF {ρ' : Rho} {z' : Fz} (m : Mz z z') (r : Mr ρ ρ') : ∀ {ob : List (Nat × Ob)} {hp : List (Nat × Hb)}, (∀ k o, (k, o) ∈ ob → Fms z z' k o) → ObsOk ρ z ob hp → ObsOk ρ' z' ob hp
  | [], _, _, h => h
  | (_, _) :: _, _, hf, ⟨X, hp', h1, h2, h3⟩ => ⟨X, hp', h1, h2.mono m r (hf _ _ List.mem_cons_self), h3.monoF m r fun k o hm => hf k o (List.mem_cons_of_mem _ hm)⟩
theorem ObsOk.mono {ρ' : Rho} {z' : Fz} (m : Mz z z') (r : Mr ρ ρ') {ob : List (Nat × Ob)} {hp : List (Nat × Hb)} (h : ObsOk ρ z ob hp) (h1 : z'.G.fam = z.G.fam := by rfl) (h2 : z'.G.own = z.G.own := by rfl) : ObsOk ρ' z' ob hp :=
  h.monoF m r fun k o _ => .same h1 h2 k o
/-- The place of an own object. -/
theorem ObsOk.at_ : ∀ {ob : List (Nat × Ob)} {hp : List (Nat × Hb)} {k : Nat} {o : Ob}, ObsOk ρ z ob hp → lk k ob = some o → ∃ X f, ObOk ρ z k o X ∧ RowAt X hp f
  | [], _, _, _, _, h => by simp [lk] at h
  | (j, x) :: r, hp, k, o, ⟨X, hp', h1, h2, h3⟩, h => by
    simp only [lk] at h
    cases hb : Nat.beq k j
    · rw [hb] at h
      obtain ⟨Y, f, g1, g2⟩ := h3.at_ h
      subst h1
      exact ⟨Y, _, g1, .skip g2⟩
    · rw [hb] at h
      simp only [cond_true, Option.some.injEq] at h
      subst h h1
      rw [Nat.eq_of_beq_eq_true hb]
      exact ⟨X, _, h2, .here⟩
theorem DenVL.nil : DenVL z [] [] := ⟨rfl, rfl, fun _ _ _ h => by simp at h⟩
theorem DenVL.up {cs : List V} {us : List Value} (h : DenVL z cs us) : DenL ρ z (cs.map .u) us := ⟨by simp [h.len], h.one, fun j d u h1 h2 => by
  rw [List.getElem?_map] at h1
  cases hj : cs[j]? with
  | none => rw [hj] at h1; cases h1
  | some x => rw [hj] at h1; simp at h1; subst h1; exact .u (h.den j x u hj h2)⟩
theorem DenVL.get {cs : List V} {us : List Value} (h : DenVL z cs us) {j : Nat} {d : V} (hd : cs[j]? = some d) : ∃ u, us[j]? = some u ∧ DenV z d u := by
  have hj : j < us.length := by rw [h.len]; exact (List.getElem?_eq_some_iff.1 hd).1
  exact ⟨us[j], List.getElem?_eq_getElem hj, h.den j d _ hd (List.getElem?_eq_getElem hj)⟩
theorem DenVL.part {cs : List V} {us : List Value} (h : DenVL z cs us) {l : List V} {o : Nat} (hl : ∀ j d, l[j]? = some d → cs[o + j]? = some d) : ∃ vs, DenVL z l vs ∧ ∀ (j : Nat) v, vs[j]? = some v → us[o + j]? = some v := by
  refine ⟨(us.drop o).take l.length, ⟨?_, ?_, ?_⟩, ?_⟩
  · rw [List.length_take, List.length_drop, Nat.min_eq_left]
    rcases Nat.eq_zero_or_pos l.length with h0 | h0
    · omega
    · have := hl (l.length - 1) _ (List.getElem?_eq_getElem (by omega))
      have := (List.getElem?_eq_some_iff.1 this).1
      rw [h.len]; omega
  · rw [List.all_eq_true]
    intro x hx
    exact List.all_eq_true.1 h.one x (List.mem_of_mem_drop (List.mem_of_mem_take hx))
  · intro j d u h1 h2
    have hj : j < l.length := (List.getElem?_eq_some_iff.1 h1).1
    rw [List.getElem?_take_of_lt hj, List.getElem?_drop] at h2
    exact h.den _ d u (hl j d h1) h2
  · intro j v hv
    have hj : j < l.length := by
      have := (List.getElem?_eq_some_iff.1 hv).1
      simp at this; omega
    rwa [List.getElem?_take_of_lt hj, List.getElem?_drop] at hv
theorem DenVL.app {cs ds : List V} {us vs : List Value} (h : DenVL z cs us) (h' : DenVL z ds vs) : DenVL z (cs ++ ds) (us ++ vs) := ⟨by simp [h.len, h'.len], by simp [h.one, h'.one], fun j d u h1 h2 => by
  rcases Nat.lt_or_ge j cs.length with hj | hj
  · rw [List.getElem?_append_left hj] at h1
    rw [List.getElem?_append_left (by rw [h.len]; exact hj)] at h2
    exact h.den j d u h1 h2
  · rw [List.getElem?_append_right hj] at h1
    rw [List.getElem?_append_right (by rw [h.len]; exact hj), h.len] at h2
    exact h'.den _ d u h1 h2⟩
theorem DenL.nil : DenL ρ z [] [] := ⟨rfl, rfl, fun _ _ _ h => by simp at h⟩
theorem DenL.get {cs : List D} {us : List Value} (h : DenL ρ z cs us) {j : Nat} {d : D} (hd : cs[j]? = some d) : ∃ u, us[j]? = some u ∧ Den ρ z d u := by
  have hj : j < us.length := by rw [h.len]; exact (List.getElem?_eq_some_iff.1 hd).1
  exact ⟨us[j], List.getElem?_eq_getElem hj, h.den j d _ hd (List.getElem?_eq_getElem hj)⟩
/-- A part of cells, place by place. -/
theorem DenL.part {cs : List D} {us : List Value} (h : DenL ρ z cs us) {l : List D} {o : Nat} (hl : ∀ j d, l[j]? = some d → cs[o + j]? = some d) : ∃ vs, DenL ρ z l vs ∧ ∀ (j : Nat) v, vs[j]? = some v → us[o + j]? = some v := by
  refine ⟨(us.drop o).take l.length, ⟨?_, ?_, ?_⟩, ?_⟩
  · rw [List.length_take, List.length_drop, Nat.min_eq_left]
    rcases Nat.eq_zero_or_pos l.length with h0 | h0
    · omega
    · have := hl (l.length - 1) _ (List.getElem?_eq_getElem (by omega))
      have := (List.getElem?_eq_some_iff.1 this).1
      rw [h.len]; omega
  · rw [List.all_eq_true]
    intro x hx
    exact List.all_eq_true.1 h.one x (List.mem_of_mem_drop (List.mem_of_mem_take hx))
  · intro j d u h1 h2
    have hj : j < l.length := (List.getElem?_eq_some_iff.1 h1).1
    rw [List.getElem?_take_of_lt hj, List.getElem?_drop] at h2
    exact h.den _ d u (hl j d h1) h2
  · intro j v hv
    have hj : j < l.length := by
      have := (List.getElem?_eq_some_iff.1 hv).1
      simp at this; omega
    rwa [List.getElem?_take_of_lt hj, List.getElem?_drop] at hv
theorem DenL.one_ {d : D} {u : Value} (h : Den ρ z d u) : DenL ρ z [d] [u] := ⟨rfl, by simp [h.one], fun j d' u' h1 h2 => by
  cases j with
  | zero => simp at h1 h2; subst h1 h2; exact h
  | succ j => simp at h1⟩
theorem DenL.cons {d : D} {u : Value} {cs : List D} {us : List Value} (h : Den ρ z d u) (hs : DenL ρ z cs us) : DenL ρ z (d :: cs) (u :: us) := ⟨by simp [hs.len], by simp [h.one, hs.one], fun j d' u' h1 h2 => by
  cases j with
  | zero => simp at h1 h2; subst h1 h2; exact h
  | succ j => exact hs.den j d' u' (by simpa using h1) (by simpa using h2)⟩
theorem DenL.app {cs ds : List D} {us vs : List Value} (h : DenL ρ z cs us) (h' : DenL ρ z ds vs) : DenL ρ z (cs ++ ds) (us ++ vs) := ⟨by simp [h.len, h'.len], by simp [h.one, h'.one], fun j d u h1 h2 => by
  rcases Nat.lt_or_ge j cs.length with hj | hj
  · rw [List.getElem?_append_left hj] at h1
    rw [List.getElem?_append_left (by rw [h.len]; exact hj)] at h2
    exact h.den j d u h1 h2
  · rw [List.getElem?_append_right hj] at h1
    rw [List.getElem?_append_right (by rw [h.len]; exact hj), h.len] at h2
    exact h'.den _ d u h1 h2⟩
end
/-- A row of rows of one length. -/
theorem flat_get {α : Type} {sz : Nat} : ∀ {rs : List (List α)} {i : Nat} {row : List α}, (∀ r ∈ rs, r.length = sz) → rs[i]? = some row → ∀ (j : Nat) d, row[j]? = some d → rs.flatten[i * sz + j]? = some d
  | [], _, _, _, h, _, _, _ => by simp at h
  | r :: rs, 0, row, hr, h, j, d, hd => by
    simp at h
    subst h
    rw [Nat.zero_mul, Nat.zero_add, List.flatten_cons, List.getElem?_append_left (List.getElem?_eq_some_iff.1 hd).1]
    exact hd
  | r :: rs, i + 1, row, hr, h, j, d, hd => by
    have h1 := hr r List.mem_cons_self
    have := flat_get (fun x hx => hr x (List.mem_cons_of_mem _ hx)) (by simpa using h) j d hd
    rw [List.flatten_cons, List.getElem?_append_right (by rw [h1, Nat.succ_mul]; omega), h1]
    rw [show (i + 1) * sz + j - sz = i * sz + j by rw [Nat.succ_mul]; omega]
    exact this
theorem flat_len {α : Type} {sz : Nat} : ∀ {rs : List (List α)}, (∀ r ∈ rs, r.length = sz) → rs.flatten.length = rs.length * sz
  | [], _ => by simp
  | r :: rs, h => by
    have h1 := h r List.mem_cons_self
    have := flat_len (rs := rs) (fun x hx => h x (List.mem_cons_of_mem _ hx))
    simp only [List.flatten_cons, List.length_append, h1, this, List.length_cons, Nat.succ_mul]; omega

def cutT {α : Type} (cs : List α) : Nat → Nat → Option (List α)
  | _, 0 => some []
  | o, n + 1 => match nth cs o with
    | none => none
    | some v => match cutT cs (o + 1) n with
      | none => none
      | some l => some (v :: l)
theorem cutT_get {α : Type} {cs : List α} : ∀ {n o : Nat} {l : List α}, cutT cs o n = some l → l.length = n ∧ ∀ j u, l[j]? = some u → cs[o + j]? = some u
  | 0, o, l, h => by simp [cutT] at h; subst h; simp
  | n + 1, o, l, h => by
    simp only [cutT] at h
    cases h1 : nth cs o with
    | none => simp [h1] at h
    | some v =>
      cases h2 : cutT cs (o + 1) n with
      | none => simp [h1, h2] at h
      | some l' =>
        simp only [h1, h2, Option.some.injEq] at h
        subst h
        have ih := cutT_get h2
        refine ⟨by simp [ih.1], fun j u hu => ?_⟩
        cases j with
        | zero => rw [nth_eq] at h1; simpa using h1.trans (by simpa using hu)
        | succ j => have := ih.2 j u (by simpa using hu); rwa [show o + 1 + j = o + (j + 1) by omega] at this

def upT : List V → List D
  | [] => []
  | x :: r => .u x :: upT r
theorem upT_map : ∀ cs : List V, upT cs = cs.map .u
  | [] => rfl
  | x :: r => by simp [upT, upT_map r]
/-- The cells behind a pointer that is known. -/
def cellsT (ob : List (Nat × Ob)) : SV → Option (List D × Nat)
  | .d (.p k o) => match lk k ob with
    | some (.bx _ cs) => some (cs, o)
    | _ => none
  | .d (.q cs o) => some (upT cs, o)
  | _ => none
/-- A pointer and an offset. -/
def plusT : SV → Nat → Option SV
  | .d (.p k o), n => some (.d (.p k (o + n)))
  | .d (.e k i o), n => some (.d (.e k i (o + n)))
  | .d (.q cs o), n => some (.d (.q cs (o + n)))
  | .d (.u (.m k i o)), n => some (.d (.u (.m k i (o + n))))
  | .d (.re k i o j f), n => some (.d (.re k i o j (f + n)))
  | _, _ => none
theorem plusT_den {ρ : Rho} {z : Fz} {s s' : SV} {n : Nat} {v : Value} (hp : plusT s n = some s') (h : DenS ρ z s v) : ∃ b o, v = .pointer (some ⟨b, o, none⟩) ∧ DenS ρ z s' (.pointer (some ⟨b, o + n, none⟩)) := by
  unfold plusT at hp
  split at hp
  · injection hp with hp; subst hp
    cases h with | d h => cases h with | p h => exact ⟨_, _, rfl, .d (.p h)⟩
  · injection hp with hp; subst hp
    cases h with | d h => cases h with | e h => exact ⟨_, _, rfl, .d (by rw [Nat.add_assoc]; exact .e h)⟩
  · injection hp with hp; subst hp
    cases h with | d h => cases h with | q hb hu hd => exact ⟨_, _, rfl, .d (by rw [Nat.add_assoc]; exact .q hb hu hd)⟩
  · injection hp with hp; subst hp
    cases h with | d h => cases h with | u h => cases h with | m h => exact ⟨_, _, rfl, .d (.u (.m h))⟩
  · injection hp with hp; subst hp
    cases h with | d h => cases h with | re h => exact ⟨_, _, rfl, .d (by rw [Nat.add_assoc]; exact .re h)⟩
  · cases hp
theorem hbA_some {g : Nat} {e : TypeId} {xs : List Value} {c size : Nat} : hbA (some ⟨g, 0, none⟩) e xs c size = [(g, ⟨e, xs, c * size⟩)] := rfl
theorem RowAt.mem {X hp : List (Nat × Hb)} {f : List (Nat × Hb) → List (Nat × Hb)} (r : RowAt X hp f) {p : Nat × Hb} (hp' : p ∈ X) : p ∈ hp := by
  induction r with
  | here => exact List.mem_append_left _ hp'
  | there _ ih => exact List.mem_cons_of_mem _ ih
  | skip _ ih => exact List.mem_append_right _ ih
/-- What a known pointer points to. -/
theorem Gd.cells {c : Cx} {st : St} {tm : List (Nat × Value)} {h : Hs} {ρ : Rho} {G : FG} (g : Gd c st tm h ρ G) {s : SV} {cs : List D} {o : Nat} {v : Value} (hs : DenS ρ ⟨G, h.w0⟩ s v) (hc : cellsT st.ob s = some (cs, o)) :
    ∃ b o' us, v = .pointer (some ⟨b, o' + o, none⟩) ∧ DenL ρ ⟨G, h.w0⟩ cs us ∧ ∀ w, Hp h w → ∀ (j : Nat) u, us[j]? = some u → w.cell? ⟨b, o' + j, none⟩ = some u := by
  unfold cellsT at hc
  split at hc
  · split at hc
    · rename_i k o1 x ty cs' hk
      injection hc with hc; injection hc with e1 e2; subst e1 e2
      cases hs with | d hs => cases hs with | @p _ _ b c' sz h0 =>
      obtain ⟨X, f, ⟨b', us, rfl, g2, g3⟩, g5⟩ := g.ob.at_ hk
      rw [h0] at g2
      injection g2 with g2; injection g2 with e1; injection e1 with e1; injection e1 with e1; subst e1
      refine ⟨b, 0, us, by rw [Nat.zero_add], g3, fun w hw j u hu => ?_⟩
      rw [Nat.zero_add]
      exact (hw.blk b _ (g5.mem (List.mem_singleton.2 rfl))).cell (x := ⟨ty, us, _⟩) hu
    · cases hc
  · injection hc with hc; injection hc with e1 e2; subst e1 e2
    cases hs with | d hs => cases hs with | q hb hu hd =>
    exact ⟨_, _, _, rfl, by rw [upT_map]; exact hd.up, fun w hw j u hj => (hw.same.cell (p := ⟨_, _, none⟩) (g.gF _ hb)).trans (hu j u hj)⟩
  · cases hc
end Go.Proofs.YtgloielnnakknaaDoor

/-
  The layer of trees: the value of an operation that only yields is what the machine yields.
-/
namespace Go.Proofs.YtgloielnnakknaaDoor
open Go.RowKit

def ikEqT : IntKind → IntKind → Bool
  | .i8, .i8 | .i16, .i16 | .i32, .i32 | .i64, .i64 | .u8, .u8 | .u16, .u16 | .u32, .u32 | .u64, .u64 => true
  | _, _ => false
theorem ikEqT_eq {a b : IntKind} (h : ikEqT a b = true) : a = b := by cases a <;> cases b <;> first | rfl | cases h
def cmpIT : BinOp → Int → Int → Option Bool
  | .eql, m, n => some (m == n)
  | .neq, m, n => some (m != n)
  | .lss, m, n => some (decide (m < n))
  | .leq, m, n => some (decide (m ≤ n))
  | .gtr, m, n => some (decide (n < m))
  | .geq, m, n => some (decide (n ≤ m))
  | _, _, _ => none
def cmpS : BinOp → ByteArray → ByteArray → Option Bool
  | .eql, m, n => some (m.toList == n.toList)
  | .neq, m, n => some (!(m.toList == n.toList))
  | .lss, m, n => some (Op.bytesLess m.toList n.toList)
  | .leq, m, n => some (Op.bytesLess m.toList n.toList || m.toList == n.toList)
  | .gtr, m, n => some (!(Op.bytesLess m.toList n.toList || m.toList == n.toList))
  | .geq, m, n => some (!(Op.bytesLess m.toList n.toList))
  | _, _, _ => none
/-- Comparisons of one cell. -/
def cmpD : BinOp → D → D → Option Bool
  | op, .u (.int k m), .u (.int k' n) => bif ikEqT k k' then cmpIT op m n else none
  | op, .u (.str a), .u (.str b) => cmpS op a b
  | _, _, _ => none
def cmpSV (op : BinOp) : SV → SV → Option Bool
  | .d x, .d y => cmpD op x y
  | _, _ => none
def fillT (place : Nat → Option (Nat × Nat)) : List D → List (Nat × SV) → Option (List D)
  | cs, [] => some cs
  | cs, (i, s) :: r => match place i with
    | none => none
    | some (off, n) => match s with
      | .d x => bif Nat.beq n 1 && Nat.blt off cs.length then fillT place (cs.set off x) r else none
      | .a xs => bif Nat.beq n xs.length && Nat.ble (off + n) cs.length then fillT place (cs.take off ++ xs ++ cs.drop (off + n)) r else none
      | .t _ => none
def partsT (tm : List (Nat × SV)) : List (Nat × Operand) → Option (List (Nat × SV))
  | [] => some []
  | (i, x) :: r => match evT tm x with
    | none => none
    | some s => match partsT tm r with
      | none => none
      | some l => some ((i, s) :: l)
def zerosT : List Value → Option (List D)
  | [] => some []
  | v :: r => match zeroT v with
    | none => none
    | some d => match zerosT r with
      | none => none
      | some l => some (.u d :: l)
/-- The boxes that a function value holds. -/
def capT (tm : List (Nat × SV)) : List Operand → Option (List Nat)
  | [] => some []
  | x :: r => match evT tm x with
    | some (.d (.p k 0)) => match capT tm r with
      | some l => some (k :: l)
      | none => none
    | _ => none
def capQ (tm : List (Nat × SV)) : List Operand → Option (List (List V))
  | [] => some []
  | x :: r => match evT tm x with
    | some (.d (.q c 0)) => match capQ tm r with
      | some l => some (c :: l)
      | none => none
    | _ => none
/-- The value of an operation that only yields. -/
def yT (T : List (Nat × Ty)) (tm : List (Nat × SV)) (ob : List (Nat × Ob)) : Op → Option SV
  | .move x => evT tm x
  | .assign x => evT tm x
  | .load t x => match evT tm x with
    | none => none
    | some s => match cellsT ob s with
      | none => none
      | some (cs, o) => match lk t T with
        | none => none
        | some i => match i.k.agg with
          | true => match cutT cs o i.size with
            | some l => some (.a l)
            | none => none
          | false => match nth cs o with
            | some v => some (.d v)
            | none => none
  | .fieldAddr s x f => match evT tm x with
    | none => none
    | some q => match lk s T with
      | none => none
      | some i => match i.k with
        | .st fs => match nth fs f with
          | none => none
          | some (off, ft) => match lk ft T with
            | none => none
            | some j => bif Nat.beq j.size 0 then none else plusT q off
        | _ => none
  | .nilCheck x => match evT tm x with
    | none => none
    | some s => match plusT s 0 with
      | some _ => some s
      | none => none
  | .extract x m => match evT tm x with
    | some (.t vs) => match nth vs m with
      | some x => some x.up
      | none => none
    | _ => none
  | .field s x f => match evT tm x with
    | some (.a cs) => match lk s T with
      | none => none
      | some i => match i.k with
        | .st fs => match nth fs f with
          | none => none
          | some (off, ft) => match lk ft T with
            | none => none
            | some j => match j.k.agg with
              | true => match cutT cs off j.size with
                | some l => some (.a l)
                | none => none
              | false => match nth cs off with
                | some v => some (.d v)
                | none => none
        | _ => none
    | _ => none
  | .unOp .not _ x => match evT tm x with
    | some (.d (.u (.bool b))) => some (.d (.u (.bool (!b))))
    | _ => none
  | .binOp op _ x y _ => match evT tm x with
    | none => none
    | some s => match evT tm y with
      | none => none
      | some s' => match cmpSV op s s' with
        | some b => some (.d (.u (.bool b)))
        | none => none
  | .build t ps => match lk t T with
    | none => none
    | some i => match i.k with
      | .st fs => match szs T fs with
        | none => none
        | some sz => match partsT tm ps.toList with
          | none => none
          | some vs => match zerosT i.zero with
            | none => none
            | some zs => match fillT (nth sz) zs vs with
              | some cs => some (.a cs)
              | none => none
      | _ => none
  | .makeFunc (.func f) first caps => match first.toList with
    | [] => match capT tm caps.toList with
      | some [] => some (.d (.u (.fn f)))
      | some (k :: ks) => some (.d (.fn f (k :: ks)))
      | none => match capQ tm caps.toList with
        | some cs => some (.d (.u (.cl f cs)))
        | none => none
    | _ => none
  | _ => none
section
variable {P : Program} {T : List (Nat × Ty)} [hT : Tys P T] {nt : Nat} {c : Cx} {st : St} {tm : List (Nat × Value)} {h : Hs} {ρ : Rho} {G : FG} {ty : TypeId} {pos : String} {af : Array Edge} {gd : Option (Nat × Bool)} {d : Option Tmp}
theorem capT_ok (g : Gd c st tm h ρ G) : ∀ {xs : List Operand} {ks : List Nat}, capT st.tm xs = some ks → ∃ us, ArgsL tm xs us ∧ us.length = ks.length ∧ ∀ (j : Nat) k u, ks[j]? = some k → us[j]? = some u → ∃ b c sz, ρ k = some ⟨some ⟨b, 0, none⟩, c, sz⟩ ∧ u = .pointer (some ⟨b, 0, none⟩)
  | [], ks, hc => by simp [capT] at hc; subst hc; exact ⟨[], .nil, rfl, by simp⟩
  | x :: r, ks, hc => by
    simp only [capT] at hc
    split at hc
    · rename_i k hx
      cases hr : capT st.tm r with
      | none => simp [hr] at hc
      | some l =>
        simp only [hr, Option.some.injEq] at hc
        subst hc
        obtain ⟨us, q1, q2, q3⟩ := capT_ok g hr
        obtain ⟨v, hv, hs⟩ := g.ev hx
        cases hs with | d hs => cases hs with | @p _ _ b cc sz hp =>
        refine ⟨_ :: us, .cons hv q1, by simp [q2], fun j k0 u e1 e2 => ?_⟩
        cases j with
        | zero => simp at e1 e2; subst e1 e2; exact ⟨b, cc, sz, hp, rfl⟩
        | succ j => exact q3 j k0 u (by simpa using e1) (by simpa using e2)
    · cases hc
theorem DenV.cl_of {z : Fz} {f : FuncId} {cs : List (List V)} {us : List Value} (hl : us.length = cs.length) (h : ∀ (j : Nat) c u, cs[j]? = some c → us[j]? = some u → Den ρ z (.q c 0) u) : DenV z (.cl f cs) (.func (.func f) #[] us.toArray) := by
  have key : ∀ j : Nat, ∃ (b o : Nat) (xs : List Value), ∀ c u, cs[j]? = some c → us[j]? = some u → u = .pointer (some ⟨b, o, none⟩) ∧ z.G b ∧ (∀ (i : Nat) x, xs[i]? = some x → z.w0.cell? ⟨b, o + i, none⟩ = some x) ∧ DenVL z c xs := by
    intro j
    by_cases hj : j < cs.length
    · have h0 := h j _ _ (List.getElem?_eq_getElem hj) (List.getElem?_eq_getElem (by rw [hl]; exact hj))
      generalize hu : us[j]'(by rw [hl]; exact hj) = u at h0
      cases h0 with | @q _ _ b o' xs hb hx hd =>
      refine ⟨b, o', xs, fun c u e1 e2 => ?_⟩
      rw [List.getElem?_eq_getElem hj] at e1
      rw [List.getElem?_eq_getElem (by rw [hl]; exact hj), hu] at e2
      injection e1 with e1
      injection e2 with e2
      subst e1 e2
      exact ⟨rfl, hb, hx, hd⟩
    · exact ⟨0, 0, [], fun c u e1 e2 => absurd (List.getElem?_eq_some_iff.1 e1).1 hj⟩
  let B := fun j => Classical.choose (key j)
  have kB : ∀ j, ∃ (o : Nat) (xs : List Value), ∀ c u, cs[j]? = some c → us[j]? = some u → u = .pointer (some ⟨B j, o, none⟩) ∧ z.G (B j) ∧ (∀ (i : Nat) x, xs[i]? = some x → z.w0.cell? ⟨B j, o + i, none⟩ = some x) ∧ DenVL z c xs := fun j => Classical.choose_spec (key j)
  let O := fun j => Classical.choose (kB j)
  have kO : ∀ j, ∃ (xs : List Value), ∀ c u, cs[j]? = some c → us[j]? = some u → u = .pointer (some ⟨B j, O j, none⟩) ∧ z.G (B j) ∧ (∀ (i : Nat) x, xs[i]? = some x → z.w0.cell? ⟨B j, O j + i, none⟩ = some x) ∧ DenVL z c xs := fun j => Classical.choose_spec (kB j)
  let X := fun j => Classical.choose (kO j)
  have kX : ∀ j, ∀ c u, cs[j]? = some c → us[j]? = some u → u = .pointer (some ⟨B j, O j, none⟩) ∧ z.G (B j) ∧ (∀ (i : Nat) x, (X j)[i]? = some x → z.w0.cell? ⟨B j, O j + i, none⟩ = some x) ∧ DenVL z c (X j) := fun j => Classical.choose_spec (kO j)
  have kc : ∀ j, j < cs.length → ∃ c u, cs[j]? = some c ∧ us[j]? = some u := fun j hj => ⟨_, _, List.getElem?_eq_getElem hj, List.getElem?_eq_getElem (by rw [hl]; exact hj)⟩
  refine .cl us B O X hl (fun j u hu => ?_) (fun j hj => ?_) (fun j c hc => ?_) (fun j hj => ?_) (fun j hj => ?_) (fun j c i d x e1 e2 e3 => ?_)
  · have hj : j < cs.length := by rw [← hl]; exact (List.getElem?_eq_some_iff.1 hu).1
    exact (kX j _ u (List.getElem?_eq_getElem hj) hu).1
  · obtain ⟨c, u, e1, e2⟩ := kc j hj
    exact (kX j c u e1 e2).2.1
  · obtain ⟨c', u, e1, e2⟩ := kc j (List.getElem?_eq_some_iff.1 hc).1
    rw [hc] at e1
    injection e1 with e1
    subst e1
    exact (kX j _ u hc e2).2.2.2.len
  · obtain ⟨c, u, e1, e2⟩ := kc j hj
    exact (kX j c u e1 e2).2.2.2.one
  · obtain ⟨c, u, e1, e2⟩ := kc j hj
    exact (kX j c u e1 e2).2.2.1
  · obtain ⟨c', u, f1, f2⟩ := kc j (List.getElem?_eq_some_iff.1 e1).1
    rw [e1] at f1
    injection f1 with f1
    subst f1
    exact (kX j _ u e1 f2).2.2.2.den i d x e2 e3
theorem DenV.cl_inv {z : Fz} {f : FuncId} {cs : List (List V)} {v : Value} (h : DenV z (.cl f cs) v) : ∃ us : List Value, v = .func (.func f) #[] us.toArray ∧ us.length = cs.length ∧ ∀ (j : Nat) c u, cs[j]? = some c → us[j]? = some u → Den ρ z (.q c 0) u := by
  cases h with | cl us B O X hl hu hG hX h1 hc hd =>
  refine ⟨us, rfl, hl, fun j c u e1 e2 => ?_⟩
  have hj := (List.getElem?_eq_some_iff.1 e1).1
  rw [hu j u e2]
  exact .q (o := 0) (us := X j) (hG j hj) (hc j hj) ⟨hX j c e1, h1 j hj, fun i d x f1 f2 => hd j c i d x e1 f1 f2⟩
theorem capQ_ok (g : Gd c st tm h ρ G) : ∀ {xs : List Operand} {cs : List (List V)}, capQ st.tm xs = some cs → ∃ us, ArgsL tm xs us ∧ us.length = cs.length ∧ ∀ (j : Nat) c u, cs[j]? = some c → us[j]? = some u → Den ρ ⟨G, h.w0⟩ (.q c 0) u
  | [], cs, hc => by simp [capQ] at hc; subst hc; exact ⟨[], .nil, rfl, by simp⟩
  | x :: r, cs, hc => by
    simp only [capQ] at hc
    split at hc
    · rename_i c0 hx
      cases hr : capQ st.tm r with
      | none => simp [hr] at hc
      | some l =>
        simp only [hr, Option.some.injEq] at hc
        subst hc
        obtain ⟨us, q1, q2, q3⟩ := capQ_ok g hr
        obtain ⟨v, hv, hs⟩ := g.ev hx
        cases hs with | d hs =>
        refine ⟨_ :: us, .cons hv q1, by simp [q2], fun j c u e1 e2 => ?_⟩
        cases j with
        | zero => simp at e1 e2; subst e1 e2; exact hs
        | succ j => exact q3 j c u (by simpa using e1) (by simpa using e2)
    · cases hc
theorem Yd.makeFunc {f : FuncId} {caps : List Operand} {us : List Value} (hx : ArgsL tm caps us) : Yd P nt ⟨d, .makeFunc (.func f) #[] caps.toArray, ty, pos, af, gd⟩ tm h (.func (.func f) #[] us.toArray) :=
  ⟨fun a w ha _ => by simp [execOp, Instr.makeFunc, List.map_toArray, hx.eq ha]⟩
theorem zerosT_den {z : Fz} : ∀ {vs : List Value} {l : List D}, zerosT vs = some l → DenL ρ z l vs
  | [], l, h => by simp [zerosT] at h; subst h; exact .nil
  | v :: r, l, h => by
    simp only [zerosT] at h
    cases h1 : zeroT v with
    | none => simp [h1] at h
    | some x =>
      cases h2 : zerosT r with
      | none => simp [h1, h2] at h
      | some l' =>
        simp only [h1, h2, Option.some.injEq] at h
        subst h
        exact (zerosT_den h2).cons (.u (zeroT_den h1))
theorem partsT_ok (g : Gd c st tm h ρ G) : ∀ {ps : List (Nat × Operand)} {l : List (Nat × SV)}, partsT st.tm ps = some l → ∃ vs, PartsL tm ps vs ∧ vs.length = l.length ∧ ∀ (j : Nat) i s i' v, l[j]? = some (i, s) → vs[j]? = some (i', v) → i = i' ∧ DenS ρ ⟨G, h.w0⟩ s v
  | [], l, hp => by simp [partsT] at hp; subst hp; exact ⟨[], .nil, rfl, by simp⟩
  | (i, x) :: r, l, hp => by
    simp only [partsT] at hp
    cases h1 : evT st.tm x with
    | none => simp [h1] at hp
    | some s =>
      cases h2 : partsT st.tm r with
      | none => simp [h1, h2] at hp
      | some l' =>
        simp only [h1, h2, Option.some.injEq] at hp
        subst hp
        obtain ⟨v, hv, hs⟩ := g.ev h1
        obtain ⟨vs, q1, q2, q3⟩ := partsT_ok g h2
        refine ⟨(i, v) :: vs, .cons hv q1, by simp [q2], fun j i1 s1 i2 v2 e1 e2 => ?_⟩
        cases j with
        | zero => simp at e1 e2; obtain ⟨rfl, rfl⟩ := e1; obtain ⟨rfl, rfl⟩ := e2; exact ⟨rfl, hs⟩
        | succ j => exact q3 j i1 s1 i2 v2 (by simpa using e1) (by simpa using e2)
theorem spl_mid : ∀ (cs vs : List Value) (o : Nat), o + vs.length ≤ cs.length → spl cs o vs = cs.take o ++ vs ++ cs.drop (o + vs.length)
  | cs, [], o, _ => by simp [spl_nil]
  | [], v :: vs, o, hl => by simp at hl
  | c :: cs, v :: vs, 0, hl => by
    have := spl_mid cs vs 0 (by simp at hl ⊢; omega)
    simp only [spl, this]
    simp
  | c :: cs, v :: vs, o + 1, hl => by
    have := spl_mid cs (v :: vs) o (by simp at hl ⊢; omega)
    simp only [spl, this]
    rw [show o + 1 + (v :: vs).length = (o + (v :: vs).length) + 1 by omega]
    simp
theorem DenL.take {z : Fz} {cs : List D} {us : List Value} (h : DenL ρ z cs us) (n : Nat) : DenL ρ z (cs.take n) (us.take n) := ⟨by simp [h.len], by
  rw [List.all_eq_true]; intro x hx; exact List.all_eq_true.1 h.one x (List.mem_of_mem_take hx), fun j d u h1 h2 => by
  have hj : j < n := by have := (List.getElem?_eq_some_iff.1 h1).1; simp at this; omega
  rw [List.getElem?_take_of_lt hj] at h1 h2
  exact h.den j d u h1 h2⟩
theorem DenL.drop {z : Fz} {cs : List D} {us : List Value} (h : DenL ρ z cs us) (n : Nat) : DenL ρ z (cs.drop n) (us.drop n) := ⟨by simp [h.len], by
  rw [List.all_eq_true]; intro x hx; exact List.all_eq_true.1 h.one x (List.mem_of_mem_drop hx), fun j d u h1 h2 => by
  rw [List.getElem?_drop] at h1 h2
  exact h.den _ d u h1 h2⟩
theorem DenL.mid {z : Fz} {cs xs : List D} {us vs : List Value} (h : DenL ρ z cs us) (hx : DenL ρ z xs vs) {o : Nat} (ho : o + xs.length ≤ cs.length) : DenL ρ z (cs.take o ++ xs ++ cs.drop (o + xs.length)) (spl us o vs) := by
  rw [spl_mid us vs o (by rw [hx.len, h.len]; exact ho), hx.len]
  exact ((h.take o).app hx).app (h.drop _)
/-- The cells of a slot. -/
def cellsOfT : SV → Option (List D)
  | .d x => some [x]
  | .a xs => some xs
  | .t _ => none
theorem cellsOfT_den {z : Fz} {s : SV} {xs : List D} {v : Value} (hx : cellsOfT s = some xs) (h : DenS ρ z s v) : DenL ρ z xs (vcells v) := by
  cases h with
  | d h =>
    simp only [cellsOfT, Option.some.injEq] at hx; subst hx
    have h1 := h.one
    have : vcells v = [v] := by cases v <;> first | rfl | cases h1
    rw [this]
    exact .one_ h
  | a h =>
    simp only [cellsOfT, Option.some.injEq] at hx; subst hx
    simpa [vcells] using h
  | t => cases hx
theorem set_mid {α : Type} : ∀ {cs : List α} {off : Nat} (x : α), off < cs.length → cs.set off x = cs.take off ++ [x] ++ cs.drop (off + 1)
  | c :: cs, 0, x, _ => by simp
  | c :: cs, off + 1, x, h => by simp [set_mid x (show off < cs.length by simpa using h)]
  | [], _, _, h => by simp at h
theorem fillT_den {z : Fz} {place : Nat → Option (Nat × Nat)} : ∀ {l : List (Nat × SV)} {vs : List (Nat × Value)} {cs cs' : List D} {us : List Value}, vs.length = l.length → (∀ (j : Nat) i s i' v, l[j]? = some (i, s) → vs[j]? = some (i', v) → i = i' ∧ DenS ρ z s v) → DenL ρ z cs us → fillT place cs l = some cs' →
    ∃ us', fillV place us vs = some us' ∧ DenL ρ z cs' us'
  | [], [], cs, cs', us, _, _, hd, hf => by simp [fillT] at hf; subst hf; exact ⟨us, rfl, hd⟩
  | (i, s) :: l, (i', v) :: vs, cs, cs', us, hl, hp, hd, hf => by
    obtain ⟨rfl, hs⟩ := hp 0 i s i' v rfl rfl
    have hp' : ∀ (j : Nat) i s i' v, l[j]? = some (i, s) → vs[j]? = some (i', v) → i = i' ∧ DenS ρ z s v := fun j i1 s1 i2 v2 e1 e2 => hp (j + 1) i1 s1 i2 v2 (by simpa using e1) (by simpa using e2)
    simp only [fillT] at hf
    cases hpl : place i with
    | none => simp [hpl] at hf
    | some q =>
      obtain ⟨off, n⟩ := q
      simp only [hpl] at hf
      have key : ∀ xs, cellsOfT s = some xs → n = xs.length → off + n ≤ cs.length → fillT place (cs.take off ++ xs ++ cs.drop (off + n)) l = some cs' → ∃ us', fillV place us ((i, v) :: vs) = some us' ∧ DenL ρ z cs' us' := by
        intro xs hx hn ho hf
        subst hn
        have hv := cellsOfT_den hx hs
        obtain ⟨us', q1, q2⟩ := fillT_den (by simpa using hl) hp' (hd.mid hv ho) hf
        refine ⟨us', ?_, q2⟩
        have e1 : Nat.beq (vcells v).length xs.length = true := by rw [hv.len]; exact Nat.beq_refl _
        have e2 : Nat.ble (off + (vcells v).length) us.length = true := by rw [hv.len, hd.len]; exact Nat.ble_eq ▸ ho
        simp only [fillV, hpl, e1, e2, Bool.and_self, cond_true]
        exact q1
      cases s with
      | d x =>
        simp only at hf
        cases hb : (Nat.beq n 1 && Nat.blt off cs.length)
        · rw [hb] at hf; cases hf
        · rw [hb] at hf
          simp only [Bool.and_eq_true] at hb
          have h1 := Nat.eq_of_beq_eq_true hb.1
          have h2 : off < cs.length := by simpa [Nat.blt_eq] using hb.2
          subst h1
          simp only [cond_true, set_mid x h2] at hf
          exact key [x] rfl rfl (by omega) hf
      | a xs =>
        simp only at hf
        cases hb : (Nat.beq n xs.length && Nat.ble (off + n) cs.length)
        · rw [hb] at hf; cases hf
        · rw [hb] at hf
          simp only [Bool.and_eq_true] at hb
          exact key xs rfl (Nat.eq_of_beq_eq_true hb.1) (by simpa [Nat.ble_eq] using hb.2) hf
      | t => cases hf
  | [], _ :: _, _, _, _, hl, _, _, _ => by simp at hl
  | _ :: _, [], _, _, _, hl, _, _, _ => by simp at hl
end
end Go.Proofs.YtgloielnnakknaaDoor

/-
  Equality of structs whose fields are plain; of no program.
-/
namespace Go.Proofs.YtgloielnnakknaaDoor
open Go.RowKit

/-- One pair of plain values at a kind. -/
def eqD : Tk → D → D → Option Bool
  | .in_ _, .u (.int k a), .u (.int k' b) => bif ikEqT k k' then some (a == b) else none
  | .bo, .u (.bool a), .u (.bool b) => some (a == b)
  | .sr, .u (.str a), .u (.str b) => some (a.toList == b.toList)
  | _, _, _ => none
def eqT (T : List (Nat × Ty)) : List (Nat × TypeId) → Nat → List D → List D → Option Bool
  | [], _, [], [] => some true
  | (off, ft) :: fs, i, x :: xs, y :: ys => bif Nat.beq off i then match lk ft T with
      | none => none
      | some j => match eqD j.k x y with
        | none => none
        | some p => match eqT T fs (i + 1) xs ys with
          | none => none
          | some q => some (p && q)
    else none
  | _, _, _, _ => none
/-- What the program says of a type whose values are compared. -/
def eqChk (P : Program) (t : TypeId) : Bool := !P.stoodInHeld t && (!P.eqGuardType P.depth t && (P.fieldsOf t).toList.all fun f => f.name != "_")
structure Eqv (P : Program) (t : TypeId) (X : Prop) : Prop where
  h : eqChk P t = true
  k : X
section
variable {P : Program} {T : List (Nat × Ty)} [hT : Tys P T] {ρ : Rho} {z : Fz}
theorem eqD_run {t : TypeId} {j : Ty} {x y : D} {u v : Value} {p : Bool} (hj : lk t T = some j) (he : eqD j.k x y = some p) (hx : Den ρ z x u) (hy : Den ρ z y v) (n : Nat) (w : World) :
    (∀ (cs : Array Value) (i : Nat) (a : Value), cs[i]? = some a → (part t cs i).run P w = .ok a w) ∧ (Op.equalIn (n + 1) t u v).run P w = .ok p w := by
  have hk := (hT.ok t j hj).kind
  obtain ⟨k, s, b, zz⟩ := j
  simp only at he hk
  unfold eqD at he
  split at he
  · rename_i k1 k2 a k3 c
    cases hik : ikEqT k2 k3 <;> rw [hik] at he
    · cases he
    · have := ikEqT_eq hik
      subst this
      simp only [cond_true, Option.some.injEq] at he
      subst he
      cases hx with | u hx => cases hx with | int => cases hy with | u hy => cases hy with | int =>
      have hu : P.underlying t = some (.int k1) := hk
      exact ⟨fun cs i a ha => by simp [part, isAgg, run_underlying hu, ha], run_equalIn_int w n t _ _ _ _ hu⟩
  · injection he with he; subst he
    cases hx with | u hx => cases hx with | bool => cases hy with | u hy => cases hy with | bool =>
    have hu : P.underlying t = some .bool := hk
    exact ⟨fun cs i a ha => by simp [part, isAgg, run_underlying hu, ha], run_equalIn_bool w n t _ _ hu⟩
  · injection he with he; subst he
    cases hx with | u hx => cases hx with | str => cases hy with | u hy => cases hy with | str =>
    have hu : P.underlying t = some .string := hk
    exact ⟨fun cs i a ha => by simp [part, isAgg, run_underlying hu, ha], run_equalIn_string w n t _ _ hu⟩
  · cases he
theorem eqT_run {n : Nat} {us vs : List Value} : ∀ {fields : List Field} {i : Nat} {xs ys : List D} {p : Bool}, eqT T (fields.map fun f => (f.offset, f.type)) i xs ys = some p → (fields.all fun f => f.name != "_") = true →
    (∀ (j : Nat) d u, xs[j]? = some d → us[i + j]? = some u → Den ρ z d u) → (∀ (j : Nat) d u, ys[j]? = some d → vs[i + j]? = some u → Den ρ z d u) → us.length = i + xs.length → vs.length = i + ys.length → ∀ w, (Op.eqFields (n + 1) us.toArray vs.toArray fields).run P w = .ok p w
  | [], i, [], [], p, h, _, _, _, _, _, w => by simp [eqT] at h; subst h; simp [Op.eqFields]
  | [], i, _ :: _, _, p, h, _, _, _, _, _, w => by simp [eqT] at h
  | [], i, [], _ :: _, p, h, _, _, _, _, _, w => by simp [eqT] at h
  | f :: fs, i, [], _, p, h, _, _, _, _, _, w => by simp [eqT] at h
  | f :: fs, i, _ :: _, [], p, h, _, _, _, _, _, w => by simp [eqT] at h
  | f :: fs, i, x :: xs, y :: ys, p, h, hn, hx, hy, hlx, hly, w => by
    simp only [List.map_cons, eqT] at h
    cases hb : Nat.beq f.offset i <;> rw [hb] at h
    · cases h
    · have hoff := Nat.eq_of_beq_eq_true hb
      simp only [cond_true] at h
      cases hj : lk f.type T with
      | none => simp [hj] at h
      | some j =>
        simp only [hj] at h
        cases he : eqD j.k x y with
        | none => simp [he] at h
        | some p1 =>
          cases hr : eqT T (fs.map fun f => (f.offset, f.type)) (i + 1) xs ys with
          | none => simp [he, hr] at h
          | some p2 =>
            simp only [he, hr, Option.some.injEq] at h
            subst h
            simp only [List.all_cons, Bool.and_eq_true] at hn
            simp only [List.length_cons] at hlx hly
            have hu : us[i]? = some us[i] := List.getElem?_eq_getElem (by omega)
            have hv : vs[i]? = some vs[i] := List.getElem?_eq_getElem (by omega)
            obtain ⟨q1, q2⟩ := eqD_run (P := P) hj he (hx 0 x us[i] rfl hu) (hy 0 y vs[i] rfl hv) n w
            have ih := eqT_run (n := n) (us := us) (vs := vs) hr hn.2 (fun j d u e1 e2 => hx (j + 1) d u (by simpa using e1) (by rw [← e2]; congr 1; omega)) (fun j d u e1 e2 => hy (j + 1) d u (by simpa using e1) (by rw [← e2]; congr 1; omega)) (by omega) (by omega) w
            have hnm : f.name ≠ "_" := by simpa using hn.1
            simp only [Op.eqFields, ne_eq, hnm, not_false_eq_true, if_true, Sem.run_bind, hoff, q1 us.toArray i us[i] (by simp), q1 vs.toArray i vs[i] (by simp), Result.andThen_ok, q2]
            cases p1
            · simp
            · simpa using ih
theorem eqT_binOp {t : TypeId} {i : Ty} {fs : List (Nat × TypeId)} {xs ys : List D} {us vs : List Value} {p : Bool} (ht : lk t T = some i) (hk : i.k = .st fs) (he : eqT T fs 0 xs ys = some p) (hc : eqChk P t = true) (hx : DenL ρ z xs us) (hy : DenL ρ z ys vs) (x y : Operand) (w : World) :
    (eqGuard .eql t x y (.agg us.toArray) (.agg vs.toArray)).run P w = .ok () w ∧ (eqGuard .neq t x y (.agg us.toArray) (.agg vs.toArray)).run P w = .ok () w ∧ (Op.equal t (.agg us.toArray) (.agg vs.toArray)).run P w = .ok p w := by
  simp only [eqChk, Bool.and_eq_true, Bool.not_eq_eq_eq_not, Bool.not_true] at hc
  have h1 := (hT.ok t i ht).kind
  rw [hk] at h1
  obtain ⟨fields, h2, h3⟩ := h1
  have hf : P.fieldsOf t = fields := by simp [Program.fieldsOf, h2]
  refine ⟨by simp [eqGuard, hc.2.1], by simp [eqGuard, hc.2.1], ?_⟩
  unfold Op.equal Op.maxDepth
  rw [run_equalIn_struct w 9999 t us.toArray vs.toArray (by rw [hf]; exact h2) hc.1, hf]
  rw [← h3] at he
  exact eqT_run (n := 9998) he (by rw [← hf]; exact hc.2.2) (fun j d u e1 e2 => hx.den j d u e1 (by simpa using e2)) (fun j d u e1 e2 => hy.den j d u e1 (by simpa using e2)) (by rw [hx.len]; omega) (by rw [hy.len]; omega) w
end
end Go.Proofs.YtgloielnnakknaaDoor

/-
  The layer of trees: the value of an operation that only yields is what the machine yields (2).
-/
namespace Go.Proofs.YtgloielnnakknaaDoor
open Go.RowKit

section
variable {P : Program} {T : List (Nat × Ty)} [hT : Tys P T] {nt : Nat} {c : Cx} {st : St} {tm : List (Nat × Value)} {h : Hs} {ρ : Rho} {G : FG} {ty : TypeId} {pos : String} {af : Array Edge} {gd : Option (Nat × Bool)} {d : Option Tmp}
theorem Yd.cmpS {x y : Operand} {t u : TypeId} {a b : ByteArray} {op : BinOp} {r : Bool} (hx : ev tm x = some (.string a)) (hy : ev tm y = some (.string b)) (hc : Go.Proofs.YtgloielnnakknaaDoor.cmpS op a b = some r) : Yd P nt ⟨d, .binOp op t x y u, ty, pos, af, gd⟩ tm h (.bool r) := ⟨fun s w ha _ => by
  cases op <;> simp only [Go.Proofs.YtgloielnnakknaaDoor.cmpS] at hc <;> first | (cases hc; done) | (injection hc with hc; subst hc; simp [execOp, eqGuard, binOp, Op.stringOp, ha.ev hx, ha.ev hy])⟩
theorem Yd.fieldN {s f : Nat} {x : Operand} {off ft : Nat} {i j : Ty} {fs : List (Nat × TypeId)} {us vs : List Value} (hx : ev tm x = some (.agg us.toArray)) (ht : lk s T = some i) (hk : i.k = .st fs) (hf : nth fs f = some (off, ft)) (hj : lk ft T = some j) (hg : j.k.agg = true) (hl : vs.length = j.size) (hv : ∀ (n : Nat) v, vs[n]? = some v → us[off + n]? = some v) :
    Yd P nt ⟨d, .field s x f, ty, pos, af, gd⟩ tm h (.agg vs.toArray) :=
  ⟨fun a w ha hw => by
    have h1 := (hT.ok s i ht).kind
    rw [hk] at h1
    obtain ⟨fields, h2, h3⟩ := h1
    rw [nth_eq, ← h3, List.getElem?_map] at hf
    cases hfj : fields.toList[f]? with
    | none => rw [hfj] at hf; cases hf
    | some fl =>
      rw [hfj] at hf
      simp only [Option.map_some, Option.some.injEq, Prod.mk.injEq] at hf
      obtain ⟨rfl, rfl⟩ := hf
      have hfa : fields[f]? = some fl := by simpa using hfj
      have he : List.take j.size (List.drop fl.offset us) = vs := by
        apply List.ext_getElem?
        intro n
        rcases Nat.lt_or_ge n vs.length with hn | hn
        · have := hv n _ (List.getElem?_eq_getElem hn)
          rw [List.getElem?_eq_getElem hn, ← this]
          rw [List.getElem?_take_of_lt (by omega), List.getElem?_drop]
        · rw [List.getElem?_eq_none hn, List.getElem?_eq_none]
          simp; omega
      simp [execOp, Instr.field, part, asAgg, ha.ev hx, run_underlying h2, hfa, (hT.ok _ j hj).run_isAgg, hg, (hT.ok _ j hj).run_size, he]⟩
theorem evT_int (g : Gd c st tm h ρ G) {x : Operand} {k : IntKind} {n : Int} (hx : evT st.tm x = some (.d (.u (.int k n)))) : ev tm x = some (.int k n) := by
  obtain ⟨v, h1, h2⟩ := g.ev hx
  cases h2 with | d h2 => cases h2 with | u h2 => cases h2; exact h1
theorem evT_bool (g : Gd c st tm h ρ G) {x : Operand} {b : Bool} (hx : evT st.tm x = some (.d (.u (.bool b)))) : ev tm x = some (.bool b) := by
  obtain ⟨v, h1, h2⟩ := g.ev hx
  cases h2 with | d h2 => cases h2 with | u h2 => cases h2; exact h1
theorem evT_str (g : Gd c st tm h ρ G) {x : Operand} {b : ByteArray} (hx : evT st.tm x = some (.d (.u (.str b)))) : ev tm x = some (.string b) := by
  obtain ⟨v, h1, h2⟩ := g.ev hx
  cases h2 with | d h2 => cases h2 with | u h2 => cases h2; exact h1
theorem yT_load (g : Gd c st tm h ρ G) {t : TypeId} {x : Operand} {s : SV} (hy : yT T st.tm st.ob (.load t x) = some s) : ∃ v, Yd P nt ⟨d, .load t x, ty, pos, af, gd⟩ tm h v ∧ DenS ρ ⟨G, h.w0⟩ s v := by
  simp only [yT] at hy
  cases hx : evT st.tm x with
  | none => simp [hx] at hy
  | some q =>
    simp only [hx] at hy
    cases hc : cellsT st.ob q with
    | none => simp [hc] at hy
    | some p =>
      obtain ⟨cs, o⟩ := p
      simp only [hc] at hy
      obtain ⟨v, hv, hq⟩ := g.ev hx
      obtain ⟨b, o', us, rfl, hd, hcell⟩ := g.cells hq hc
      cases ht : lk t T with
      | none => simp [ht] at hy
      | some i =>
        simp only [ht] at hy
        cases hk : i.k.agg
        · simp only [hk] at hy
          cases hn : nth cs o with
          | none => simp [hn] at hy
          | some e =>
            simp only [hn, Option.some.injEq] at hy
            subst hy
            rw [nth_eq] at hn
            obtain ⟨u, hu, hdu⟩ := hd.get hn
            exact ⟨u, Yd.load1 hv ht hk ⟨fun w hw => hcell w hw o u hu⟩, .d hdu⟩
        · simp only [hk] at hy
          cases hl : cutT cs o i.size with
          | none => simp [hl] at hy
          | some l =>
            simp only [hl, Option.some.injEq] at hy
            subst hy
            obtain ⟨h1, h2⟩ := cutT_get hl
            obtain ⟨vs, q1, q2⟩ := hd.part (o := o) h2
            refine ⟨_, Yd.loadn (vs := vs) hv ht hk ⟨fun w hw j u hu => ?_⟩ (by rw [q1.len, h1]), .a q1⟩
            rw [Nat.add_assoc]
            exact hcell w hw (o + j) u (q2 j u hu)
theorem yT_sound (g : Gd c st tm h ρ G) {op : Op} {s : SV} (hy : yT T st.tm st.ob op = some s) : ∃ v, Yd P nt ⟨d, op, ty, pos, af, gd⟩ tm h v ∧ DenS ρ ⟨G, h.w0⟩ s v := by
  cases op with
  | makeFunc fn first caps =>
    cases fn with
    | func f =>
      simp only [yT] at hy
      split at hy
      · rename_i hf
        have hf' : first = #[] := by rw [← Array.toArray_toList (xs := first), hf]
        subst hf'
        have hc' : caps = caps.toList.toArray := by simp
        rw [hc']
        split at hy
        · rename_i hc
          obtain ⟨us, q1, q2, q3⟩ := capT_ok g hc
          have : us = [] := List.eq_nil_of_length_eq_zero (by simpa using q2)
          subst this
          injection hy with hy
          subst hy
          exact ⟨_, .makeFunc q1, .d (.u .fn)⟩
        · rename_i k ks hc
          obtain ⟨us, q1, q2, q3⟩ := capT_ok g hc
          injection hy with hy
          subst hy
          exact ⟨_, .makeFunc q1, .d (.fn us q2 q3)⟩
        · split at hy
          · rename_i cs hc
            obtain ⟨us, q1, q2, q3⟩ := capQ_ok g hc
            injection hy with hy
            subst hy
            exact ⟨_, .makeFunc q1, .d (.u (.cl_of q2 q3))⟩
          · cases hy
      · cases hy
    | _ => simp [yT] at hy
  | move x =>
    obtain ⟨v, hv, hs⟩ := g.ev (x := x) (by simpa [yT] using hy)
    exact ⟨v, .move hv, hs⟩
  | assign x =>
    obtain ⟨v, hv, hs⟩ := g.ev (x := x) (by simpa [yT] using hy)
    exact ⟨v, .assign hv, hs⟩
  | load t x => exact yT_load g hy
  | fieldAddr st' x f =>
    simp only [yT] at hy
    cases hx : evT st.tm x with
    | none => simp [hx] at hy
    | some q =>
      simp only [hx] at hy
      obtain ⟨v, hv, hq⟩ := g.ev hx
      cases ht : lk st' T with
      | none => simp [ht] at hy
      | some i =>
        simp only [ht] at hy
        cases hk : i.k <;> simp only [hk] at hy <;> try cases hy
        rename_i fs
        cases hf : nth fs f with
        | none => simp [hf] at hy
        | some p =>
          obtain ⟨off, ft⟩ := p
          simp only [hf] at hy
          cases hj : lk ft T with
          | none => simp [hj] at hy
          | some j =>
            simp only [hj] at hy
            cases hz : Nat.beq j.size 0
            · rw [hz] at hy
              simp only [cond_false] at hy
              obtain ⟨b, o, rfl, hs⟩ := plusT_den hy hq
              exact ⟨_, Yd.fieldAddr hv ht hk hf hj hz, hs⟩
            · rw [hz] at hy; cases hy
  | nilCheck x =>
    simp only [yT] at hy
    cases hx : evT st.tm x with
    | none => simp [hx] at hy
    | some q =>
      simp only [hx] at hy
      obtain ⟨v, hv, hq⟩ := g.ev hx
      cases hp : plusT q 0 with
      | none => simp [hp] at hy
      | some q' =>
        simp only [hp, Option.some.injEq] at hy
        subst hy
        obtain ⟨b, o, rfl, hs⟩ := plusT_den hp hq
        exact ⟨_, Yd.nilCheck hv, hq⟩
  | extract x m =>
    simp only [yT] at hy
    split at hy
    · rename_i ss hx
      obtain ⟨v, hv, hs⟩ := g.ev hx
      cases hs with
      | @t _ vs hl hd =>
        cases hn : nth ss m with
        | none => simp [hn] at hy
        | some x =>
          simp only [hn, Option.some.injEq] at hy
          subst hy
          rw [nth_eq] at hn
          have hm : m < vs.length := by rw [hl]; exact (List.getElem?_eq_some_iff.1 hn).1
          exact ⟨vs[m], Yd.extract hv (by rw [nth_eq]; simp [hm]), (hd m x _ hn (List.getElem?_eq_getElem hm)).up⟩
    · cases hy
  | field st' x f =>
    simp only [yT] at hy
    split at hy
    · rename_i cs hx
      obtain ⟨v, hv, hs⟩ := g.ev hx
      cases hs with
      | @a _ us hd =>
        cases ht : lk st' T with
        | none => simp [ht] at hy
        | some i =>
          simp only [ht] at hy
          cases hk : i.k <;> simp only [hk] at hy <;> try cases hy
          rename_i fs
          cases hf : nth fs f with
          | none => simp [hf] at hy
          | some p =>
            obtain ⟨off, ft⟩ := p
            simp only [hf] at hy
            cases hj : lk ft T with
            | none => simp [hj] at hy
            | some j =>
              simp only [hj] at hy
              cases hg : j.k.agg <;> simp only [hg] at hy
              · cases hn : nth cs off with
                | none => simp [hn] at hy
                | some e =>
                  simp only [hn, Option.some.injEq] at hy
                  subst hy
                  rw [nth_eq] at hn
                  obtain ⟨u, hu, hdu⟩ := hd.get hn
                  exact ⟨u, Yd.field1 hv ht hk hf hj hg (by rw [nth_eq]; simpa using hu), .d hdu⟩
              · cases hl : cutT cs off j.size with
                | none => simp [hl] at hy
                | some l =>
                  simp only [hl, Option.some.injEq] at hy
                  subst hy
                  obtain ⟨h1, h2⟩ := cutT_get hl
                  obtain ⟨vs, q1, q2⟩ := hd.part (o := off) h2
                  exact ⟨_, Yd.fieldN (vs := vs) hv ht hk hf hj hg (by rw [q1.len, h1]) q2, .a q1⟩
    · cases hy
  | unOp o t x =>
    cases o <;> simp only [yT] at hy <;> try cases hy
    split at hy
    · rename_i b hx
      injection hy with hy; subst hy
      exact ⟨_, Yd.not (evT_bool g hx), .d (.u (.bool _))⟩
    · cases hy
  | binOp o t x y u =>
    simp only [yT] at hy
    cases hx : evT st.tm x with
    | none => simp [hx] at hy
    | some q =>
      cases hy' : evT st.tm y with
      | none => simp [hx, hy'] at hy
      | some q' =>
        simp only [hx, hy'] at hy
        cases hc : cmpSV o q q' with
        | none => simp [hc] at hy
        | some r =>
          simp only [hc, Option.some.injEq] at hy
          subst hy
          unfold cmpSV at hc
          split at hc
          · unfold cmpD at hc
            split at hc
            · rename_i k m k' n
              cases hk : ikEqT k k'
              · rw [hk] at hc; cases hc
              · rw [hk] at hc
                have := ikEqT_eq hk
                subst this
                simp only [cond_true] at hc
                have e1 := evT_int g hx
                have e2 := evT_int g hy'
                refine ⟨.bool r, ?_, .d (.u (.bool _))⟩
                cases o <;> simp only [cmpIT] at hc <;> first | (cases hc; done) | (injection hc with hc; subst hc)
                · exact Yd.eql e1 e2
                · exact Yd.neq e1 e2
                · exact Yd.lss e1 e2
                · exact Yd.leq e1 e2
                · exact Yd.gtr e1 e2
                · exact Yd.geq e1 e2
            · exact ⟨.bool r, Yd.cmpS (evT_str g hx) (evT_str g hy') hc, .d (.u (.bool _))⟩
            · cases hc
          · cases hc
  | build t ps =>
    simp only [yT] at hy
    cases ht : lk t T with
    | none => simp [ht] at hy
    | some i =>
      simp only [ht] at hy
      cases hk : i.k <;> simp only [hk] at hy <;> try cases hy
      rename_i fs
      cases hs : szs T fs with
      | none => simp [hs] at hy
      | some sz =>
        simp only [hs] at hy
        cases hv : partsT st.tm ps.toList with
        | none => simp [hv] at hy
        | some l =>
          simp only [hv] at hy
          cases hz : zerosT i.zero with
          | none => simp [hz] at hy
          | some zs =>
            simp only [hz] at hy
            cases hf : fillT (nth sz) zs l with
            | none => simp [hf] at hy
            | some cs =>
              simp only [hf, Option.some.injEq] at hy
              subst hy
              obtain ⟨vs, q1, q2, q3⟩ := partsT_ok g hv
              obtain ⟨us, r1, r2⟩ := fillT_den q2 q3 (zerosT_den hz) hf
              have := Yd.build (P := P) (nt := nt) (h := h) (d := d) (ty := ty) (pos := pos) (af := af) (gd := gd) ht hk hs q1 r1
              exact ⟨_, by simpa using this, .a r2⟩
  | _ => simp [yT] at hy
end
end Go.Proofs.YtgloielnnakknaaDoor

/-
  The layer of trees: own objects are made, written, taken.
-/
namespace Go.Proofs.YtgloielnnakknaaDoor
open Go.RowKit

/-- The tree names k. -/
def D.has (k : Nat) : D → Bool
  | .u _ => false
  | .ow j _ => Nat.beq j k
  | .p j _ => Nat.beq j k
  | .e j _ _ => Nat.beq j k
  | .q _ _ => false
  | .fn _ ks => has' k ks
  | .mp j => Nat.beq j k
  | D.r .. => false
  | D.re .. => false
  | .ows j _ _ => Nat.beq j k
  | .any => false
where
  has' (k : Nat) : List Nat → Bool
    | [] => false
    | j :: js => bif Nat.beq j k then true else has' k js
def hasL (k : Nat) : List D → Bool
  | [] => false
  | x :: r => bif x.has k then true else hasL k r
def hasC (k : Nat) : List SC → Bool
  | [] => false
  | .d x :: r => bif x.has k then true else hasC k r
  | .a cs :: r => bif hasL k cs then true else hasC k r
def SV.has (k : Nat) : SV → Bool
  | .d x => x.has k
  | .a cs => hasL k cs
  | .t vs => hasC k vs
def hasTm (k : Nat) : List (Nat × SV) → Bool
  | [] => false
  | (_, s) :: r => bif s.has k then true else hasTm k r
def hasOb (k : Nat) : List (Nat × Ob) → Bool
  | [] => false
  | (j, .bx _ cs) :: r => bif Nat.beq j k then true else bif hasL k cs then true else hasOb k r
  | (j, .ar _ _ _) :: r => bif Nat.beq j k then true else hasOb k r
  | (j, .fm _ _) :: r => bif Nat.beq j k then true else hasOb k r
  | (j, .mp _ _ _) :: r => bif Nat.beq j k then true else hasOb k r
  | (j, .fa _ _ _) :: r => bif Nat.beq j k then true else hasOb k r
/-- The name is new. -/
def newN (k : Nat) (tm : List (Nat × SV)) (ob : List (Nat × Ob)) : Bool := bif hasTm k tm then false else bif hasOb k ob then false else true

def upd (ρ : Rho) (k : Nat) (l : Loc) : Rho := ⟨fun j => if j = k then some l else ρ j, ρ.os⟩
theorem upd_self {ρ : Rho} {k : Nat} {l : Loc} : upd ρ k l k = some l := by simp [upd]
theorem upd_ne {ρ : Rho} {k j : Nat} {l : Loc} (h : Nat.beq j k = false) : upd ρ k l j = ρ j := by
  have : j ≠ k := fun e => by rw [e, Nat.beq_refl] at h; cases h
  simp [upd, this]
section
variable {ρ : Rho} {z : Fz} {k : Nat} {l : Loc}
theorem D.has'_ne {ks : List Nat} (h : D.has.has' k ks = false) : ∀ (j : Nat) i, ks[j]? = some i → Nat.beq i k = false := by
  induction ks with
  | nil => intro j i hj; simp at hj
  | cons x r ih =>
    simp only [D.has.has'] at h
    cases hb : Nat.beq x k
    · rw [hb] at h
      intro j i hj
      cases j with
      | zero => simp at hj; subst hj; exact hb
      | succ j => exact ih h j i (by simpa using hj)
    · rw [hb] at h; cases h
theorem Den.upd {d : D} {v : Value} (hn : d.has k = false) (h : Den ρ z d v) : Den (upd ρ k l) z d v := by
  cases h with
  | u h => exact .u h
  | ow h hA hc => exact .ow (by rw [upd_ne hn]; exact h) hA hc
  | p h => exact .p (by rw [upd_ne hn]; exact h)
  | e h => exact .e (by rw [upd_ne hn]; exact h)
  | q hb hu hd => exact .q hb hu hd
  | fn us hl hd =>
    refine .fn us hl fun j i u h1 h2 => ?_
    obtain ⟨b, c, sz, h3, h4⟩ := hd j i u h1 h2
    exact ⟨b, c, sz, by rw [upd_ne (D.has'_ne hn j i h1)]; exact h3, h4⟩
  | mp h hA => exact .mp (by rw [upd_ne hn]; exact h) hA
  | r h hA hc hm => exact .r h hA hc hm
  | re h => exact .re h
  | ows h hc => exact .ows (by rw [upd_ne hn]; exact h) hc
  | any h1 => exact .any h1
theorem hasL_get {cs : List D} (h : hasL k cs = false) : ∀ (j : Nat) d, cs[j]? = some d → d.has k = false := by
  induction cs with
  | nil => intro j d hj; simp at hj
  | cons x r ih =>
    simp only [hasL] at h
    cases hb : x.has k
    · rw [hb] at h
      intro j d hj
      cases j with
      | zero => simp at hj; subst hj; exact hb
      | succ j => exact ih h j d (by simpa using hj)
    · rw [hb] at h; cases h
theorem DenL.upd {cs : List D} {us : List Value} (hn : hasL k cs = false) (h : DenL ρ z cs us) : DenL (upd ρ k l) z cs us := ⟨h.len, h.one, fun j d u h1 h2 => (h.den j d u h1 h2).upd (hasL_get hn j d h1)⟩
theorem hasC_get {cs : List SC} (h : hasC k cs = false) : ∀ (j : Nat) s, cs[j]? = some s → s.up.has k = false := by
  induction cs with
  | nil => intro j d hj; simp at hj
  | cons x r ih =>
    cases x with
    | d x =>
      simp only [hasC] at h
      cases hb : x.has k
      · rw [hb] at h
        intro j d hj
        cases j with
        | zero => simp at hj; subst hj; exact hb
        | succ j => exact ih h j d (by simpa using hj)
      · rw [hb] at h; cases h
    | a x =>
      simp only [hasC] at h
      cases hb : hasL k x
      · rw [hb] at h
        intro j d hj
        cases j with
        | zero => simp at hj; subst hj; exact hb
        | succ j => exact ih h j d (by simpa using hj)
      · rw [hb] at h; cases h
theorem DenS.upd {s : SV} {v : Value} (hn : s.has k = false) (h : DenS ρ z s v) : DenS (upd ρ k l) z s v := by
  cases h with
  | d h => exact .d (h.upd hn)
  | a h => exact .a (h.upd hn)
  | t hl hd =>
    refine .t hl fun j s v h1 h2 => ?_
    have hs := hasC_get hn j s h1
    cases hd j s v h1 h2 with
    | d h => exact .d (h.upd hs)
    | a h => exact .a (h.upd hs)
theorem hasTm_get {tm : List (Nat × SV)} (h : hasTm k tm = false) : ∀ j s, lk j tm = some s → s.has k = false := by
  induction tm with
  | nil => intro j s hj; simp [lk] at hj
  | cons p r ih =>
    obtain ⟨i, x⟩ := p
    simp only [hasTm] at h
    cases hb : x.has k
    · rw [hb] at h
      intro j s hj
      simp only [lk] at hj
      cases hi : Nat.beq j i
      · rw [hi] at hj; exact ih h j s hj
      · rw [hi] at hj; simp at hj; subst hj; exact hb
    · rw [hb] at h; cases h
theorem CellOk.congr {ρ' : Rho} {k i o : Nat} (hq : ρ'.os k i o = ρ.os k i o) {e : E} {u : Value} {X : List (Nat × Hb)} (h : CellOk ρ z k i o e u X) : CellOk ρ' z k i o e u X := by
  cases e with
  | v x => exact h
  | os ty sz rs => obtain ⟨A, c, us, h1, h2, h3, h4⟩ := h; exact ⟨A, c, us, h1, h2, by rw [hq]; exact h3, h4⟩
  | hl => exact h
theorem CellsOk.congr {ρ' : Rho} {k i o : Nat} {es : List E} {us : List Value} {X : List (Nat × Hb)} (h : CellsOk ρ z k i o es us X) : (∀ o', o ≤ o' → ρ'.os k i o' = ρ.os k i o') → CellsOk ρ' z k i o es us X := by
  induction h with
  | nil => intro _; exact .nil
  | cons h _ ih => intro hq; exact .cons (h.congr (hq _ (Nat.le_refl _))) (ih fun o' ho => hq o' (by omega))
theorem FamOk.congrI {ρ' : Rho} {k : Nat} {ty : TypeId} {i : Nat} {bs : List Nat} {rs : List (List E)} {X : List (Nat × Hb)} (h : FamOk ρ z k ty i bs rs X) : (∀ i' o, i ≤ i' → ρ'.os k i' o = ρ.os k i' o) → FamOk ρ' z k ty i bs rs X := by
  induction h with
  | nil => intro _; exact .nil
  | cons h _ ih => intro hq; exact .cons (h.congr fun o' _ => hq _ o' (Nat.le_refl _)) (ih fun i' o hi => hq i' o (by omega))
theorem FamOk.congr {ρ' : Rho} {k : Nat} {ty : TypeId} {i : Nat} {bs : List Nat} {rs : List (List E)} {X : List (Nat × Hb)} (h : FamOk ρ z k ty i bs rs X) (hq : ∀ i o, ρ'.os k i o = ρ.os k i o) : FamOk ρ' z k ty i bs rs X := h.congrI fun i o _ => hq i o
theorem FaOk.congrI {ρ' : Rho} {k i : Nat} {rs : List (List E)} {us : List Value} {X : List (Nat × Hb)} (h : FaOk ρ z k i rs us X) : (∀ i' o, i ≤ i' → ρ'.os k i' o = ρ.os k i' o) → FaOk ρ' z k i rs us X := by
  induction h with
  | nil => intro _; exact .nil
  | cons h _ ih => intro hq; exact .cons (h.congr fun o' _ => hq _ o' (Nat.le_refl _)) (ih fun i' o hi => hq i' o (by omega))
theorem FaOk.congr {ρ' : Rho} {k i : Nat} {rs : List (List E)} {us : List Value} {X : List (Nat × Hb)} (h : FaOk ρ z k i rs us X) (hq : ∀ i o, ρ'.os k i o = ρ.os k i o) : FaOk ρ' z k i rs us X := h.congrI fun i o _ => hq i o
theorem ObOk.upd {j : Nat} {o : Ob} {X : List (Nat × Hb)} {r : List (Nat × Ob)} (hn : hasOb k ((j, o) :: r) = false) (h : ObOk ρ z j o X) : ObOk (upd ρ k l) z j o X := by
  cases o with
  | bx ty cs =>
    simp only [hasOb] at hn
    cases hj : Nat.beq j k
    · rw [hj] at hn
      cases hb : hasL k cs
      · obtain ⟨b, us, h1, h2, h3⟩ := h
        exact ⟨b, us, h1, by rw [upd_ne hj]; exact h2, h3.upd hb⟩
      · rw [hb] at hn; cases hn
    · rw [hj] at hn; cases hn
  | ar ty sz rs =>
    simp only [hasOb] at hn
    cases hj : Nat.beq j k
    · obtain ⟨A, c, us, h1, h2, h3⟩ := h
      exact ⟨A, c, us, h1, by rw [upd_ne hj]; exact h2, h3⟩
    · rw [hj] at hn; cases hn
  | fm ty rs => exact ⟨h.1.congr fun _ _ => rfl, h.2⟩
  | mp kg vg es =>
    simp only [hasOb] at hn
    cases hj : Nat.beq j k
    · obtain ⟨b, vs, h1, h2, h3⟩ := h
      exact ⟨b, vs, h1, by rw [upd_ne hj]; exact h2, h3⟩
    · rw [hj] at hn; cases hn
  | fa ty sz rs =>
    simp only [hasOb] at hn
    cases hj : Nat.beq j k
    · obtain ⟨A, c, us, Y, h1, h2, h3, h4, h5⟩ := h
      exact ⟨A, c, us, Y, h1, by rw [upd_ne hj]; exact h2, h3, h4.congr fun _ _ => rfl, h5⟩
    · rw [hj] at hn; cases hn
theorem hasOb_tail {p : Nat × Ob} {r : List (Nat × Ob)} (h : hasOb k (p :: r) = false) : hasOb k r = false := by
  obtain ⟨j, o⟩ := p
  cases o with
  | bx ty cs =>
    simp only [hasOb] at h
    cases hj : Nat.beq j k <;> rw [hj] at h
    · cases hb : hasL k cs <;> rw [hb] at h
      · exact h
      · cases h
    · cases h
  | ar ty sz rs =>
    simp only [hasOb] at h
    cases hj : Nat.beq j k <;> rw [hj] at h
    · exact h
    · cases h
  | fm ty rs =>
    simp only [hasOb] at h
    cases hj : Nat.beq j k <;> rw [hj] at h
    · exact h
    · cases h
  | mp kg vg es =>
    simp only [hasOb] at h
    cases hj : Nat.beq j k <;> rw [hj] at h
    · exact h
    · cases h
  | fa ty sz rs =>
    simp only [hasOb] at h
    cases hj : Nat.beq j k <;> rw [hj] at h
    · exact h
    · cases h
theorem ObsOk.upd : ∀ {ob : List (Nat × Ob)} {hp : List (Nat × Hb)}, hasOb k ob = false → ObsOk ρ z ob hp → ObsOk (upd ρ k l) z ob hp
  | [], _, _, h => h
  | (_, _) :: _, _, hn, ⟨X, hp', h1, h2, h3⟩ => ⟨X, hp', h1, h2.upd hn, h3.upd (hasOb_tail hn)⟩
end
theorem newN_tm {k : Nat} {st : St} (h : newN k st.tm st.ob = true) : hasTm k st.tm = false ∧ hasOb k st.ob = false := by
  unfold newN at h
  cases h1 : hasTm k st.tm <;> rw [h1] at h
  · cases h2 : hasOb k st.ob <;> rw [h2] at h
    · exact ⟨rfl, rfl⟩
    · cases h
  · cases h
section
variable {c : Cx} {st : St} {tm : List (Nat × Value)} {h : Hs} {ρ : Rho} {G : FG}
/-- A new own object. -/
theorem Gd.new {F : Nat → Prop} {w0 : World} {hp : List (Nat × Hb)} (g : Gd c st tm ⟨F, w0, hp⟩ ρ G) {k : Nat} (hk : newN k st.tm st.ob = true) {o : Ob} {X : List (Nat × Hb)} {l : Loc} (ho : ObOk (upd ρ k l) ⟨G, w0⟩ k o X) : Gd c ⟨st.tm, (k, o) :: st.ob⟩ tm ⟨F, w0, X ++ hp⟩ (upd ρ k l) G := by
  obtain ⟨h1, h2⟩ := newN_tm hk
  refine ⟨g.fF, g.fw, g.gF, g.gx, g.fm, fun j s hj => ?_, ⟨X, hp, rfl, ho, g.ob.upd h2⟩⟩
  obtain ⟨v, q1, q2⟩ := g.tm j s hj
  exact ⟨v, q1, q2.upd (hasTm_get h1 j s hj)⟩
def obu (k : Nat) (o : Ob) : List (Nat × Ob) → List (Nat × Ob)
  | [] => []
  | (j, x) :: r => bif Nat.beq k j then (j, o) :: r else (j, x) :: obu k o r
def obr (k : Nat) : List (Nat × Ob) → List (Nat × Ob)
  | [] => []
  | (j, x) :: r => bif Nat.beq k j then r else (j, x) :: obr k r
/-- An own object is exchanged for another at the same name. -/
theorem ObsOk.set {z : Fz} : ∀ {ob : List (Nat × Ob)} {hp : List (Nat × Hb)} {k : Nat} {o : Ob}, ObsOk ρ z ob hp → lk k ob = some o →
    ∃ X f, ObOk ρ z k o X ∧ RowAt X hp f ∧ (∀ o' Y, ObOk ρ z k o' Y → ObsOk ρ z (obu k o' ob) (f Y)) ∧ ObsOk ρ z (obr k ob) (f [])
  | [], _, _, _, _, h => by simp [lk] at h
  | (j, x) :: r, hp, k, o, ⟨X, hp', h1, h2, h3⟩, h => by
    simp only [lk] at h
    cases hb : Nat.beq k j
    · rw [hb] at h
      obtain ⟨Y, f, g1, g2, g3, g4⟩ := h3.set h
      subst h1
      refine ⟨Y, _, g1, .skip g2, fun o' Y' hY => ?_, ?_⟩
      · simp only [obu, hb, cond_false]; exact ⟨X, _, rfl, h2, g3 o' Y' hY⟩
      · simp only [obr, hb, cond_false]; exact ⟨X, _, rfl, h2, g4⟩
    · rw [hb] at h
      simp only [cond_true, Option.some.injEq] at h
      subst h h1
      have := Nat.eq_of_beq_eq_true hb
      subst this
      refine ⟨X, _, h2, .here, fun o' Y' hY => ?_, ?_⟩
      · simp only [obu, hb, cond_true]; exact ⟨Y', _, rfl, hY, h3⟩
      · simp only [obr, hb, cond_true]; exact h3
end
end Go.Proofs.YtgloielnnakknaaDoor

/-
  The layer of trees: families of boxes: their members and cells are read and exchanged.
-/
namespace Go.Proofs.YtgloielnnakknaaDoor
open Go.RowKit

/-- What a cell of a member is as a slot. -/
def eD (k i o : Nat) : E → Option D
  | .v x => some (.u x)
  | .os _ sz rs => some (.r k i o sz rs.length)
  | .hl => none
def cutE (k i : Nat) (row : List E) : Nat → Nat → Option (List D)
  | _, 0 => some []
  | o, n + 1 => match nth row o with
    | none => none
    | some e => match eD k i o e with
      | none => none
      | some d => match cutE k i row (o + 1) n with
        | none => none
        | some l => some (d :: l)
theorem cutE_get {k i : Nat} {row : List E} : ∀ {n o : Nat} {l : List D}, cutE k i row o n = some l → l.length = n ∧ ∀ j d, l[j]? = some d → ∃ e, row[o + j]? = some e ∧ eD k i (o + j) e = some d
  | 0, o, l, h => by simp [cutE] at h; subst h; simp
  | n + 1, o, l, h => by
    simp only [cutE] at h
    cases h1 : nth row o with
    | none => simp [h1] at h
    | some e =>
      cases h3 : eD k i o e with
      | none => simp [h1, h3] at h
      | some d =>
        cases h2 : cutE k i row (o + 1) n with
        | none => simp [h1, h2, h3] at h
        | some l' =>
          simp only [h1, h2, h3, Option.some.injEq] at h
          subst h
          have ih := cutE_get h2
          refine ⟨by simp [ih.1], fun j u hu => ?_⟩
          cases j with
          | zero => rw [nth_eq] at h1; simp at hu; subst hu; exact ⟨e, by simpa using h1, h3⟩
          | succ j => have := ih.2 j u (by simpa using hu); rwa [show o + 1 + j = o + (j + 1) by omega] at this
/-- Values are put over cells. -/
def putV : List E → Nat → List V → Option (List E)
  | row, _, [] => some row
  | row, o, y :: ys => match nth row o with
    | some (.v _) => putV (row.set o (.v y)) (o + 1) ys
    | some .hl => putV (row.set o (.v y)) (o + 1) ys
    | _ => none
section
variable {ρ : Rho} {z : Fz} {k i : Nat}
theorem CellOk.one {o : Nat} {e : E} {u : Value} {X : List (Nat × Hb)} (h : CellOk ρ z k i o e u X) : u.oneCell' = true := by
  cases e with
  | v x => exact h.2.one
  | os ty sz rs => obtain ⟨A, c, us, _, rfl, _⟩ := h; rfl
  | hl => exact h.2
theorem CellOk.den {o : Nat} {e : E} {u : Value} {X : List (Nat × Hb)} {d : D} (h : CellOk ρ z k i o e u X) (hd : eD k i o e = some d) : Den ρ z d u := by
  cases e with
  | v x => simp only [eD, Option.some.injEq] at hd; subst hd; exact .u h.2
  | os ty sz rs =>
    simp only [eD, Option.some.injEq] at hd
    subst hd
    obtain ⟨A, c, us, _, rfl, h3, h4, _⟩ := h
    refine .r h3 ?_ h4.cap h4.max
    rcases h4.form with ⟨e1, e2, _⟩ | e
    · exact .inl ⟨e1, e2⟩
    · exact .inr e
  | hl => cases hd
theorem CellsOk.len {o : Nat} {es : List E} {us : List Value} {X : List (Nat × Hb)} (h : CellsOk ρ z k i o es us X) : us.length = es.length := by
  induction h with
  | nil => rfl
  | cons _ _ ih => simp [ih]
theorem CellsOk.one {o : Nat} {es : List E} {us : List Value} {X : List (Nat × Hb)} (h : CellsOk ρ z k i o es us X) : us.all Value.oneCell' = true := by
  induction h with
  | nil => rfl
  | cons h0 _ ih => simp [h0.one, ih]
/-- A cell of a member, and another one in its place. -/
theorem CellsOk.split {o0 : Nat} {es : List E} {us : List Value} {X : List (Nat × Hb)} (h : CellsOk ρ z k i o0 es us X) : ∀ {o : Nat} {e : E}, es[o]? = some e → ∃ u Xe rest, us[o]? = some u ∧ CellOk ρ z k i (o0 + o) e u Xe ∧ X.Perm (Xe ++ rest) ∧
    ∀ (ρ' : Rho) e' u' Xe', (∀ o', o' ≠ o0 + o → ρ'.os k i o' = ρ.os k i o') → CellOk ρ' z k i (o0 + o) e' u' Xe' → ∃ X', CellsOk ρ' z k i o0 (es.set o e') (us.set o u') X' ∧ X'.Perm (Xe' ++ rest) := by
  induction h with
  | nil => intro o e he; simp at he
  | @cons o1 e0 u0 X0 es us Y h0 hs ih =>
    intro o e he
    cases o with
    | zero =>
      simp at he
      subst he
      refine ⟨u0, X0, Y, rfl, h0, .refl _, fun ρ' e' u' Xe' hq hc => ⟨Xe' ++ Y, .cons hc (hs.congr fun o' ho => hq o' (by omega)), .refl _⟩⟩
    | succ o =>
      obtain ⟨u, Xe, rest, q1, q2, q3, q4⟩ := ih (o := o) (by simpa using he)
      have ho : o1 + 1 + o = o1 + (o + 1) := by omega
      rw [ho] at q2 q4
      refine ⟨u, Xe, X0 ++ rest, by simpa using q1, q2, ?_, fun ρ' e' u' Xe' hq hc => ?_⟩
      · refine (q3.append_left X0).trans ?_
        rw [← List.append_assoc, ← List.append_assoc]
        exact List.perm_append_comm.append_right _
      · obtain ⟨X', r1, r2⟩ := q4 ρ' e' u' Xe' hq hc
        refine ⟨X0 ++ X', .cons (h0.congr (hq o1 (by omega))) r1, ?_⟩
        refine (r2.append_left X0).trans ?_
        rw [← List.append_assoc, ← List.append_assoc]
        exact List.perm_append_comm.append_right _
theorem CellsOk.get {o0 : Nat} {es : List E} {us : List Value} {X : List (Nat × Hb)} (h : CellsOk ρ z k i o0 es us X) {o : Nat} {e : E} {d : D} (he : es[o]? = some e) (hd : eD k i (o0 + o) e = some d) : ∃ u, us[o]? = some u ∧ Den ρ z d u := by
  obtain ⟨u, Xe, rest, q1, q2, _⟩ := h.split he
  exact ⟨u, q1, q2.den hd⟩
/-- Cells that are loaded. -/
theorem CellsOk.part {es : List E} {us : List Value} {X : List (Nat × Hb)} (h : CellsOk ρ z k i 0 es us X) {n o : Nat} {l : List D} (hl : cutE k i es o n = some l) : ∃ vs, DenL ρ z l vs ∧ vs.length = n ∧ ∀ (j : Nat) v, vs[j]? = some v → us[o + j]? = some v := by
  obtain ⟨h1, h2⟩ := cutE_get hl
  have hlen := h.len
  have hb : n = 0 ∨ o + n ≤ us.length := by
    rcases Nat.eq_zero_or_pos n with h0 | h0
    · exact .inl h0
    · right
      obtain ⟨e, q1, _⟩ := h2 (n - 1) _ (List.getElem?_eq_getElem (by omega))
      have := (List.getElem?_eq_some_iff.1 q1).1
      omega
  have hvl : ((us.drop o).take n).length = n := by
    rcases hb with hb | hb
    · subst hb; simp
    · simp; omega
  refine ⟨(us.drop o).take n, ⟨by rw [hvl, h1], ?_, fun j d u e1 e2 => ?_⟩, hvl, fun j v hv => ?_⟩
  · rw [List.all_eq_true]
    intro x hx
    exact List.all_eq_true.1 h.one x (List.mem_of_mem_drop (List.mem_of_mem_take hx))
  · have hj : j < n := by rw [← h1]; exact (List.getElem?_eq_some_iff.1 e1).1
    rw [List.getElem?_take_of_lt hj, List.getElem?_drop] at e2
    obtain ⟨e, q1, q2⟩ := h2 j d e1
    obtain ⟨u', r1, r2⟩ := h.get (o := o + j) q1 (by rw [Nat.zero_add]; exact q2)
    rw [r1] at e2
    injection e2 with e2
    subst e2
    exact r2
  · have hj : j < n := by rw [← hvl]; exact (List.getElem?_eq_some_iff.1 hv).1
    rwa [List.getElem?_take_of_lt hj, List.getElem?_drop] at hv
theorem splC {us : List Value} {o : Nat} {v : Value} {vs : List Value} (h : o + (v :: vs).length ≤ us.length) : spl us o (v :: vs) = spl (us.set o v) (o + 1) vs := by
  simp only [List.length_cons] at h
  rw [spl_mid _ _ _ (by simp; omega), spl_mid _ _ _ (by simp; omega)]
  rw [set_mid v (show o < us.length by omega)]
  simp only [List.length_cons]
  have e1 : (us.take o ++ [v] ++ us.drop (o + 1)).take (o + 1) = us.take o ++ [v] := by
    rw [List.append_assoc, ← List.append_assoc, List.take_left' (by simp; omega)]
  have e2 : (us.take o ++ [v] ++ us.drop (o + 1)).drop (o + 1 + vs.length) = us.drop (o + (vs.length + 1)) := by
    rw [List.drop_append, List.drop_of_length_le (by simp; omega), List.nil_append, List.drop_drop]
    congr 1
    simp; omega
  rw [e1, e2]; simp
theorem CellsOk.putV {X : List (Nat × Hb)} : ∀ {ys : List V} {vs : List Value} {es es' : List E} {us : List Value} {o : Nat}, CellsOk ρ z k i 0 es us X → Go.Proofs.YtgloielnnakknaaDoor.putV es o ys = some es' → DenVL z ys vs → o + vs.length ≤ us.length ∨ vs = [] → ∃ X', CellsOk ρ z k i 0 es' (spl us o vs) X' ∧ X'.Perm X ∧ (vs = [] ∨ o + vs.length ≤ us.length)
  | [], vs, es, es', us, o, h, hp, hd, _ => by
    have := hd.len
    simp at this
    subst this
    simp only [Go.Proofs.YtgloielnnakknaaDoor.putV, Option.some.injEq] at hp
    subst hp
    exact ⟨X, by rw [spl_nil]; exact h, .refl _, .inl rfl⟩
  | y :: ys, vs, es, es', us, o, h, hp, hd, hl => by
    have hl0 := hd.len
    cases vs with
    | nil => simp at hl0
    | cons v vs =>
      have hl' : o + (v :: vs).length ≤ us.length := by rcases hl with h | h; · exact h
                                                        · cases h
      have key : ∀ e, es[o]? = some e → (∃ x, e = .v x) ∨ e = .hl → Go.Proofs.YtgloielnnakknaaDoor.putV (es.set o (.v y)) (o + 1) ys = some es' → ∃ X', CellsOk ρ z k i 0 es' (spl us o (v :: vs)) X' ∧ X'.Perm X ∧ (v :: vs = [] ∨ o + (v :: vs).length ≤ us.length) := by
        intro e he hev hp
        obtain ⟨u, Xe, rest, q1, q2, q3, q4⟩ := h.split he
        have hXe : Xe = [] := by
          rcases hev with ⟨x, rfl⟩ | rfl
          · exact q2.1
          · exact q2.1
        subst hXe
        obtain ⟨X1, r1, r2⟩ := q4 ρ (.v y) v [] (fun _ _ => rfl) ⟨rfl, hd.den 0 y v rfl rfl⟩
        obtain ⟨X2, s1, s2, _⟩ := CellsOk.putV (vs := vs) r1 hp ⟨by simpa using hl0, by have := hd.one; simp at this; simpa using this.2, fun j d u e1 e2 => hd.den (j + 1) d u (by simpa using e1) (by simpa using e2)⟩ (.inl (by simp at hl' ⊢; omega))
        exact ⟨X2, by rw [splC hl']; exact s1, s2.trans (r2.trans q3.symm), .inr hl'⟩
      simp only [Go.Proofs.YtgloielnnakknaaDoor.putV] at hp
      split at hp
      · rename_i x hn; exact key _ (by rw [nth_eq] at hn; exact hn) (.inl ⟨x, rfl⟩) hp
      · rename_i hn; exact key _ (by rw [nth_eq] at hn; exact hn) (.inr rfl) hp
      · cases hp
/-- A member of a family, and another one in its place. -/
theorem FamOk.split {ty : TypeId} {i0 : Nat} {bs : List Nat} {rs : List (List E)} {Y : List (Nat × Hb)} (h : FamOk ρ z k ty i0 bs rs Y) : ∀ {i : Nat} {row : List E}, rs[i]? = some row → ∃ b us X rest, bs[i]? = some b ∧ CellsOk ρ z k (i0 + i) 0 row us X ∧ Y.Perm ((b, ⟨ty, us, us.length⟩) :: (X ++ rest)) ∧
    ∀ (ρ' : Rho) row' us' X', (∀ i' o, i' ≠ i0 + i → ρ'.os k i' o = ρ.os k i' o) → CellsOk ρ' z k (i0 + i) 0 row' us' X' → ∃ Y', FamOk ρ' z k ty i0 bs (rs.set i row') Y' ∧ Y'.Perm ((b, ⟨ty, us', us'.length⟩) :: (X' ++ rest)) := by
  induction h with
  | nil => intro i row he; simp at he
  | @cons i1 b0 bs row0 rows us0 X0 Y h0 hs ih =>
    intro i row he
    cases i with
    | zero =>
      simp at he
      subst he
      exact ⟨b0, us0, X0, Y, rfl, h0, by simp, fun ρ' row' us' X' hq hc => ⟨(b0, ⟨ty, us', us'.length⟩) :: X' ++ Y, .cons hc (hs.congrI fun i' o hi => hq i' o (by omega)), by simp⟩⟩
    | succ i =>
      obtain ⟨b, us, X, rest, q1, q2, q3, q4⟩ := ih (i := i) (by simpa using he)
      have hi : i1 + 1 + i = i1 + (i + 1) := by omega
      rw [hi] at q2 q4
      refine ⟨b, us, X, (b0, ⟨ty, us0, us0.length⟩) :: X0 ++ rest, by simpa using q1, q2, ?_, fun ρ' row' us' X' hq hc => ?_⟩
      · refine (q3.append_left ((b0, ⟨ty, us0, us0.length⟩) :: X0)).trans ?_
        have := @List.perm_append_comm _ ((b0, (⟨ty, us0, us0.length⟩ : Hb)) :: X0) ((b, ⟨ty, us, us.length⟩) :: X)
        rw [show (b, (⟨ty, us, us.length⟩ : Hb)) :: (X ++ rest) = ((b, ⟨ty, us, us.length⟩) :: X) ++ rest from rfl, ← List.append_assoc]
        refine (this.append_right _).trans ?_
        simp
      · obtain ⟨Y', r1, r2⟩ := q4 ρ' row' us' X' hq hc
        refine ⟨(b0, ⟨ty, us0, us0.length⟩) :: X0 ++ Y', .cons (h0.congr fun o' _ => hq i1 o' (by omega)) r1, ?_⟩
        refine (r2.append_left ((b0, ⟨ty, us0, us0.length⟩) :: X0)).trans ?_
        have := @List.perm_append_comm _ ((b0, (⟨ty, us0, us0.length⟩ : Hb)) :: X0) ((b, ⟨ty, us', us'.length⟩) :: X')
        rw [show (b, (⟨ty, us', us'.length⟩ : Hb)) :: (X' ++ rest) = ((b, ⟨ty, us', us'.length⟩) :: X') ++ rest from rfl, ← List.append_assoc]
        refine (this.append_right _).trans ?_
        simp
theorem spl_app (a b x : List Value) (n : Nat) (h : n + x.length ≤ b.length) : spl (a ++ b) (a.length + n) x = a ++ spl b n x := by
  rw [spl_mid _ _ _ (by simp; omega), spl_mid _ _ _ h]
  simp [List.take_append, List.drop_append, Nat.add_assoc, List.take_of_length_le, List.drop_of_length_le]
theorem FaOk.len {sz i0 : Nat} {rs : List (List E)} {vs : List Value} {Y : List (Nat × Hb)} (h : FaOk ρ z k i0 rs vs Y) : (∀ r ∈ rs, r.length = sz) → vs.length = rs.length * sz := by
  induction h with
  | nil => intro _; simp
  | cons h0 _ ih =>
    intro hs
    have := hs _ List.mem_cons_self
    rw [List.length_append, h0.len, ih fun r hr => hs r (List.mem_cons_of_mem _ hr), this, List.length_cons, Nat.succ_mul, Nat.add_comm]
theorem FaOk.one {i0 : Nat} {rs : List (List E)} {vs : List Value} {Y : List (Nat × Hb)} (h : FaOk ρ z k i0 rs vs Y) : vs.all Value.oneCell' = true := by
  induction h with
  | nil => rfl
  | cons h0 _ ih => rw [List.all_append, h0.one, ih]; rfl
theorem FaOk.split {sz i0 : Nat} {rs : List (List E)} {vs : List Value} {Y : List (Nat × Hb)} (h : FaOk ρ z k i0 rs vs Y) : (∀ r ∈ rs, r.length = sz) → ∀ {i : Nat} {row : List E}, rs[i]? = some row → ∃ us X rest, us.length = sz ∧ i * sz + sz ≤ vs.length ∧ (∀ (j : Nat) u, us[j]? = some u → vs[i * sz + j]? = some u) ∧ CellsOk ρ z k (i0 + i) 0 row us X ∧ Y.Perm (X ++ rest) ∧
    ∀ (ρ' : Rho) row' us' X', us'.length = sz → (∀ i' o, i' ≠ i0 + i → ρ'.os k i' o = ρ.os k i' o) → CellsOk ρ' z k (i0 + i) 0 row' us' X' → ∃ Y', FaOk ρ' z k i0 (rs.set i row') (spl vs (i * sz) us') Y' ∧ Y'.Perm (X' ++ rest) := by
  induction h with
  | nil => intro _ i row he; simp at he
  | @cons i1 row0 rows us0 vs X0 Y h0 hs ih =>
    intro hz i row he
    have hl0 : us0.length = sz := by rw [h0.len]; exact hz _ List.mem_cons_self
    cases i with
    | zero =>
      simp at he
      subst he
      refine ⟨us0, X0, Y, hl0, by simp [hl0], fun j u hu => ?_, h0, .refl _, fun ρ' row' us' X' hl hq hc => ⟨X' ++ Y, ?_, .refl _⟩⟩
      · rw [Nat.zero_mul, Nat.zero_add, List.getElem?_append_left (List.getElem?_eq_some_iff.1 hu).1]; exact hu
      · have e : spl (us0 ++ vs) (0 * sz) us' = us' ++ vs := by
          rw [Nat.zero_mul, spl_mid _ _ _ (by simp; omega)]
          simp [List.drop_append, hl, hl0]
        rw [e]
        exact .cons hc (hs.congrI fun i' o hi => hq i' o (by omega))
    | succ i =>
      obtain ⟨us, X, rest, q0, q1, q2, q3, q4, q5⟩ := ih (fun r hr => hz r (List.mem_cons_of_mem _ hr)) (i := i) (by simpa using he)
      have hi : i1 + 1 + i = i1 + (i + 1) := by omega
      rw [hi] at q3 q5
      have hm : (i + 1) * sz = us0.length + i * sz := by rw [Nat.succ_mul, hl0, Nat.add_comm]
      refine ⟨us, X, X0 ++ rest, q0, by rw [hm, List.length_append]; omega, fun j u hu => ?_, q3, ?_, fun ρ' row' us' X' hl hq hc => ?_⟩
      · rw [hm, List.getElem?_append_right (by omega)]
        have := q2 j u hu
        rwa [show us0.length + i * sz + j - us0.length = i * sz + j by omega]
      · refine (q4.append_left X0).trans ?_
        rw [← List.append_assoc, ← List.append_assoc]
        exact List.perm_append_comm.append_right _
      · obtain ⟨Y', r1, r2⟩ := q5 ρ' row' us' X' hl hq hc
        refine ⟨X0 ++ Y', ?_, ?_⟩
        · rw [hm, spl_app _ _ _ _ (by omega)]
          exact .cons (h0.congr fun o' _ => hq i1 o' (by omega)) r1
        · refine (r2.append_left X0).trans ?_
          rw [← List.append_assoc, ← List.append_assoc]
          exact List.perm_append_comm.append_right _
/-- Rows behind rows. -/
theorem FaOk.app {i0 : Nat} {rs : List (List E)} {vs : List Value} {Y : List (Nat × Hb)} (h : FaOk ρ z k i0 rs vs Y) : ∀ {rs' : List (List E)} {vs' : List Value} {Y' : List (Nat × Hb)}, FaOk ρ z k (i0 + rs.length) rs' vs' Y' → FaOk ρ z k i0 (rs ++ rs') (vs ++ vs') (Y ++ Y') := by
  induction h with
  | nil => intro rs' vs' Y' h; simpa using h
  | @cons i1 row0 rows us0 vs X0 Y h0 hs ih =>
    intro rs' vs' Y' h
    have := ih (by rw [List.length_cons] at h; rwa [show i1 + 1 + rows.length = i1 + (rows.length + 1) by omega])
    have := FaOk.cons h0 this
    simpa [List.append_assoc] using this
theorem FamOk.len {ty : TypeId} {i0 : Nat} {bs : List Nat} {rs : List (List E)} {Y : List (Nat × Hb)} (h : FamOk ρ z k ty i0 bs rs Y) : bs.length = rs.length := by
  induction h with
  | nil => rfl
  | cons _ _ ih => simp [ih]
/-- A family gets a member. -/
theorem FamOk.snoc {ty : TypeId} {i0 : Nat} {bs : List Nat} {rs : List (List E)} {Y : List (Nat × Hb)} {b : Nat} {row : List E} {us : List Value} {X : List (Nat × Hb)} (h : FamOk ρ z k ty i0 bs rs Y) : CellsOk ρ z k (i0 + rs.length) 0 row us X → FamOk ρ z k ty i0 (bs ++ [b]) (rs ++ [row]) (Y ++ ((b, ⟨ty, us, us.length⟩) :: X)) := by
  induction h with
  | nil => intro hc; simpa using FamOk.cons (bs := []) (rows := []) hc .nil
  | @cons i1 b0 bs row0 rows us0 X0 Y h0 hs ih =>
    intro hc
    have := ih (by rw [List.length_cons] at hc; rwa [show i1 + 1 + rows.length = i1 + (rows.length + 1) by omega])
    have := FamOk.cons (b := b0) h0 this
    simpa using this
end
end Go.Proofs.YtgloielnnakknaaDoor
