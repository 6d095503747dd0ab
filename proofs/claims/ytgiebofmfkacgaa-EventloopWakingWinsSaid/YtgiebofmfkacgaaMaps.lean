/-
  A map as a list of its entries: look-up, store; of no program.
-/
import Derived.Test.YtgiebofmfkacgaaBase
import Derived.Maps.OwnOps
namespace Go.Proofs.Ytgiebofmfkacgaa
open Go.RowKit

/-- What is asked of a type of keys. -/
structure KeyTy (P : Program) (k : TypeId) {κ : Type} [DecidableEq κ] (kv : κ → Value) : Prop where
  under : ∃ d, P.underlying k = some d ∧ ∀ a b, Instr.sameNow d (kv a) (kv b) = some (decide (a = b))
  check : ∀ (e : Bool) (a : κ) (w : World), (Instr.checkKey e 10000 k (kv a)).run P w = .ok () w
  bits : ∀ a, Instr.sameBits 10000 (kv a) (kv a) = true

theorem bytes_beq (a b : ByteArray) : (a == b) = decide (a = b) := by
  obtain ⟨⟨x⟩⟩ := a
  obtain ⟨⟨y⟩⟩ := b
  show ((⟨x⟩ : Array UInt8) == ⟨y⟩) = decide _
  by_cases h : x = y
  · subst h; simp
  · have h1 : ((⟨x⟩ : Array UInt8) == ⟨y⟩) = false := by simpa using h
    rw [h1]; symm; rw [decide_eq_false_iff_not]; intro e; injection e with e; injection e with e; exact h e
theorem check_int {P : Program} {k : TypeId} (hk : P.underlying k = some (.int .i64)) (n : Nat) (e : Bool) (a : Int) (w : World) : (Instr.checkKey e (n + 1) k (.int .i64 a)).run P w = .ok () w := by
  simp only [Instr.checkKey, Sem.run_bind, run_underlying hk, Result.andThen_ok]; rfl
theorem check_string {P : Program} {k : TypeId} (hk : P.underlying k = some .string) (n : Nat) (e : Bool) (a : ByteArray) (w : World) : (Instr.checkKey e (n + 1) k (.string a)).run P w = .ok () w := by
  simp only [Instr.checkKey, Sem.run_bind, run_underlying hk, Result.andThen_ok]; rfl
theorem keyTy_int {P : Program} {k : TypeId} (hk : P.underlying k = some (.int .i64)) : KeyTy P k (Value.int .i64) where
  under := ⟨_, hk, fun a b => by simp only [Instr.sameNow, if_true]; congr 1⟩
  check := check_int hk 9999
  bits := fun a => by simp [Instr.sameBits]
theorem keyTy_string {P : Program} {k : TypeId} (hk : P.underlying k = some .string) : KeyTy P k Value.string where
  under := ⟨_, hk, fun a b => by simp only [Instr.sameNow, bytes_beq]⟩
  check := check_string hk 9999
  bits := fun a => by simp [Instr.sameBits, bytes_beq]

section
variable {κ : Type}
def MapAt (w : World) (b : Nat) (kv : κ → Value) (m : List (κ × Value)) : Prop :=
  ∃ es clock, w.heap[b]? = some (.map es clock) ∧ es.toList.map (fun e => (e.key, e.val)) = m.map (fun p => (kv p.1, p.2))
variable {P : Program} {k t e : TypeId} {kv : κ → Value} {w w' : World} {b : Nat} {m : List (κ × Value)}

theorem MapAt.lt (h : MapAt w b kv m) : b < w.heap.size := by
  obtain ⟨es, clock, hb, _⟩ := h
  rcases Nat.lt_or_ge b w.heap.size with h | h
  · exact h
  · rw [Array.getElem?_eq_none h] at hb; cases hb
theorem MapAt.of_block (h : MapAt w b kv m) (he : w'.heap[b]? = w.heap[b]?) : MapAt w' b kv m := by
  obtain ⟨es, clock, hb, hm⟩ := h
  exact ⟨es, clock, he.trans hb, hm⟩
theorem MapAt.below {B : Nat} (h : MapAt w b kv m) (hb : Below B w w') (hB : b < B) : MapAt w' b kv m := h.of_block (hb.block b hB)
theorem MapAt.alloc (h : MapAt w b kv m) (o : Obj) : MapAt (w.alloc o) b kv m := h.of_block (Below.heap_alloc w o b h.lt)
theorem MapAt.setCell (h : MapAt w b kv m) {p : Addr} (hp : b ≠ p.block) (u : Value) : MapAt (w.setCell p u) b kv m := h.of_block (Below.heap_setCell w p u b hp)
theorem MapAt.new (w : World) (kv : κ → Value) : MapAt (w.alloc (.map #[] 0)) w.heap.size kv [] := ⟨#[], 0, heap_alloc_new w _, by simp⟩

variable [DecidableEq κ]
def aget (m : List (κ × Value)) (x : κ) (z : Value) : Value := match m.find? (fun p => decide (x = p.1)) with | some p => p.2 | none => z
def ahas (m : List (κ × Value)) (x : κ) : Bool := m.any (fun p => decide (x = p.1))
def aput : List (κ × Value) → κ → Value → List (κ × Value)
  | [], x, v => [(x, v)]
  | p :: m, x, v => if x = p.1 then (x, v) :: m else p :: aput m x v

theorem findNow_eq {d : TypeDesc} (hs : ∀ a b, Instr.sameNow d (kv a) (kv b) = some (decide (a = b))) (x : κ) : ∀ (es : List MapEntry) (m : List (κ × Value)) (i : Nat), es.map (fun e => (e.key, e.val)) = m.map (fun p => (kv p.1, p.2)) →
    Instr.findNow d (kv x) es i = some (match m.findIdx? (fun p => decide (x = p.1)) with | some j => some (i + j, aget m x default) | none => none)
  | [], [], i, _ => by simp [Instr.findNow]
  | [], _ :: _, i, h => by simp at h
  | _ :: _, [], i, h => by simp at h
  | e :: es, p :: m, i, h => by
    simp only [List.map_cons, List.cons.injEq, Prod.mk.injEq] at h
    obtain ⟨⟨h1, h2⟩, h3⟩ := h
    simp only [Instr.findNow, h1, hs]
    by_cases hx : x = p.1
    · simp [hx, aget, h2, List.findIdx?_cons]
    · have ih := findNow_eq hs x es m (i + 1) h3
      simp only [hx, decide_false, ih, List.findIdx?_cons, Bool.false_eq_true, if_false]
      have hg : aget (p :: m) x default = aget m x default := by simp [aget, hx]
      rw [hg]
      cases m.findIdx? (fun p => decide (x = p.1)) <;> simp; omega

theorem aget_none {x : κ} {z : Value} (h : m.findIdx? (fun p => decide (x = p.1)) = none) : aget m x z = z ∧ ahas m x = false := by
  rw [List.findIdx?_eq_none_iff] at h
  have h1 : m.find? (fun p => decide (x = p.1)) = none := by rw [List.find?_eq_none]; intro p hp; rw [h p hp]; simp
  refine ⟨by simp [aget, h1], ?_⟩
  rw [ahas, List.any_eq_false]
  intro p hp; rw [h p hp]; simp
theorem aget_some {x : κ} {z z' : Value} {j : Nat} (h : m.findIdx? (fun p => decide (x = p.1)) = some j) : aget m x z = aget m x z' ∧ ahas m x = true := by
  have h1 : (m.findIdx? (fun p => decide (x = p.1))).isSome = true := by rw [h]; rfl
  rw [List.findIdx?_isSome] at h1
  refine ⟨?_, h1⟩
  have h2 : (m.find? (fun p => decide (x = p.1))).isSome = true := by rw [List.find?_isSome]; simpa using h1
  unfold aget
  cases hf : m.find? (fun p => decide (x = p.1))
  · rw [hf] at h2; cases h2
  · rfl

theorem run_look (KT : KeyTy P k kv) (ht : P.underlying t = some (.map k e)) (hm : MapAt w b kv m) {z : Value} (hz : (zeroValue e).run P w = .ok z w) (x : κ) :
    (Instr.lookup t (.map (some b)) (kv x) false).run P w = .ok (aget m x z) w := by
  obtain ⟨es, clock, hb, hes⟩ := hm
  obtain ⟨d, hd, hs⟩ := KT.under
  have hf := findNow_eq hs x es.toList m 0 hes
  cases hi : m.findIdx? (fun p => decide (x = p.1)) with
  | none =>
    rw [hi] at hf
    rw [(aget_none hi).1]
    simp [Instr.lookup, run_underlying ht, run_underlying hd, getObj, Sem.run, hb, KT.check, Instr.findKey, hf, hz]
  | some j =>
    rw [hi] at hf
    rw [(aget_some (z' := default) hi).1]
    simp [Instr.lookup, run_underlying ht, run_underlying hd, getObj, Sem.run, hb, KT.check, Instr.findKey, hf]
theorem run_look_ok (KT : KeyTy P k kv) (ht : P.underlying t = some (.map k e)) (hm : MapAt w b kv m) {z : Value} (hz : (zeroValue e).run P w = .ok z w) (x : κ) :
    (Instr.lookup t (.map (some b)) (kv x) true).run P w = .ok (.tuple #[aget m x z, .bool (ahas m x)]) w := by
  obtain ⟨es, clock, hb, hes⟩ := hm
  obtain ⟨d, hd, hs⟩ := KT.under
  have hf := findNow_eq hs x es.toList m 0 hes
  cases hi : m.findIdx? (fun p => decide (x = p.1)) with
  | none =>
    rw [hi] at hf
    rw [(aget_none hi).1, (aget_none (z := z) hi).2]
    simp [Instr.lookup, run_underlying ht, run_underlying hd, getObj, Sem.run, hb, KT.check, Instr.findKey, hf, hz]
  | some j =>
    rw [hi] at hf
    rw [(aget_some (z' := default) hi).1, (aget_some (z := z) (z' := z) hi).2]
    simp [Instr.lookup, run_underlying ht, run_underlying hd, getObj, Sem.run, hb, KT.check, Instr.findKey, hf]

theorem aput_none (v : Value) (x : κ) : ∀ m : List (κ × Value), m.findIdx? (fun p => decide (x = p.1)) = none → aput m x v = m ++ [(x, v)]
  | [], _ => rfl
  | p :: m, h => by
    rw [List.findIdx?_cons] at h
    by_cases hx : x = p.1
    · simp [hx] at h
    · simp [hx] at h
      simp [aput, hx, aput_none v x m (by rw [List.findIdx?_eq_none_iff]; intro q hq; simpa using h _ _ hq)]
theorem aput_some (v : Value) (x : κ) : ∀ (m : List (κ × Value)) (j : Nat), m.findIdx? (fun p => decide (x = p.1)) = some j → aput m x v = m.modify j (fun _ => (x, v)) ∧ (m[j]?).map (·.1) = some x
  | [], _, h => by simp at h
  | p :: m, j, h => by
    rw [List.findIdx?_cons] at h
    by_cases hx : x = p.1
    · simp [hx] at h
      subst h
      simp [aput, hx]
    · simp only [hx, decide_false, Bool.false_eq_true, if_false, Option.map_eq_some_iff] at h
      obtain ⟨i, hi, rfl⟩ := h
      have ih := aput_some v x m i hi
      simp [aput, hx, ih.1, ih.2]

theorem run_put (KT : KeyTy P k kv) (ht : P.underlying t = some (.map k e)) (hm : MapAt w b kv m) (x : κ) (v : Value) :
    ∃ w', (Instr.mapUpdate t (.map (some b)) (kv x) v).run P w = .ok () w' ∧ MapAt w' b kv (aput m x v) ∧ w.grownBy w' (some b) := by
  obtain ⟨es, clock, hb, hes⟩ := hm
  obtain ⟨d, hd, hs⟩ := KT.under
  have hf := findNow_eq hs x es.toList m 0 hes
  have hlt : b < w.heap.size := by
    rcases Nat.lt_or_ge b w.heap.size with h | h
    · exact h
    · rw [Array.getElem?_eq_none h] at hb; cases hb
  have key : ∀ (o : Obj), w.grownBy { w with heap := w.heap.setIfInBounds b o } (some b) := fun o =>
    ⟨rfl, rfl, rfl, by simp, fun i _ hi => by simp only; rw [Array.getElem?_setIfInBounds_ne]; exact fun e => hi (by rw [e])⟩
  cases hi : m.findIdx? (fun p => decide (x = p.1)) with
  | none =>
    rw [hi] at hf
    refine ⟨_, by simp [Instr.mapUpdate, run_underlying ht, run_underlying hd, getObj, setObj, Sem.run, hb, KT.check, Instr.findKey, hf]; rfl, ?_, key _⟩
    refine ⟨es.push { key := kv x, val := v, born := clock }, clock + 1, by simp [hlt], ?_⟩
    rw [aput_none v x m hi]
    simp [hes]
  | some j =>
    rw [hi] at hf
    obtain ⟨h1, h2⟩ := aput_some v x m j hi
    have hk : ((es[j]?).map (·.key)) = some (kv x) := by
      have h3 : (es.toList.map (fun e => (e.key, e.val)))[j]? = (m.map (fun p => (kv p.1, p.2)))[j]? := by rw [hes]
      rw [List.getElem?_map, List.getElem?_map, Array.getElem?_toList] at h3
      cases hm : m[j]? with
      | none => rw [hm] at h2; cases h2
      | some p =>
        rw [hm] at h3 h2
        simp only [Option.map_some, Option.some.injEq] at h2
        cases he : es[j]? with
        | none => rw [he] at h3; cases h3
        | some en => rw [he] at h3; simp only [Option.map_some, Option.some.injEq, Prod.mk.injEq] at h3; simp [h3.1, h2]
    refine ⟨_, by simp [Instr.mapUpdate, run_underlying ht, run_underlying hd, getObj, setObj, Sem.run, hb, KT.check, Instr.findKey, hf, hk, Instr.keyThatStays, KT.bits]; rfl, ?_, key _⟩
    refine ⟨es.modify j fun e => { e with key := kv x, val := v }, clock, by simp [hlt], ?_⟩
    rw [h1]
    apply List.ext_getElem?
    intro i
    have h3 : (es.toList.map (fun e => (e.key, e.val)))[i]? = (m.map (fun p => (kv p.1, p.2)))[i]? := by rw [hes]
    simp only [List.getElem?_map, Array.getElem?_toList, Array.getElem?_modify, List.getElem?_modify] at h3 ⊢
    by_cases hij : j = i
    · subst hij
      cases hm : m[j]? with
      | none => rw [hm] at h3; cases he : es[j]? <;> rw [he] at h3 <;> simp_all
      | some p => rw [hm] at h3; cases he : es[j]? <;> rw [he] at h3 <;> simp_all
    · simp [hij, h3]
end
end Go.Proofs.Ytgiebofmfkacgaa
