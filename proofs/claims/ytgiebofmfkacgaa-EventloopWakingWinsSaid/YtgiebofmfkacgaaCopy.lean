/-
  copy into a row that is known whole, elements of any number of cells; of no program.
-/
import Derived.Test.YtgiebofmfkacgaaApp
import Derived.Laws.CopyOwn
import Derived.Lib.AppendZerosOnto
import Derived.Lib.Overlaps
import Derived.Laws.Externs
import Derived.Deep.RegionLaw
namespace Go.Proofs.Ytgiebofmfkacgaa
open Go.RowKit
section
variable {P : Program} {w : World}
theorem run_copyK {dT sT e : TypeId} {size bytes : Nat} (ST : SliceTy P dT e size bytes) (ty : TypeId) {g o dLen dCap : Nat} {sb so sLen sCap : Nat} {cur : List Value} {t : TypeId} {cs : List Value} {n : Nat}
    (hg : w.heap[g]? = some (.cells cur.toArray t (0, 0))) (hn : n = Nat.min sLen dLen) (hl : cs.length = n * size)
    (hsrc : ∀ j v, cs[j]? = some v → w.cell? ⟨sb, so + j, none⟩ = some v) (hfit : o + cs.length ≤ cur.length) (h1 : ∀ v ∈ cs, v.oneCell' = true) :
    (Builtin.copy_ #[dT, sT] ty #[.slice (some ⟨g, o, none⟩) dLen dCap, .slice (some ⟨sb, so, none⟩) sLen sCap]).run P w = .ok (goInt n) (w.setRow g (splice cur o cs).toArray) := by
  obtain ⟨hu, ⟨i, z, hi, hz, hsize, hby, hzs⟩, hsz⟩ := ST
  have hl' := run_loadCells_list (P := P) w ⟨sb, so, none⟩ cs (by
    intro j v hj
    have := hsrc j v hj
    unfold Addr.add
    split
    · rename_i h0; subst h0; exact this
    · exact this)
  have hst := run_storeCells_at P g o t cs 0 cur.toArray w hg (by simpa using hfit) h1
  rw [hl] at hl'
  simp only [Nat.add_zero] at hst
  simp [Builtin.copy_, run_underlying hu, Builtin.lenOf, Builtin.firstCells, sizeOf, typeInfo, hi, hsize, ← hn, hl', hst, splice]
theorem setRow_at {g : Nat} {cur : Array Value} {t : TypeId} (hg : w.heap[g]? = some (.cells cur t (0, 0))) (cs : List Value) : (w.setRow g cs.toArray).heap[g]? = some (.cells cs.toArray t (0, 0)) := setRow_heap w g cur cs.toArray t _ hg
theorem setRow_grown (g : Nat) (cs : Array Value) : w.grownBy (w.setRow g cs) (some g) := ⟨rfl, rfl, rfl, by simp [World.setRow], fun k _ hk => setRow_other w g k _ (fun e => hk (by rw [e]))⟩

theorem wp_copyK {o : Oper} {a : Act} {K : Act → World → Prop} {Q : Exit → Act → World → Prop} (d s : Operand) (t t' : TypeId)
    (ho : o.op = .call { callee := .builtin .copy, args := #[d, s], argTypes := #[t, t'] }) (v u : Value) (hd : a.eval d = v) (hs : a.eval s = u) {v' : Value} {w' : World}
    (hr : (Builtin.copy_ #[t, t'] o.type #[v, u]).run P w = .ok v' w') (h : K (a.put o.dst v') w') : o.wp P a w K Q := by
  unfold Oper.wp execOp
  simp only [ho, resolve, invoke, builtin, Sem.run_bind, Sem.run_pure, Result.andThen_ok, List.map_toArray, List.map_cons, List.map_nil, hd, hs, hr]
  exact h
theorem wpList_copyK {ops : Array Oper} {rest : List Oper} {o : Oper} {a : Act} {Q : Exit → Act → World → Prop} (hgd : o.guard = none) (d s : Operand) (t t' : TypeId)
    (ho : o.op = .call { callee := .builtin .copy, args := #[d, s], argTypes := #[t, t'] }) (v u : Value) (hd : a.eval d = v) (hs : a.eval s = u) {v' : Value} {w' : World}
    (hr : (Builtin.copy_ #[t, t'] o.type #[v, u]).run P w = .ok v' w') (h : wpList P ops Q rest (a.put o.dst v') w') : wpList P ops Q (o :: rest) a w :=
  wpList_plain hgd fun _ hK => wp_copyK d s t t' ho v u hd hs hr (hK _ _ h)
theorem step_copyK {ops : Array Oper} {o : Oper} {a : Act} {K : Act → World → Prop} {Q : Exit → Act → World → Prop} {E : Prop}
    (hg : o.guard = none) (d x : Operand) (dT sT : TypeId) (hop : o.op = Op.call { callee := Callee.builtin Builtin.copy, args := #[d, x], argTypes := #[dT, sT] })
    (v u : Value) (hd : a.eval d = v) (hx : a.eval x = u) {v' : Value} {w' : World} (hr : (Builtin.copy_ #[dT, sT] o.type #[v, u]).run P w = .ok v' w') (hK : K (a.put o.dst v') w') :
    if Region.wanted o (yielded ops a.tmps) = true then Oper.wp P o a w K Q else E := by
  have hw : Region.wanted o (yielded ops a.tmps) = true := by simp [Region.wanted, hg]
  rw [if_pos hw]
  exact wp_copyK d x dT sT hop v u hd hx hr hK
theorem wpList_appR {ops : Array Oper} {rest : List Oper} {o : Oper} {a : Act} {Q : Exit → Act → World → Prop} (hgd : o.guard = none) (d s : Operand) (t t' : TypeId)
    (ho : o.op = .call { callee := .builtin .append, args := #[d, s], argTypes := #[t, t'] }) (v u : Value) (hd : a.eval d = v) (hs : a.eval s = u) {v' : Value} {w' : World}
    (hr : (Builtin.append_ #[t, t'] o.type #[v, u]).run P w = .ok v' w') (h : wpList P ops Q rest (a.put o.dst v') w') : wpList P ops Q (o :: rest) a w :=
  wpList_plain hgd fun _ hK => by
    unfold Oper.wp execOp
    simp only [ho, resolve, invoke, builtin, Sem.run_bind, Sem.run_pure, Result.andThen_ok, List.map_toArray, List.map_cons, List.map_nil, hd, hs, hr]
    exact hK _ _ h
end
/-- An insertion, as two copies over a row with room. -/
theorem splice_insert {cur X Y V R : List Value} (h : cur = X ++ Y ++ R) (hr : V.length ≤ R.length) :
    (splice (splice cur (X.length + V.length) Y) X.length V).take (X.length + V.length + Y.length) = X ++ V ++ Y := by
  subst h
  have e1 : splice (X ++ Y ++ R) (X.length + V.length) Y = (X ++ Y ++ R).take (X.length + V.length) ++ (Y ++ (X ++ Y ++ R).drop (X.length + V.length + Y.length)) := rfl
  have e2 : (splice (X ++ Y ++ R) (X.length + V.length) Y).take X.length = X := by
    rw [e1, List.take_append_of_le_length (by simp), List.take_take, List.append_assoc, List.take_append_of_le_length (by omega)]
    simp
  have e3 : (splice (X ++ Y ++ R) (X.length + V.length) Y).drop (X.length + V.length) = Y ++ (X ++ Y ++ R).drop (X.length + V.length + Y.length) := by
    rw [e1, List.drop_append, List.drop_eq_nil_of_le (by simp; omega), List.nil_append, List.length_take, show X.length + V.length - min (X.length + V.length) (X ++ Y ++ R).length = 0 by simp; omega, List.drop_zero]
  have e4 : splice (splice (X ++ Y ++ R) (X.length + V.length) Y) X.length V = X ++ (V ++ (Y ++ (X ++ Y ++ R).drop (X.length + V.length + Y.length))) := by
    rw [show splice (splice (X ++ Y ++ R) (X.length + V.length) Y) X.length V = (splice (X ++ Y ++ R) (X.length + V.length) Y).take X.length ++ (V ++ (splice (X ++ Y ++ R) (X.length + V.length) Y).drop (X.length + V.length)) from rfl, e2, e3]
  rw [e4, ← List.append_assoc, ← List.append_assoc, List.take_append_of_le_length (by simp; omega)]
  exact List.take_of_length_le (by simp; omega)
/-- An insertion, as two copies over a new row. -/
theorem splice_insert2 {cur X Y V Z : List Value} (h : cur = X ++ Z) (hz : V.length + Y.length ≤ Z.length) :
    (splice (splice cur X.length V) (X.length + V.length) Y).take (X.length + V.length + Y.length) = X ++ V ++ Y := by
  subst h
  have e1 : splice (X ++ Z) X.length V = X ++ (V ++ Z.drop V.length) := by
    unfold splice
    rw [List.take_append_of_le_length (Nat.le_refl _), List.take_of_length_le (Nat.le_refl _), List.drop_append, List.drop_eq_nil_of_le (by omega), List.nil_append]
    congr 3; omega
  have e2 : splice (X ++ (V ++ Z.drop V.length)) (X.length + V.length) Y = X ++ V ++ (Y ++ (X ++ (V ++ Z.drop V.length)).drop (X.length + V.length + Y.length)) := by
    unfold splice
    congr 1
    rw [← List.append_assoc, List.take_append_of_le_length (by simp)]
    exact List.take_of_length_le (by simp)
  rw [e1, e2, ← List.append_assoc, List.take_append_of_le_length (by simp; omega)]
  exact List.take_of_length_le (by simp; omega)
end Go.Proofs.Ytgiebofmfkacgaa
