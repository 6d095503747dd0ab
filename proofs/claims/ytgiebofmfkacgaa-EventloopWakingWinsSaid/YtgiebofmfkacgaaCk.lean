/-
  Clocks as trees; the elder contracts on clocks as contracts on trees.
-/
import Derived.Test.YtgiebofmfkacgaaTypes
import Derived.Test.YtgiebofmfkacgaaTT3
import Derived.Test.YtgiebofmfkacgaaEl16
namespace Go.Proofs.Ytgiebofmfkacgaa
open Go.RowKit

abbrev vi (n : Int) : V := .int .i64 n
abbrev di (n : Int) : SV := .d (.u (.int .i64 n))
abbrev db (n : Bool) : SV := .d (.u (.bool n))
abbrev ivs (zs : List Int) : V := .sl 1 (zs.map fun n => [V.int .i64 n])
abbrev Tm.v (t : Tm) : List V := [.int .i64 t.at_, .int .i64 t.ser, .int .i64 t.task]
abbrev tvs (ts : List Tm) : V := .sl 3 (ts.map Tm.v)
abbrev Ck.d (c : Ck) : List D := [.u (.int .i64 c.now), .u (.int .i64 c.ser), .u (ivs c.rs), .u (tvs c.ts)]
abbrev fd (p : Int × Int) : List D := [.u (.int .i64 p.1), .u (.int .i64 p.2)]

theorem DenVL.cons {z : Fz} {x : V} {u : Value} {cs : List V} {us : List Value} (h : DenV z x u) (hs : DenVL z cs us) : DenVL z (x :: cs) (u :: us) := ⟨by simp [hs.len], by simp [h.one, hs.one], fun j d u' h1 h2 => by
  cases j with
  | zero => simp at h1 h2; subst h1 h2; exact h
  | succ j => exact hs.den j d u' (by simpa using h1) (by simpa using h2)⟩
theorem ints_den (z : Fz) : ∀ zs : List Int, DenVL z (zs.map fun n => [V.int .i64 n]).flatten (ints zs)
  | [] => .nil
  | n :: zs => .cons (.int _ _) (ints_den z zs)
theorem tms_den (z : Fz) : ∀ ts : List Tm, DenVL z (ts.map Tm.v).flatten (rows Tm.cells ts)
  | [] => .nil
  | t :: ts => by rw [rows_cons]; exact .cons (.int _ _) (.cons (.int _ _) (.cons (.int _ _) (tms_den z ts)))
theorem DenVL.int_inv {z : Fz} {k : IntKind} {n : Int} {cs : List V} {us : List Value} (h : DenVL z (.int k n :: cs) us) : ∃ us', us = .int k n :: us' ∧ DenVL z cs us' := by
  have hl := h.len
  cases us with
  | nil => simp at hl
  | cons u us =>
    have := h.den 0 _ u rfl rfl
    cases this
    exact ⟨us, rfl, ⟨by simpa using hl, by have := h.one; simp at this; simpa using this.2, fun j d v e1 e2 => h.den (j + 1) d v (by simpa using e1) (by simpa using e2)⟩⟩
theorem den_ints {z : Fz} : ∀ {zs : List Int} {us : List Value}, DenVL z (zs.map fun n => [V.int .i64 n]).flatten us → us = ints zs
  | [], us, h => by have := h.len; simp at this; subst this; rfl
  | n :: zs, us, h => by
    obtain ⟨us', rfl, h'⟩ := DenVL.int_inv (cs := (zs.map fun n => [V.int .i64 n]).flatten) h
    rw [den_ints h']; rfl
theorem den_tms {z : Fz} : ∀ {ts : List Tm} {us : List Value}, DenVL z (ts.map Tm.v).flatten us → us = rows Tm.cells ts
  | [], us, h => by have := h.len; simp at this; subst this; rfl
  | t :: ts, us, h => by
    obtain ⟨u1, rfl, h1⟩ := DenVL.int_inv (cs := .int .i64 t.ser :: .int .i64 t.task :: (ts.map Tm.v).flatten) h
    obtain ⟨u2, rfl, h2⟩ := h1.int_inv
    obtain ⟨u3, rfl, h3⟩ := h2.int_inv
    rw [den_tms h3, rows_cons]; rfl
/-- A clock that some machine could bear. -/
structure Small (c : Ck) : Prop where
  rs : c.rs.length ≤ 17592186043904
  ts : c.ts.length ≤ 17592186043904
theorem ck_den {w : World} {ok : Nat → Prop} {G : FG} {c : Ck} {v : Value} (h : CkIn w ok c v) (hG : ∀ b, ok b → b < w.heap.size → G b) (ρ : Rho) : DenS ρ ⟨G, w⟩ (.a c.d) v := by
  obtain ⟨RA, rc, TA, tc, rfl, h1, h2, h3, h4, h5, h6⟩ := h
  have e1 := rows_den (g := fun n : Int => [V.int .i64 n]) (xs := c.rs) (sz := 1) h1 hG (fun z => ints_den z _) (fun _ _ => rfl) (by omega) h3 (by unfold maxLen; omega)
  have e2 := rows_den (g := Tm.v) (xs := c.ts) (sz := 3) h2 hG (fun z => tms_den z _) (fun _ _ => rfl) (by omega) h4 (by unfold maxLen; omega)
  exact .a (us := [_, _, _, _]) (.cons (.u (.int _ _)) (.cons (.u (.int _ _)) (.cons (.u e1) (.cons (.u e2) .nil))))
theorem den_ck {w : World} {G : FG} {c : Ck} {v : Value} {ρ : Rho} (h : DenS ρ ⟨G, w⟩ (.a c.d) v) (hG : ∀ b, G b → b < w.heap.size) (hs : Small c) : CkAt w c v := by
  cases h with
  | @a _ us h =>
    have hl := h.len
    match us, hl with
    | [u0, u1, u2, u3], _ =>
      have d0 := h.den 0 _ _ rfl rfl
      have d1 := h.den 1 _ _ rfl rfl
      have d2 := h.den 2 _ _ rfl rfl
      have d3 := h.den 3 _ _ rfl rfl
      cases d0 with | u d0 => cases d0 with | int =>
      cases d1 with | u d1 => cases d1 with | int =>
      cases d2 with | u d2 =>
      cases d3 with | u d3 =>
      obtain ⟨RA, rc, rfl, r1, r2, _⟩ := den_rows (g := fun n : Int => [V.int .i64 n]) (xs := c.rs) (cs := ints c.rs) d2 hG (fun z us h => den_ints h)
      obtain ⟨TA, tc, rfl, t1, t2, _⟩ := den_rows (g := Tm.v) (xs := c.ts) (cs := rows Tm.cells c.ts) d3 hG (fun z us h => den_tms h)
      exact ⟨RA, rc, TA, tc, rfl, r1, t1, r2, t2, hs.rs, hs.ts⟩
theorem den_int {z : Fz} {ρ : Rho} {n : Int} {v : Value} (h : DenS ρ z (di n) v) : v = .int .i64 n := by
  cases h with | d h => cases h with | u h => cases h with | int => rfl
/-- Lists of arguments. -/
theorem args1 {ρ : Rho} {G : FG} {w : World} {s : SV} {vs : List Value} (h : ArgsAt ρ G w [s] vs) : ∃ v, vs = [v] ∧ DenS ρ ⟨G, w⟩ s v := by
  have hl := h.1
  match vs, hl with
  | [v], _ => exact ⟨v, rfl, h.2.1 0 s v rfl rfl⟩
theorem args2 {ρ : Rho} {G : FG} {w : World} {s t : SV} {vs : List Value} (h : ArgsAt ρ G w [s, t] vs) : ∃ v u, vs = [v, u] ∧ DenS ρ ⟨G, w⟩ s v ∧ DenS ρ ⟨G, w⟩ t u := by
  have hl := h.1
  match vs, hl with
  | [v, u], _ => exact ⟨v, u, rfl, h.2.1 0 s v rfl rfl, h.2.1 1 t u rfl rfl⟩
theorem args3 {ρ : Rho} {G : FG} {w : World} {s t r : SV} {vs : List Value} (h : ArgsAt ρ G w [s, t, r] vs) : ∃ v u x, vs = [v, u, x] ∧ DenS ρ ⟨G, w⟩ s v ∧ DenS ρ ⟨G, w⟩ t u ∧ DenS ρ ⟨G, w⟩ r x := by
  have hl := h.1
  match vs, hl with
  | [v, u, x], _ => exact ⟨v, u, x, rfl, h.2.1 0 s v rfl rfl, h.2.1 1 t u rfl rfl, h.2.1 2 r x rfl rfl⟩
end Go.Proofs.Ytgiebofmfkacgaa
