/-
  A clock as an argument.
-/
import Derived.Test.YtgiebofmfkacgaaOpen
import Derived.Test.YtgiebofmfkacgaaFrame
import Derived.Test.YtgiebofmfkacgaaEl2
namespace Go.Proofs.Ytgiebofmfkacgaa
open Go.ChangeShapes Go.WideShapes Go.Deep Go.Joins

theorem laid_out : laidOutB Try.prog = true := by kernel_rfl
theorem own_knob : ownKnob Try.prog.godebug = none := by kernel_rfl

theorem rows_ints : ∀ rs : List Int, rows (fun z : Int => [Value.int .i64 z]) rs = ints rs
  | [] => rfl
  | a :: l => by rw [rows_cons, rows_ints l]; rfl

section
variable {H : Type} {enc : TypeId × Value → H} {w : World} {base : Nat} {spare : Nat → Bool} {held : Bool}

theorem elem_int (n : Nat) (cs : List Value) (y : DataW H × List MemPlace) (h : DataW.trod enc Try.prog w base spare held n 3 cs = some y) : ∃ z : Int, cs = [.int .i64 z] ∧ (Lit.int .i64 z).wf = true := by
  obtain ⟨z, h1, _, h3⟩ := DataW.trod_int Try.underlying3 h
  exact ⟨z, h1, h3⟩

set_option maxRecDepth 100000 in
theorem elem_tm (n : Nat) (cs : List Value) (y : DataW H × List MemPlace) (h : DataW.trod enc Try.prog w base spare held n 46 cs = some y) : ∃ z : Tm, cs = z.cells ∧ True := by
  obtain ⟨xs, k, _, _, hl, hxl, hf⟩ := DataW.trod_struct Try.underlying46 h
  have hC : Try.prog.cellsOf 46 = 3 := by kernel_rfl
  have h1 : Try.prog.cellsOf 3 = 1 := by kernel_rfl
  have hl := hl.trans hC
  match cs, hl with
  | [c0, c1, c2], _ =>
    match xs, hxl with
    | [x0, x1, x2], _ =>
      have e0 := hf 0 _ rfl
      have e1 := hf 1 _ rfl
      have e2 := hf 2 _ rfl
      simp [h1] at e0 e1 e2
      obtain ⟨z0, g0, _⟩ := elem_int _ _ _ e0
      obtain ⟨z1, g1, _⟩ := elem_int _ _ _ e1
      obtain ⟨z2, g2, _⟩ := elem_int _ _ _ e2
      simp at g0 g1 g2
      exact ⟨⟨z0, z1, z2⟩, by simp [Tm.cells, g0, g1, g2], trivial⟩

set_option maxRecDepth 100000 in
theorem clock_open {r : Reach} {b0 : Nat} {v : Value} {d : DataW H} {p : List MemPlace} (hv : Value.okWide Try.prog w r b0 25 v) (h : DataW.Trod enc Try.prog w base spare held 25 v d p)
    (hz : ∀ n ∈ d.weights Try.prog 25, n ≤ 140737488351232) : ∃ c, CkAt w c v := by
  obtain ⟨v0, v1, v2, v3, y0, y1, y2, y3, n, rfl, rfl, _, h0, h1, h2, h3⟩ := open_agg4 Try.underlying25 (by kernel_rfl) (by kernel_rfl) hv h
  obtain ⟨now, e0, _⟩ := elem_int _ _ _ h0
  obtain ⟨ser, e1, _⟩ := elem_int _ _ _ h1
  injection e0 with e0; injection e1 with e1
  subst e0 e1
  obtain ⟨RA, rc, rs, rfl, hrc, _, hr, _, hrd⟩ := open_rows (f := fun z : Int => [Value.int .i64 z]) (m := 1) Try.underlying22 (by kernel_rfl) (fun _ => rfl) elem_int h2
  obtain ⟨TA, tc, ts, rfl, htc, _, ht, _, htd⟩ := open_rows (f := Tm.cells) (m := 3) Try.underlying23 (by kernel_rfl) Tm.cells_length elem_tm h3
  rw [rows_ints] at hr
  have hb1 : Try.prog.bytesOf 3 = 8 := by kernel_rfl
  have hb2 : Try.prog.bytesOf 46 = 24 := by kernel_rfl
  refine ⟨⟨now, ser, rs, ts⟩, RA, rc, TA, tc, rfl, hr, ht, hrc, htc, ?_, ?_⟩
  · rcases hrd with rfl | ⟨el, sp, hx, hl⟩
    · simp
    · have := hz _ (weights_field (j := 2) Try.underlying25 rfl rfl (by rw [hx]; exact weights_slice Try.underlying22))
      rw [hb1] at this
      dsimp only
      omega
  · rcases htd with rfl | ⟨el, sp, hx, hl⟩
    · simp
    · have := hz _ (weights_field (j := 3) Try.underlying25 rfl rfl (by rw [hx]; exact weights_slice Try.underlying23))
      rw [hb2] at this
      dsimp only
      omega
end
end Go.Proofs.Ytgiebofmfkacgaa
