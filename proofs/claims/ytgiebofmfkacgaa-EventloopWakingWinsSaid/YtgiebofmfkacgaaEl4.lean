/-
  Contracts: slices.Clone at int and at Timer, clone, slices.Index, Contains, IndexFunc, timer.
-/
import Derived.Test.YtgiebofmfkacgaaEl3
import Derived.Test.YtgiebofmfkacgaaApp
namespace Go.Proofs.Ytgiebofmfkacgaa
open Go.RowKit

theorem st_int : SliceTy Try.prog 22 3 1 8 := SliceTy.mk' (z := .int .i64 0) Try.underlying22 (by kernel_rfl) rfl (by omega)
theorem st_tm : SliceTy Try.prog 23 46 3 24 := SliceTy.mk' (z := .agg #[.int .i64 0, .int .i64 0, .int .i64 0]) Try.underlying23 (by kernel_rfl) rfl (by omega)

theorem tms_one (ts : List Tm) : ∀ u ∈ rows Tm.cells ts, u.oneCell' = true := rows_oneCell (by intro t u hu; simp [Tm.cells] at hu; rcases hu with rfl | rfl | rfl <;> rfl) ts

set_option maxHeartbeats 400000 in
theorem clone_int (A : Option Addr) (c : Nat) (zs : List Int) (w : World) (hr : Rd w A (ints zs)) (hl : zs.length ≤ 17592186043904) :
    Calls Try.prog 50 #[.slice A zs.length c] w fun e w' => ∃ A' c', e = .returned (.slice A' zs.length c') ∧ w'.ownsRow w.heap.size 3 1 (.slice A' zs.length c') zs.length (ints zs) ∧ Below w.heap.size w w' := by
  have hnil : ∀ (w : World) (a : Option Addr) (n c n' c' : Nat), (binOp .eql 22 (.slice a n c) (.slice none n' c')).run Try.prog w = .ok (.bool a.isNone) w := fun w a n c n' c' => Lib.run_eql_slice_nil w _ _ a n c n' c' Try.underlying22
  rcases A with _ | ad
  · have h0 : zs = [] := by
      rcases zs with _ | ⟨x, l⟩
      · rfl
      · obtain ⟨b, o, h, _⟩ := hr (by simp [ints]); cases h
    subst h0
    go_enter Try.func50, Try.ntmps50
    go_wp2
    go_ret
    exact ⟨none, 0, rfl, World.ownsRow_nil _ _ _ _, Below.refl _ _⟩
  · have ho := own_new w 3 1 #[] 0 w.heap.size (Nat.le_refl _) (Nat.zero_le _) rfl
    go_enter Try.func50, Try.ntmps50
    go_wp2_with (at_builtin; refine wpList_app rfl st_int (.tmp 5) (.tmp 6) rfl rfl ho rfl (hr.alloc _) (by simp [ints]) (ints_one zs) (by unfold maxLen; omega) (by omega) (by simp) ?_; intro A' c' w' hown hg hat)
    go_ret
    refine ⟨A', c', by simp, by simpa using hown, Below.app ?_ ho hg (Nat.le_refl _) (by simp)⟩
    exact (by repeat (first | (with_reducible exact Below.refl _ _) | (with_reducible apply Below.drew) | (with_reducible apply below_drewN) | ((with_reducible refine Below.setCell ?_ ?_ _); rotate_left; (focus (first | (simp; done) | (simp; omega) | omega))) | ((with_reducible refine Below.alloc ?_ ?_ _); rotate_left; (focus (first | (simp; done) | (simp; omega) | omega)))))

set_option maxHeartbeats 400000 in
theorem clone_tm (A : Option Addr) (c : Nat) (zs : List Tm) (w : World) (hr : Rd w A (rows Tm.cells zs)) (hl : zs.length ≤ 17592186043904) (hl2 : zs.length * 24 ≤ 140737488355328) :
    Calls Try.prog 51 #[.slice A zs.length c] w fun e w' => ∃ A' c', e = .returned (.slice A' zs.length c') ∧ w'.ownsRow w.heap.size 46 3 (.slice A' zs.length c') zs.length (rows Tm.cells zs) ∧ Below w.heap.size w w' := by
  have hnil : ∀ (w : World) (a : Option Addr) (n c n' c' : Nat), (binOp .eql 23 (.slice a n c) (.slice none n' c')).run Try.prog w = .ok (.bool a.isNone) w := fun w a n c n' c' => Lib.run_eql_slice_nil w _ _ a n c n' c' Try.underlying23
  rcases A with _ | ad
  · have h0 : zs = [] := by
      rcases zs with _ | ⟨x, l⟩
      · rfl
      · obtain ⟨b, o, h, _⟩ := hr (by simp [rows, Tm.cells]); cases h
    subst h0
    go_enter Try.func51, Try.ntmps51
    go_wp2
    go_ret
    exact ⟨none, 0, rfl, World.ownsRow_nil _ _ _ _, Below.refl _ _⟩
  · have ho := own_new w 46 3 #[] 0 w.heap.size (Nat.le_refl _) (Nat.zero_le _) rfl
    go_enter Try.func51, Try.ntmps51
    go_wp2_with (at_builtin; refine wpList_app rfl st_tm (.tmp 5) (.tmp 6) rfl rfl ho rfl (hr.alloc _) (rows_length Tm.cells_length _) (tms_one zs) (by unfold maxLen; omega) (by omega) (by simp) ?_; intro A' c' w' hown hg hat)
    go_ret
    refine ⟨A', c', by simp, by simpa using hown, Below.app ?_ ho hg (Nat.le_refl _) (by simp)⟩
    exact (by repeat (first | (with_reducible exact Below.refl _ _) | (with_reducible apply Below.drew) | (with_reducible apply below_drewN) | ((with_reducible refine Below.setCell ?_ ?_ _); rotate_left; (focus (first | (simp; done) | (simp; omega) | omega))) | ((with_reducible refine Below.alloc ?_ ?_ _); rotate_left; (focus (first | (simp; done) | (simp; omega) | omega)))))
end Go.Proofs.Ytgiebofmfkacgaa
