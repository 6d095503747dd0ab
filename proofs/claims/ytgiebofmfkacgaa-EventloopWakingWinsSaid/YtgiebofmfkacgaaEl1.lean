/-
  Contracts of package eventloop's and the reference's small functions on timers.
-/
import Derived.Test.YtgiebofmfkacgaaSmall
import Derived.StillTailTactics
import Derived.Deep.RegionHeld3
namespace Go.Proofs.Ytgiebofmfkacgaa
open Go.RowKit

structure Tm where
  at_ : Int
  ser : Int
  task : Int
  deriving DecidableEq
abbrev Tm.val (t : Tm) : Value := .agg #[.int .i64 t.at_, .int .i64 t.ser, .int .i64 t.task]
def Tm.cells (t : Tm) : List Value := [.int .i64 t.at_, .int .i64 t.ser, .int .i64 t.task]

def timeB (n : Int) : Bool := decide (0 ≤ n) && decide (n ≤ 1000000000000000)

set_option maxHeartbeats 400000 in
theorem time_any (n : Int) (w : World) :
    Calls Try.prog 35 #[.int .i64 n] w fun e w' => e = .returned (.bool (timeB n)) ∧ w = w' := by
  unfold timeB
  by_cases h : 0 ≤ n
  · go_enter Try.func35, Try.ntmps35
    go_wp2
    go_ret
    exact ⟨ret_bool (by simp [h]), rfl⟩
  · have h' : decide (0 ≤ n) = false := by simpa using h
    go_enter Try.func35, Try.ntmps35
    go_wp2
    go_ret
    exact ⟨ret_bool (by simp), rfl⟩

def laterB (a b : Tm) : Bool := decide (b.at_ < a.at_) || (a.at_ == b.at_ && decide (b.ser < a.ser))

set_option maxHeartbeats 400000 in
theorem later_any (a b : Tm) (w : World) :
    Calls Try.prog 39 #[a.val, b.val] w fun r w' => r = .returned (.bool (laterB a b)) ∧ Below w.heap.size w w' := by
  obtain ⟨a1, a2, a3⟩ := a
  obtain ⟨b1, b2, b3⟩ := b
  unfold laterB Tm.val
  dsimp only
  by_cases h : b1 < a1
  · go_enter Try.func39, Try.ntmps39
    go_wp2
    go_ret
    exact ⟨ret_bool (by simp [h]), ((Below.refl _ _).alloc (Nat.le_refl _) _).alloc (by simp) _⟩
  · have h' : decide (b1 < a1) = false := by simpa using h
    by_cases e : a1 = b1
    · subst e
      go_enter Try.func39, Try.ntmps39
      go_wp2
      go_ret
      exact ⟨ret_bool (by simp), ((Below.refl _ _).alloc (Nat.le_refl _) _).alloc (by simp) _⟩
    · have e' : (a1 == b1) = false := by simpa using e
      go_enter Try.func39, Try.ntmps39
      go_wp2
      go_ret
      exact ⟨ret_bool (by simp), ((Below.refl _ _).alloc (Nat.le_refl _) _).alloc (by simp) _⟩

def cmpI (a b : Int) : Int := if a < b then -1 else if b < a then 1 else 0

set_option maxHeartbeats 400000 in
theorem isnan_any (a : Int) (w : World) :
    Calls Try.prog 67 #[.int .i64 a] w fun r w' => r = .returned (.bool false) ∧ w = w' := by
  go_enter Try.func67, Try.ntmps67
  go_wp2
  go_ret
  exact ⟨ret_bool (by simp), rfl⟩

set_option maxHeartbeats 400000 in
theorem compare_any (a b : Int) (w : World) :
    Calls Try.prog 53 #[.int .i64 a, .int .i64 b] w fun r w' => r = .returned (.int .i64 (cmpI a b)) ∧ w = w' := by
  unfold cmpI
  go_enter Try.func53, Try.ntmps53
  go_wp2_with (go_at_call 67; refine (isnan_any _ _).mono ?_; rintro e w' ⟨rfl, rfl⟩)
  all_goals
    go_ret
    exact ⟨ret_int (by simp [*]), rfl⟩

def orI (a b : Int) : Int := if a != 0 then a else b

set_option maxHeartbeats 800000 in
theorem or_any (a b : Int) (g : Nat) (w : World) (h0 : w.cell? ⟨g, 0, none⟩ = some (.int .i64 a)) (h1 : w.cell? ⟨g, 1, none⟩ = some (.int .i64 b)) :
    Calls Try.prog 52 #[.slice (some ⟨g, 0, none⟩) 2 2] w fun r w' => r = .returned (.int .i64 (orI a b)) ∧ w = w' := by
  by_cases ha : (a != 0) = true
  · have H := Lib.hid (show a = orI a b by simp [orI, ha])
    go_enter Try.func52, Try.ntmps52
    go_wp2
    refine wp_loop_rounds 1 ?_
    rw [rounds_succ]
    go_wp2
    go_ret
    exact ⟨ret_int H.out, rfl⟩
  · have ha : (a != 0) = false := by simpa using ha
    have H := Lib.hid (show orI a b = b by simp [orI, ha])
    by_cases hb : (b != 0) = true
    · go_enter Try.func52, Try.ntmps52
      go_wp2
      refine wp_loop_rounds 2 ?_
      rw [rounds_succ]
      go_wp2
      rw [rounds_succ]
      go_wp2
      go_ret
      exact ⟨ret_int H.out.symm, rfl⟩
    · have hb : (b != 0) = false := by simpa using hb
      have H2 := Lib.hid (show 0 = b by simp at hb; omega)
      go_enter Try.func52, Try.ntmps52
      go_wp2
      refine wp_loop_rounds 3 ?_
      rw [rounds_succ]
      go_wp2
      rw [rounds_succ]
      go_wp2
      rw [rounds_succ]
      go_wp2
      go_ret
      exact ⟨ret_int (H2.out.trans H.out.symm), rfl⟩

def orderI (a b : Tm) : Int := orI (cmpI a.at_ b.at_) (cmpI a.ser b.ser)

set_option maxHeartbeats 800000 in
theorem order_any (a b : Tm) (w : World) :
    Calls Try.prog 37 #[a.val, b.val] w fun r w' => r = .returned (.int .i64 (orderI a b)) ∧ Below w.heap.size w w' := by
  obtain ⟨a1, a2, a3⟩ := a
  obtain ⟨b1, b2, b3⟩ := b
  unfold Tm.val orderI
  dsimp only
  go_enter Try.func37, Try.ntmps37
  go_wp2
  go_region_held3 (fun w' => w'.cell? ⟨w.heap.size, 0, none⟩ = some (.int .i64 a1) ∧ w'.cell? ⟨w.heap.size, 1, none⟩ = some (.int .i64 a2) ∧ w'.cell? ⟨w.heap.size + 1, 0, none⟩ = some (.int .i64 b1) ∧ w'.cell? ⟨w.heap.size + 1, 1, none⟩ = some (.int .i64 b2)) (simp [go_sem, World.cell?_alloc_past])
    (first
      | (go_at_call 53; refine (compare_any _ _ _).mono ?_; rintro e w' ⟨rfl, rfl⟩)
      | (go_at_call 52; refine (or_any (cmpI a1 b1) (cmpI a2 b2) _ _ ?_ ?_).mono ?_; (go_simp); (go_simp); rintro e w' ⟨rfl, rfl⟩))
  go_wp2
  go_ret
  exact ⟨rfl, by repeat (first | exact Below.refl _ _ | apply Below.drew | refine Below.alloc ?_ (by first | (simp; done) | (simp; omega)) _)⟩
end Go.Proofs.Ytgiebofmfkacgaa
