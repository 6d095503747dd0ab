/-
  Contracts: fresh, Validate.
-/
import Derived.Test.YtgiebofmfkacgaaEl5
import Derived.Test.YtgiebofmfkacgaaMaps
namespace Go.Proofs.Ytgiebofmfkacgaa
open Go.RowKit

theorem kt_int : KeyTy Try.prog 3 (Value.int .i64) := keyTy_int Try.underlying3
theorem zero_bool (w : World) : (zeroValue 4).run Try.prog w = .ok (.bool false) w := by kernel_rfl

/-- A set of tasks, as the map's entries. -/
def sset (l : List Int) : List (Int × Value) := l.map fun x => (x, .bool true)
theorem sset_get (l : List Int) (x : Int) : aget (sset l) x (.bool false) = .bool (has l x) := by
  unfold aget sset has
  induction l with
  | nil => rfl
  | cons y l ih =>
    simp only [List.map_cons, List.find?_cons, List.any_cons]
    by_cases h : x = y
    · simp [h]
    · have h' : (y == x) = false := by simpa using fun e => h e.symm
      simp only [h, decide_false, h', Bool.false_or]
      exact ih
theorem sset_put (l : List Int) (x : Int) (h : has l x = false) : aput (sset l) x (.bool true) = sset (l ++ [x]) := by
  rw [aput_none]
  · simp [sset]
  · rw [List.findIdx?_eq_none_iff]
    intro p hp
    simp only [sset, List.mem_map] at hp
    obtain ⟨y, hy, rfl⟩ := hp
    simp only [has, List.any_eq_false] at h
    have := h y hy
    simp at this ⊢
    exact fun e => this e.symm

def freshC (n : Int) (seen : List Int) : Int := if timeB n then (if has seen n then 8 else 0) else 4
/-- A map's block alone may have changed. -/
def OnlyMap (b : Nat) (w w' : World) : Prop := w.grownBy w' (some b)

set_option maxHeartbeats 400000 in
theorem fresh_bad (n : Int) (b : Nat) (seen : List Int) (w : World) (hm : MapAt w b (Value.int .i64) (sset seen)) (h : freshC n seen ≠ 0) :
    Calls Try.prog 40 #[.int .i64 n, .map (some b)] w fun e w' => e = .returned (.int .i64 (freshC n seen)) ∧ w = w' := by
  have hl := run_look kt_int Try.underlying71 hm (zero_bool w) n
  rw [sset_get] at hl
  cases ht : timeB n
  · have H := Lib.hid (show 4 = freshC n seen by simp [freshC, ht])
    clear h
    go_enter Try.func40, Try.ntmps40
    go_wp2_with (go_at_call 35; refine (time_any _ _).mono ?_; rintro e w' ⟨rfl, rfl⟩)
    go_ret
    exact ⟨ret_int H.out, rfl⟩
  · cases hh : has seen n
    · exact absurd (by simp [freshC, ht, hh]) h
    · have H := Lib.hid (show 8 = freshC n seen by simp [freshC, ht, hh])
      clear h
      go_enter Try.func40, Try.ntmps40
      go_wp2_with (go_at_call 35; refine (time_any _ _).mono ?_; rintro e w' ⟨rfl, rfl⟩)
      go_ret
      exact ⟨ret_int H.out, rfl⟩

set_option maxHeartbeats 400000 in
theorem fresh_ok (n : Int) (b : Nat) (seen : List Int) (w : World) (hm : MapAt w b (Value.int .i64) (sset seen)) (h : freshC n seen = 0) :
    Calls Try.prog 40 #[.int .i64 n, .map (some b)] w fun e w' => e = .returned (.int .i64 0) ∧ MapAt w' b (Value.int .i64) (sset (seen ++ [n])) ∧ w.grownBy w' (some b) := by
  have hl := run_look kt_int Try.underlying71 hm (zero_bool w) n
  rw [sset_get] at hl
  obtain ⟨w1, hp, hm1, hg1⟩ := run_put kt_int Try.underlying71 hm n (.bool true)
  cases ht : timeB n
  · simp [freshC, ht] at h
  · cases hh : has seen n
    · rw [sset_put seen n hh] at hm1
      clear h
      go_enter Try.func40, Try.ntmps40
      go_wp2_with (go_at_call 35; refine (time_any _ _).mono ?_; rintro e w' ⟨rfl, rfl⟩)
      go_ret
      exact ⟨rfl, hm1, hg1⟩
    · simp [freshC, ht, hh] at h
end Go.Proofs.Ytgiebofmfkacgaa
