/-
  Contracts of small functions that many laws reach: In, At, Has, Ints of the reference; cmp.Compare, cmp.Or at int.
-/
import Derived.Test.YtgiebofmfkacgaaRows
import Derived.Test.YtgiebofmfkacgaaBase
namespace Go.Proofs.Ytgiebofmfkacgaa
open Go.RowKit

def inB (n lo hi : Int) : Bool := decide (lo ≤ n) && decide (n ≤ hi)

set_option maxHeartbeats 400000 in
theorem in_any (n lo hi : Int) (w : World) :
    Calls Try.prog 15 #[.int .i64 n, .int .i64 lo, .int .i64 hi] w fun e w' => e = .returned (.bool (inB n lo hi)) ∧ w = w' := by
  unfold inB
  by_cases h : lo ≤ n
  · go_enter Try.func15, Try.ntmps15
    go_wp2
    go_ret
    exact ⟨ret_bool (by simp [h]), rfl⟩
  · have h' : decide (lo ≤ n) = false := by simpa using h
    go_enter Try.func15, Try.ntmps15
    go_wp2
    go_ret
    exact ⟨ret_bool (by simp), rfl⟩

set_option maxHeartbeats 400000 in
theorem at_any (a b : Int) (w : World) :
    Calls Try.prog 16 #[.int .i64 a, .int .i64 b] w fun e w' => e = .returned (.agg #[.int .i64 a, .int .i64 b]) ∧ Below w.heap.size w w' := by
  go_enter Try.func16, Try.ntmps16
  go_wp2
  exact bodyPost_ret (v := .agg #[.int .i64 a, .int .i64 b]) (by simp [results, Try.results16, go_sem]) rfl ⟨rfl, (Below.refl _ _).alloc (Nat.le_refl _) _⟩

set_option maxHeartbeats 400000 in
theorem at_ex (a b : Int) (w : World) :
    Calls Try.prog 16 #[.int .i64 a, .int .i64 b] w fun e w' => e = .returned (.agg #[.int .i64 a, .int .i64 b]) ∧ w.alloc (.cells #[.int .i64 a, .int .i64 b] 27) = w' := by
  go_enter Try.func16, Try.ntmps16
  go_wp2
  exact bodyPost_ret (v := .agg #[.int .i64 a, .int .i64 b]) (by simp [results, Try.results16, go_sem]) rfl ⟨rfl, rfl⟩

/-- A quiet call, in a region that draws. -/
theorem quiet_same {P : Program} {f : FuncId} {args : Array Value} {w : World} {n : Nat} {v : Value}
    (h : Calls P f args (w.drewN n) fun e w' => e = .returned v ∧ w.drewN n = w') : Calls P f args (w.drewN n) fun e w'' => e = .returned v ∧ ∃ m, w'' = w.drewN m :=
  h.mono fun _ _ ⟨he, hm⟩ => ⟨he, n, hm.symm⟩

def has (zs : List Int) (x : Int) : Bool := zs.any (· == x)
theorem has_drop (zs : List Int) (x : Int) (k : Nat) (h : k < zs.length) : has (zs.drop k) x = ((zs[k] == x) || has (zs.drop (k + 1)) x) := by
  unfold has; rw [List.drop_eq_getElem_cons h, List.any_cons]

set_option maxHeartbeats 400000 in
theorem has_any (A : Option Addr) (c : Nat) (zs : List Int) (x : Int) (w : World) (hr : Rd w A (ints zs)) (hl : zs.length ≤ 9223372036854775807) :
    Calls Try.prog 27 #[.slice A zs.length c, .int .i64 x] w fun e w' => e = .returned (.bool (has zs x)) ∧ w = w' := by
  go_enter Try.func27, Try.ntmps27
  go_wp2
  go_loop [5] (fun i => ∃ k : Nat, k ≤ zs.length ∧ i = .int .i64 k ∧ has zs x = has (zs.drop k) x) (fun i => zs.length - (intOf i).toNat)
  case atStart => exact ⟨0, Nat.zero_le _, rfl, by simp⟩
  case round =>
    obtain ⟨k, hk, rfl, hnot⟩ := hrel
    have H := Lib.hid hnot; clear hnot
    by_cases hlt : k < zs.length
    · obtain ⟨b, o, rfl, hb, hc⟩ := hr.int hlt
      have H2 := Lib.hid (has_drop zs x k hlt)
      by_cases hx : (zs[k] == x) = true
      · go_wp2
        go_ret
        exact ⟨ret_bool (by rw [H.out, H2.out, hx, Bool.true_or]), rfl⟩
      · have hx : (zs[k] == x) = false := by simpa using hx
        go_wp2
        go_round
        case rel => exact ⟨k + 1, by omega, by go_num, by rw [H.out, H2.out, hx]; rfl⟩
        case measure => simp [intOf]; omega
    · go_wp2
      go_ret
      exact ⟨ret_bool (by rw [H.out, List.drop_eq_nil_of_le (by omega)]; rfl), rfl⟩

theorem has_len (A : Option Addr) (c n : Nat) (zs : List Int) (x : Int) (w : World) (hn : zs.length = n) (hr : Rd w A (ints zs)) (hl : n ≤ 9223372036854775807) :
    Calls Try.prog 27 #[.slice A n c, .int .i64 x] w fun e w' => e = .returned (.bool (has zs x)) ∧ w = w' := by
  subst hn; exact has_any A c zs x w hr hl

def sameInts (xs ys : List Int) : Bool := xs == ys
theorem same_drop (xs ys : List Int) (k : Nat) (h : k < xs.length) (h' : k < ys.length) : sameInts (xs.drop k) (ys.drop k) = ((xs[k] == ys[k]) && sameInts (xs.drop (k + 1)) (ys.drop (k + 1))) := by
  unfold sameInts; rw [List.drop_eq_getElem_cons h, List.drop_eq_getElem_cons h']; rfl

set_option maxHeartbeats 400000 in
theorem ints_any (A B : Option Addr) (c d : Nat) (xs ys : List Int) (w : World) (ha : Rd w A (ints xs)) (hb : Rd w B (ints ys)) (hl : xs.length ≤ 9223372036854775807) (_hl2 : ys.length ≤ 9223372036854775807) :
    Calls Try.prog 41 #[.slice A xs.length c, .slice B ys.length d] w fun e w' => e = .returned (.bool (sameInts xs ys)) ∧ ∃ n, w' = w.drewN n := by
  by_cases hne : xs.length = ys.length
  · have hq : ((xs.length : Int) != (ys.length : Int)) = false := by simp [hne]
    have HN := Lib.hid hne; clear hne
    go_enter Try.func41, Try.ntmps41
    go_wp2
    go_loopw [5] (fun i wr => ∃ k n : Nat, k ≤ xs.length ∧ i = .int .i64 k ∧ sameInts xs ys = sameInts (xs.drop k) (ys.drop k) ∧ wr = w.drewN n) (fun i _ => xs.length - (intOf i).toNat)
    case atStart => exact ⟨0, 0, Nat.zero_le _, rfl, by simp, rfl⟩
    case round =>
      obtain ⟨k, n, hk, rfl, hs, rfl⟩ := hrel
      have H := Lib.hid hs; clear hs
      by_cases hlt : k < xs.length
      · have hlt2 : k < ys.length := by have := HN.out; omega
        obtain ⟨b1, o1, rfl, hb1, hc1⟩ := ha.int hlt
        obtain ⟨b2, o2, rfl, hb2, hc2⟩ := hb.int hlt2
        have H2 := Lib.hid (same_drop xs ys k hlt hlt2)
        by_cases hx : (xs[k] == ys[k]) = true
        · have hx' : (xs[k] != ys[k]) = false := by simpa using hx
          go_wp2
          go_quiet (fail)
          go_wp2
          go_roundw
          case rel => exact ⟨k + 1, _, by omega, by go_num, by rw [H.out, H2.out, hx, Bool.true_and], rfl⟩
          case measure => simp [intOf]; omega
        · have hx : (xs[k] == ys[k]) = false := by simpa using hx
          have hx' : (xs[k] != ys[k]) = true := by simpa using hx
          go_wp2
          go_quiet (fail)
          go_wp2
          go_ret
          exact ⟨ret_bool (by rw [H.out, H2.out, hx, Bool.false_and]), n + nq, by simp⟩
      · go_wp2
        go_ret
        exact ⟨ret_bool (by have := HN.out; rw [H.out, List.drop_eq_nil_of_le (by omega), List.drop_eq_nil_of_le (by omega)]; rfl), n, rfl⟩
  · have hq : ((xs.length : Int) != (ys.length : Int)) = true := by simp; omega
    have HN := Lib.hid hne; clear hne
    go_enter Try.func41, Try.ntmps41
    go_wp2
    go_ret
    exact ⟨ret_bool (by simp only [sameInts]; symm; rw [beq_eq_false_iff_ne]; exact fun h => HN.out (congrArg _ h)), 0, rfl⟩
end Go.Proofs.Ytgiebofmfkacgaa
