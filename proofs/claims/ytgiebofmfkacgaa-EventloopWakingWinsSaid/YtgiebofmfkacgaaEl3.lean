/-
  Contracts over clocks: SameClock, none, Enqueued.
-/
import Derived.Test.YtgiebofmfkacgaaEl2
namespace Go.Proofs.Ytgiebofmfkacgaa
open Go.RowKit

theorem tm_cases (a b : Tm) : ((a.at_ == b.at_) = false ∧ (a == b) = false) ∨ ((a.at_ == b.at_) = true ∧ (a.ser == b.ser) = false ∧ (a == b) = false) ∨
    ((a.at_ == b.at_) = true ∧ (a.ser == b.ser) = true ∧ (a.task == b.task) = false ∧ (a == b) = false) ∨ ((a.at_ == b.at_) = true ∧ (a.ser == b.ser) = true ∧ (a.task == b.task) = true ∧ (a == b) = true) := by
  obtain ⟨a1, a2, a3⟩ := a
  obtain ⟨b1, b2, b3⟩ := b
  simp
  by_cases h1 : a1 = b1 <;> by_cases h2 : a2 = b2 <;> by_cases h3 : a3 = b3 <;> simp [h1, h2, h3]

def sameTms (xs ys : List Tm) : Bool := xs == ys
theorem sameTms_drop (xs ys : List Tm) (k : Nat) (h : k < xs.length) (h' : k < ys.length) : sameTms (xs.drop k) (ys.drop k) = ((xs[k] == ys[k]) && sameTms (xs.drop (k + 1)) (ys.drop (k + 1))) := by
  unfold sameTms; rw [List.drop_eq_getElem_cons h, List.drop_eq_getElem_cons h']; rfl
def sameCk (c d : Ck) : Bool := c.now == d.now && (c.ser == d.ser && (sameInts c.rs d.rs && sameTms c.ts d.ts))
theorem sameCk_iff (c d : Ck) : sameCk c d = true ↔ c = d := by
  obtain ⟨c1, c2, c3, c4⟩ := c
  obtain ⟨d1, d2, d3, d4⟩ := d
  simp [sameCk, sameInts, sameTms]

set_option maxHeartbeats 1000000 in
theorem sameclock_any (c d : Ck) (v u : Value) (w : World) (hv : CkAt w c v) (hu : CkAt w d u) :
    Calls Try.prog 20 #[v, u] w fun e w' => e = .returned (.bool (sameCk c d)) ∧ Below w.heap.size w w' := by
  obtain ⟨now, ser, rs, ts⟩ := c
  obtain ⟨RA, rc, TA, tc, rfl, hr, ht, hrc, htc, hrl, htl⟩ := hv
  obtain ⟨now2, ser2, rs2, ts2⟩ := d
  obtain ⟨RA2, rc2, TA2, tc2, rfl, hr2, ht2, hrc2, htc2, hrl2, htl2⟩ := hu
  dsimp only at hr ht hrc htc hrl htl hr2 ht2 hrc2 htc2 hrl2 htl2 ⊢
  by_cases h1 : now = now2
  rotate_left
  · have hq : (now != now2) = true := by simpa using h1
    have HF := Lib.hid (show false = sameCk ⟨now, ser, rs, ts⟩ ⟨now2, ser2, rs2, ts2⟩ by simp [sameCk, h1])
    clear h1
    go_enter Try.func20, Try.ntmps20
    go_wp2
    go_ret
    exact ⟨ret_bool HF.out, (by repeat (first | (with_reducible exact Below.refl _ _) | (with_reducible apply Below.drew) | (with_reducible apply below_drewN) | ((with_reducible refine Below.setCell ?_ ?_ _); rotate_left; (focus (first | (simp; done) | (simp; omega) | omega))) | ((with_reducible refine Below.alloc ?_ ?_ _); rotate_left; (focus (first | (simp; done) | (simp; omega) | omega)))))⟩
  have hq1 : (now != now2) = false := by simpa using h1
  subst h1
  by_cases h2 : ser = ser2
  rotate_left
  · have hq : (ser != ser2) = true := by simpa using h2
    have HF := Lib.hid (show false = sameCk ⟨now, ser, rs, ts⟩ ⟨now, ser2, rs2, ts2⟩ by simp [sameCk, h2])
    clear h2
    go_enter Try.func20, Try.ntmps20
    go_wp2
    go_ret
    exact ⟨ret_bool HF.out, (by repeat (first | (with_reducible exact Below.refl _ _) | (with_reducible apply Below.drew) | (with_reducible apply below_drewN) | ((with_reducible refine Below.setCell ?_ ?_ _); rotate_left; (focus (first | (simp; done) | (simp; omega) | omega))) | ((with_reducible refine Below.alloc ?_ ?_ _); rotate_left; (focus (first | (simp; done) | (simp; omega) | omega)))))⟩
  subst h2
  have K := fun (ob oc : Obj) => ints_any RA RA2 rc rc2 rs rs2 _ ((hr.alloc ob).alloc oc) ((hr2.alloc ob).alloc oc) (by omega) (by omega)
  have HK := Lib.hid K; clear K
  cases h3 : sameInts rs rs2
  · have HF := Lib.hid (show false = sameCk ⟨now, ser, rs, ts⟩ ⟨now, ser, rs2, ts2⟩ by simp [sameCk, h3])
    go_enter Try.func20, Try.ntmps20
    go_wp2_with (go_at_call 41; refine (HK.out _ _).mono ?_; rintro e w' ⟨rfl, n, rfl⟩)
    go_ret
    exact ⟨ret_bool HF.out, (by repeat (first | (with_reducible exact Below.refl _ _) | (with_reducible apply Below.drew) | (with_reducible apply below_drewN) | ((with_reducible refine Below.setCell ?_ ?_ _); rotate_left; (focus (first | (simp; done) | (simp; omega) | omega))) | ((with_reducible refine Below.alloc ?_ ?_ _); rotate_left; (focus (first | (simp; done) | (simp; omega) | omega)))))⟩
  by_cases h4 : ts.length = ts2.length
  rotate_left
  · have hq : ((ts.length : Int) != (ts2.length : Int)) = true := by simp; omega
    have HF := Lib.hid (show false = sameCk ⟨now, ser, rs, ts⟩ ⟨now, ser, rs2, ts2⟩ by
      have : sameTms ts ts2 = false := by unfold sameTms; rw [beq_eq_false_iff_ne]; exact fun h => h4 (congrArg _ h)
      simp [sameCk, this])
    clear h4
    go_enter Try.func20, Try.ntmps20
    go_wp2_with (go_at_call 41; refine (HK.out _ _).mono ?_; rintro e w' ⟨rfl, n, rfl⟩)
    go_ret
    exact ⟨ret_bool HF.out, (by repeat (first | (with_reducible exact Below.refl _ _) | (with_reducible apply Below.drew) | (with_reducible apply below_drewN) | ((with_reducible refine Below.setCell ?_ ?_ _); rotate_left; (focus (first | (simp; done) | (simp; omega) | omega))) | ((with_reducible refine Below.alloc ?_ ?_ _); rotate_left; (focus (first | (simp; done) | (simp; omega) | omega)))))⟩
  have hq : ((ts.length : Int) != (ts2.length : Int)) = false := by simp [h4]
  have H4 := Lib.hid h4; clear h4
  have HS := Lib.hid (show sameCk ⟨now, ser, rs, ts⟩ ⟨now, ser, rs2, ts2⟩ = sameTms ts ts2 by simp [sameCk, h3])
  go_enter Try.func20, Try.ntmps20
  go_wp2_with (go_at_call 41; refine (HK.out _ _).mono ?_; rintro e w' ⟨rfl, n, rfl⟩)
  go_loopw [5] (fun i wr => ∃ k : Nat, k ≤ ts.length ∧ i = .int .i64 k ∧ sameTms ts ts2 = sameTms (ts.drop k) (ts2.drop k) ∧ ∃ n, wr = (((w.alloc (.cells #[.int .i64 now, .int .i64 ser, .slice RA rs.length rc, .slice TA ts.length tc] 25)).alloc (.cells #[.int .i64 now, .int .i64 ser, .slice RA2 rs2.length rc2, .slice TA2 ts2.length tc2] 25))).drewN n) (fun i _ => ts.length - (intOf i).toNat)
  case atStart => exact ⟨0, Nat.zero_le _, rfl, rfl, n, rfl⟩
  case round =>
    obtain ⟨k, hk, rfl, hs, m, rfl⟩ := hrel
    have H := Lib.hid hs; clear hs
    by_cases hlt : k < ts.length
    · have hlt2 : k < ts2.length := by have := H4.out; omega
      obtain ⟨b, o, rfl, hb, hc0, hc1, hc2⟩ := ht.tm hlt
      obtain ⟨b2, o2, rfl, hb2, hd0, hd1, hd2⟩ := ht2.tm hlt2
      have H2 := Lib.hid (sameTms_drop ts ts2 k hlt hlt2)
      have HC := Lib.hid (tm_cases ts[k] ts2[k])
      rcases HC.out with ⟨e1, hx⟩ | ⟨e1, e2, hx⟩ | ⟨e1, e2, e3, hx⟩ | ⟨e1, e2, e3, hx⟩
      rotate_right
      · go_wp2
        go_quiet (fail)
        go_wp2
        go_roundw
        case rel => exact ⟨k + 1, by omega, by go_num, by rw [H.out, H2.out, hx, Bool.true_and], _, rfl⟩
        case measure => simp [intOf]; omega
      all_goals
        go_wp2
        go_quiet (fail)
        go_wp2
        go_ret
        exact ⟨ret_bool (by rw [HS.out, H.out, H2.out, hx, Bool.false_and]), (by repeat (first | (with_reducible exact Below.refl _ _) | (with_reducible apply Below.drew) | (with_reducible apply below_drewN) | ((with_reducible refine Below.setCell ?_ ?_ _); rotate_left; (focus (first | (simp; done) | (simp; omega) | omega))) | ((with_reducible refine Below.alloc ?_ ?_ _); rotate_left; (focus (first | (simp; done) | (simp; omega) | omega)))))⟩
    · go_wp2
      go_ret
      exact ⟨ret_bool (by have := H4.out; rw [HS.out, H.out, List.drop_eq_nil_of_le (by omega), List.drop_eq_nil_of_le (by omega)]; rfl), (by repeat (first | (with_reducible exact Below.refl _ _) | (with_reducible apply Below.drew) | (with_reducible apply below_drewN) | ((with_reducible refine Below.setCell ?_ ?_ _); rotate_left; (focus (first | (simp; done) | (simp; omega) | omega))) | ((with_reducible refine Below.alloc ?_ ?_ _); rotate_left; (focus (first | (simp; done) | (simp; omega) | omega)))))⟩

set_option maxHeartbeats 400000 in
theorem none_any (c : Ck) (v : Value) (w : World) (hv : CkAt w c v) :
    Calls Try.prog 18 #[v] w fun e w' => e = .returned (.bool (sameCk c ⟨0, 0, [], []⟩)) ∧ Below w.heap.size w w' := by
  have hv0 := hv
  obtain ⟨RA, rc, TA, tc, rfl, _⟩ := hv
  go_enter Try.func18, Try.ntmps18
  go_wp2_with fail
  refine (sameclock_any c ⟨0, 0, [], []⟩ _ _ _ (hv0.below (by repeat (first | (with_reducible exact Below.refl _ _) | (with_reducible apply Below.drew) | (with_reducible apply below_drewN) | ((with_reducible refine Below.setCell ?_ ?_ _); rotate_left; (focus (first | (simp; done) | (simp; omega) | omega))) | ((with_reducible refine Below.alloc ?_ ?_ _); rotate_left; (focus (first | (simp; done) | (simp; omega) | omega)))))) ⟨none, 0, none, 0, rfl, Rd.nil, Rd.nil, by simp, by simp, by simp, by simp⟩).mono ?_
  rintro e w' ⟨rfl, hb⟩
  go_wp2
  go_ret
  exact ⟨rfl, (Below.alloc (Below.refl _ _) (Nat.le_refl _) _).trans (hb.mono (by simp))⟩
end Go.Proofs.Ytgiebofmfkacgaa
