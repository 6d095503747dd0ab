/-
  The walk of the law EventloopEmpties.
-/
import Derived.Test.YtgiebofmfkacgaaEl15
import Derived.Test.YtgiebofmfkacgaaElP3
namespace Go.Proofs.Ytgiebofmfkacgaa
open Go.RowKit

theorem due_length (c : Ck) : (due c).length = c.rs.length + c.ts.length := by simp [due]
theorem due_get_rs (c : Ck) (k : Nat) (h : k < c.rs.length) : (due c)[k]? = some (c.rs[k], c.now) := by
  unfold due
  rw [List.getElem?_append_left (by simpa using h)]
  simp [h]
theorem due_get_ts (c : Ck) (k : Nat) (h : c.rs.length ≤ k) (h2 : k - c.rs.length < c.ts.length) : (due c)[k]? = some (c.ts[k - c.rs.length].task, c.ts[k - c.rs.length].at_) := by
  unfold due
  rw [List.getElem?_append_right (by simpa using h)]
  simp [h2]

theorem fld_code (a b : Int) (w : World) : (Instr.field 27 (.agg #[.int .i64 a, .int .i64 b]) 0).run Try.prog w = .ok (.int .i64 a) w := by kernel_rfl

set_option maxRecDepth 100000 in
set_option maxHeartbeats 4000000 in
theorem law_empties (c : Ck) (v : Value) (w : World) (hv : CkAt w c v) :
    Calls Try.prog 5 #[v] w fun e w' => e = .returned (.bool true) ∧ Below w.heap.size w w' := by
  have hv0 := hv
  obtain ⟨now, ser, rs, ts⟩ := c
  obtain ⟨RA, rc, TA, tc, rfl, hr, ht, hrc, htc, hrl, htl⟩ := hv
  dsimp only at hr ht hrc htc hrl htl ⊢
  have Hv := Lib.hid hv0; clear hv0
  have hfd := fld_code
  go_enter Try.func5, Try.ntmps5
  go_wp2_with fail
  refine (clockfault_any _ _ _ (Hv.out.below (by repeat (first | (with_reducible exact Below.refl _ _) | (with_reducible apply Below.drew) | (with_reducible apply below_drewN) | ((with_reducible refine Below.setCell ?_ ?_ _); rotate_left; (focus (first | (simp; done) | (simp; omega) | omega))) | ((with_reducible refine Below.alloc ?_ ?_ _); rotate_left; (focus (first | (simp; done) | (simp; omega) | omega))))))).mono ?_
  rintro e w1 ⟨rfl, hb1⟩
  rw [fault_eq]
  obtain ⟨k1, hz1⟩ := box1 (w := w) hb1 rfl (by simp)
  have hB1 : Below w.heap.size w w1 := Below.trans (by repeat (first | (with_reducible exact Below.refl _ _) | (with_reducible apply Below.drew) | (with_reducible apply below_drewN) | ((with_reducible refine Below.setCell ?_ ?_ _); rotate_left; (focus (first | (simp; done) | (simp; omega) | omega))) | ((with_reducible refine Below.alloc ?_ ?_ _); rotate_left; (focus (first | (simp; done) | (simp; omega) | omega))))) (hb1.mono (by simp))
  clear hb1
  obtain ⟨p0, p1, p2, p3, p4, p5, p6, p7⟩ := Blk.four k1
  have hvi := valid_iff ⟨now, ser, rs, ts⟩
  generalize hf : validate ⟨now, ser, rs, ts⟩ = f at hvi ⊢
  obtain ⟨f1, f2⟩ := f
  dsimp only at hvi
  rw [show flt (f1, f2) = .agg #[.int .i64 f1, .int .i64 f2] from rfl]
  by_cases hc : f1 = 0
  rotate_left
  · have hq : (f1 != 0) = true := by simpa using hc
    clear hc hf hvi k1
    go_wp2_with (go_at_call 19; refine (clocked_any _).mono ?_; rintro e w2 ⟨rfl, hb2⟩)
    go_ret
    exact ⟨rfl, hB1.trans (hb2.mono (by omega))⟩
  have hval := hvi.1 hc
  subst hc
  have hlen := hval.len
  have HVal := Lib.hid hval
  have K1 := Lib.hid k1
  clear hf hvi hval k1
  dsimp only at hlen
  go_upto_region 4 with (fail)
  have l1 : Blk w1 w.heap.size 25 #[.int .i64 now, .int .i64 ser, .slice RA rs.length rc, .slice TA ts.length tc] := K1.out
  have m1 := l1.alloc (.cells #[.int .i64 now, .int .i64 ser, .slice RA rs.length rc, .slice TA ts.length tc] 25)
  have m2 := Blk.new w1 25 #[.int .i64 now, .int .i64 ser, .slice RA rs.length rc, .slice TA ts.length tc]
  have hB2 : Below w.heap.size w (w1.alloc (.cells #[.int .i64 now, .int .i64 ser, .slice RA rs.length rc, .slice TA ts.length tc] 25)) := hB1.alloc (Nat.le_of_lt hz1) _
  have HX0 := Lib.hid (((Hv.out.below hB1).within (Nat.le_refl _)).below ((Below.refl _ _).alloc (Nat.le_refl _) (.cells #[.int .i64 now, .int .i64 ser, .slice RA rs.length rc, .slice TA ts.length tc] 25)))
  generalize (w1.alloc (.cells #[.int .i64 now, .int .i64 ser, .slice RA rs.length rc, .slice TA ts.length tc] 25)) = wa at *
  clear p0 p1 p2 p3 p4 p5 p6 p7 K1 l1 hB1
  go_wp2_with fail
  go_loopw [4] (fun i wr => ∃ (k : Nat) (xn xs : Int) (xr : List Int) (xt : List Tm) (XA : Option Addr) (xc : Nat) (YA : Option Addr) (yc : Nat), k ≤ rs.length + ts.length ∧ i = .int .i64 k ∧ Hid (Valid ⟨xn, xs, xr, xt⟩ ∧ due ⟨xn, xs, xr, xt⟩ = (due ⟨now, ser, rs, ts⟩).drop k) ∧
      Blk wr w.heap.size 25 #[.int .i64 now, .int .i64 ser, .slice RA rs.length rc, .slice TA ts.length tc] ∧ Blk wr w1.heap.size 25 #[.int .i64 xn, .int .i64 xs, .slice XA xr.length xc, .slice YA xt.length yc] ∧
      Hid (CkIn wr (· ≠ w1.heap.size) ⟨xn, xs, xr, xt⟩ (.agg #[.int .i64 xn, .int .i64 xs, .slice XA xr.length xc, .slice YA xt.length yc])) ∧ Below w.heap.size w wr) (fun i _ => rs.length + ts.length - (intOf i).toNat)
  case atStart => exact ⟨0, now, ser, rs, ts, RA, rc, TA, tc, Nat.zero_le _, rfl, Lib.hid ⟨HVal.out, by simp⟩, m1, m2, Lib.hid (HX0.out.weaken (fun b hb => Nat.ne_of_lt hb)), hB2⟩
  case round =>
    clear m1 m2 hB2 HX0
    obtain ⟨k, xn, xs, xr, xt, XA, xc, YA, yc, hk, rfl, HD, m1, m2, HX, hB⟩ := hrel
    obtain ⟨q0, q1, q2, q3, q4, q5, q6, q7⟩ := m2.four
    have hy := m2.lt
    by_cases hlt : k < rs.length + ts.length
    rotate_left
    · have hkk : k = rs.length + ts.length := by omega
      have hnm : nextM ⟨xn, xs, xr, xt⟩ = (⟨0, 0, [], []⟩, (0, (10, -1))) := by
        have hd := HD.out.2
        rw [List.drop_eq_nil_of_le (by rw [due_length]; dsimp only; omega)] at hd
        rcases next_spec HD.out.1 with h | ⟨n, a, rest, c', h, _⟩
        · exact h.2
        · rw [hd] at h; cases h
      obtain ⟨p0, p1, p2, p3, p4, p5, p6, p7⟩ := m1.four
      have hx := m1.lt
      have hd1 : decide (k < rs.length + ts.length) = false := by simpa using hlt
      subst hkk
      clear m1 m2 hlt
      go_wp2_with fail
      refine (next_any ⟨xn, xs, xr, xt⟩ _ _ HX.out.at_).mono ?_
      rintro e w2 ⟨v2, rfl, hv2, hb2⟩
      rw [hnm] at hv2 ⊢
      obtain ⟨A7, c7, A8, c8, rfl, _⟩ := hv2
      dsimp only [List.length_nil]
      have hB3 : Below w.heap.size w w2 := hB.trans (hb2.mono (by omega))
      have hs2 := hb2.size
      clear p0 p1 p2 p3 p4 p5 p6 p7 q0 q1 q2 q3 q4 q5 q6 q7 hB hb2
      go_upto_region 18 with (fail)
      have n1 := Blk.new (w2.alloc (.cells #[.int .i64 0, .int .i64 0, .slice A7 0 c7, .slice A8 0 c8] 25)) 27 #[.int .i64 10, .int .i64 (-1)]
      rw [show (w2.alloc (.cells #[.int .i64 0, .int .i64 0, .slice A7 0 c7, .slice A8 0 c8] 25)).heap.size = w2.heap.size + 1 by simp] at n1
      have hB4 : Below w.heap.size w ((w2.alloc (.cells #[.int .i64 0, .int .i64 0, .slice A7 0 c7, .slice A8 0 c8] 25)).alloc (.cells #[.int .i64 10, .int .i64 (-1)] 27)) := (by repeat (first | (with_reducible exact hB3) | (with_reducible exact Below.refl _ _) | (with_reducible apply Below.drew) | (with_reducible apply below_drewN) | ((with_reducible refine Below.setCell ?_ ?_ _); rotate_left; (focus (first | (simp; done) | (simp; omega) | omega))) | ((with_reducible refine Below.alloc ?_ ?_ _); rotate_left; (focus (first | (simp; done) | (simp; omega) | omega)))))
      generalize ((w2.alloc (.cells #[.int .i64 0, .int .i64 0, .slice A7 0 c7, .slice A8 0 c8] 25)).alloc (.cells #[.int .i64 10, .int .i64 (-1)] 27)) = w3 at *
      have hl3 := n1.lt
      obtain ⟨r0, r1, r2, r3⟩ := n1.two
      clear n1 hB3
      go_region_held3 (fun w' => w'.cell? ⟨w2.heap.size + 1, 0, none⟩ = some (.int .i64 10) ∧ w'.cell? ⟨w2.heap.size + 1, 1, none⟩ = some (.int .i64 (-1)))
        (first | exact ⟨r0, r1⟩ | exact ⟨(World.cell?_alloc_lt _ _ _ (by simp; omega)).trans r0, (World.cell?_alloc_lt _ _ _ (by simp; omega)).trans r1⟩ | exact ⟨(hb5.cell (p := ⟨w2.heap.size + 1, 0, none⟩) (by simp; omega)).trans ((World.cell?_alloc_lt _ _ _ (by simp; omega)).trans r0), (hb5.cell (p := ⟨w2.heap.size + 1, 1, none⟩) (by simp; omega)).trans ((World.cell?_alloc_lt _ _ _ (by simp; omega)).trans r1)⟩)
        (first | (go_at_call 16; refine (at_ex _ _ _).mono ?_; rintro e w' ⟨rfl, rfl⟩) | (go_at_call 19; refine (clocked_any _).mono ?_; rintro e w5 ⟨rfl, hb5⟩))
      go_wp2
      go_ret
      exact ⟨rfl, Below.trans (by repeat (first | (with_reducible exact hB4) | (with_reducible exact Below.refl _ _) | (with_reducible apply Below.drew) | (with_reducible apply below_drewN) | ((with_reducible refine Below.setCell ?_ ?_ _); rotate_left; (focus (first | (simp; done) | (simp; omega) | omega))) | ((with_reducible refine Below.alloc ?_ ?_ _); rotate_left; (focus (first | (simp; done) | (simp; omega) | omega))))) (hb5.mono (by simp; omega))⟩
    obtain ⟨n, a, yn, ys, yr, yt, hnm, hyn, hvy, hdy, hka, hxa⟩ : ∃ (n a yn ys : Int) (yr : List Int) (yt : List Tm), nextM ⟨xn, xs, xr, xt⟩ = (⟨yn, ys, yr, yt⟩, (n, (0, 0))) ∧ yn = a ∧ Valid ⟨yn, ys, yr, yt⟩ ∧ due ⟨yn, ys, yr, yt⟩ = (due ⟨now, ser, rs, ts⟩).drop (k + 1) ∧ (due ⟨now, ser, rs, ts⟩)[k]? = some (n, a) ∧ xn ≤ a := by
      have hd := HD.out.2
      have hkl : k < (due ⟨now, ser, rs, ts⟩).length := by rw [due_length]; exact hlt
      rcases next_spec HD.out.1 with h | ⟨n, a, rest, ⟨yn, ys, yr, yt⟩, h1, h2, h3, h4, h5, h6⟩
      · rw [h.1, List.drop_eq_getElem_cons hkl] at hd; cases hd
      · rw [h1, List.drop_eq_getElem_cons hkl] at hd
        injection hd with e1 e2
        exact ⟨n, a, yn, ys, yr, yt, h2, h3, h5, h4.trans e2, by rw [List.getElem?_eq_getElem hkl, ← e1], h6⟩
    subst hyn
    have hcf : clockFault ⟨yn, ys, yr, yt⟩ = (0, 0) := by rw [fault_eq]; exact validate_zero ((valid_iff _).2 hvy)
    have HD2 := Lib.hid (And.intro hvy hdy)
    have HKA := Lib.hid hka
    clear hvy hdy hka HD
    obtain ⟨p0, p1, p2, p3, p4, p5, p6, p7⟩ := m1.four
    have hx := m1.lt
    have M := Lib.hid (And.intro m1 m2)
    clear m1 m2
    go_wp2_with fail
    refine (next_any ⟨xn, xs, xr, xt⟩ _ _ HX.out.at_).mono ?_
    rintro e w2 ⟨v2, rfl, hv2, hb2⟩
    rw [hnm] at hv2 ⊢
    dsimp only at hv2
    have HV2 := Lib.hid hv2
    obtain ⟨A7, c7, A8, c8, rfl, _⟩ := hv2
    dsimp only
    rw [show flt (0, 0) = .agg #[.int .i64 0, .int .i64 0] from rfl]
    have m1 := M.out.1.below' hb2
    have m2 := M.out.2.below' hb2
    have hB3 : Below w.heap.size w w2 := hB.trans (hb2.mono (by omega))
    have hs2 := hb2.size
    clear p0 p1 p2 p3 p4 p5 p6 p7 q0 q1 q2 q3 q4 q5 q6 q7 hB hb2 HX hnm M
    obtain ⟨q0, q1, q2, q3, q4, q5, q6, q7⟩ := m2.four
    have M := Lib.hid (And.intro m1 m2)
    have hy2 : w1.heap.size < w2.heap.size := by omega
    clear m1 m2
    have i1 : decide (yn < xn) = false := by simpa using hxa
    go_wp2_with fail
    refine (clockfault_any ⟨yn, ys, yr, yt⟩ _ _ (HV2.out.at_.below (by repeat (first | (with_reducible exact Below.refl _ _) | (with_reducible apply Below.drew) | (with_reducible apply below_drewN) | ((with_reducible refine Below.setCell ?_ ?_ _); rotate_left; (focus (first | (simp; done) | (simp; omega) | omega))) | ((with_reducible refine Below.alloc ?_ ?_ _); rotate_left; (focus (first | (simp; done) | (simp; omega) | omega))))))).mono ?_
    rintro e w3 ⟨rfl, hb3⟩
    rw [hcf, show flt (0, 0) = .agg #[.int .i64 0, .int .i64 0] from rfl]
    obtain ⟨k1, k2, hz3⟩ := box2 (w := w2) hb3 rfl (by simp)
    have hb4 : Below w2.heap.size w2 w3 := Below.trans (by repeat (first | (with_reducible exact Below.refl _ _) | (with_reducible apply Below.drew) | (with_reducible apply below_drewN) | ((with_reducible refine Below.setCell ?_ ?_ _); rotate_left; (focus (first | (simp; done) | (simp; omega) | omega))) | ((with_reducible refine Below.alloc ?_ ?_ _); rotate_left; (focus (first | (simp; done) | (simp; omega) | omega))))) (hb3.mono (by first | (simp; done) | (simp; omega) | omega | (simp [World.setCell]; done) | (simp [World.setCell]; omega)))
    have m1 := M.out.1.below' hb4
    have m2 := M.out.2.below' hb4
    have HV3 := Lib.hid (HV2.out.below hb4)
    have hB4 : Below w.heap.size w w3 := hB3.trans (hb4.mono (by omega))
    have m3 : Blk w3 w2.heap.size 25 #[.int .i64 yn, .int .i64 ys, .slice A7 yr.length c7, .slice A8 yt.length c8] := k1
    clear q0 q1 q2 q3 q4 q5 q6 q7 hb3 hb4 hB3 HV2 k1 k2 hcf i1 hxa M
    obtain ⟨p0, p1, p2, p3, p4, p5, p6, p7⟩ := m1.four
    obtain ⟨q0, q1, q2, q3, q4, q5, q6, q7⟩ := m2.four
    obtain ⟨r0, r1, r2, r3, r4, r5, r6, r7⟩ := m3.four
    have hz2 : w2.heap.size < w3.heap.size := by omega
    have hz0 : w.heap.size < w3.heap.size := by omega
    have hzw : w1.heap.size < w3.heap.size := by omega
    have M := Lib.hid (And.intro m1 m2)
    clear m1 m2 m3
    by_cases hkr : k < rs.length
    · obtain ⟨hn, hyn⟩ : n = rs[k] ∧ yn = now := by
        have h := HKA.out
        rw [due_get_rs ⟨now, ser, rs, ts⟩ k hkr] at h
        injection h with h; injection h with h1 h2; exact ⟨h1.symm, h2.symm⟩
      subst hn hyn
      obtain ⟨b, o, rfl, hb, hc⟩ := (hr.below hB4).int hkr
      have i2 : (k : Int) < (rs.length : Int) := by omega
      go_upto_region 6 with (fail)
      have e1 := M.out.1.far4 (g' := w1.heap.size) (by omega) (.int .i64 yn) (.int .i64 ys) (.slice A7 yr.length c7) (.slice A8 yt.length c8)
      have e2 := M.out.2.set4 (.int .i64 yn) (.int .i64 ys) (.slice A7 yr.length c7) (.slice A8 yt.length c8)
      have e3 := ((((HV3.out.weaken (ok' := (· ≠ w1.heap.size)) (fun b hb => by omega)).setCell (p := ⟨w1.heap.size, 0, none⟩) (by simp) (.int .i64 yn)).setCell (p := ⟨w1.heap.size, 1, none⟩) (by simp) (.int .i64 ys)).setCell (p := ⟨w1.heap.size, 2, none⟩) (by simp) (.slice A7 yr.length c7)).setCell (p := ⟨w1.heap.size, 3, none⟩) (by simp) (.slice A8 yt.length c8)
      have e4 := below_box4 (g := w1.heap.size) hB4 (by omega) (.int .i64 yn) (.int .i64 ys) (.slice A7 yr.length c7) (.slice A8 yt.length c8)
      generalize ((((w3.setCell ⟨w1.heap.size, 0, none⟩ (.int .i64 yn)).setCell ⟨w1.heap.size, 1, none⟩ (.int .i64 ys)).setCell ⟨w1.heap.size, 2, none⟩ (.slice A7 yr.length c7)).setCell ⟨w1.heap.size, 3, none⟩ (.slice A8 yt.length c8)) = w5 at *
      clear p0 p1 p2 p3 p4 p5 p6 p7 q0 q1 q2 q3 q4 q5 q6 q7 r0 r1 r2 r3 r4 r5 r6 r7 M hc
      go_wp2
      go_roundw
      case rel => exact ⟨k + 1, yn, ys, yr, yt, A7, c7, A8, c8, by omega, by go_num, HD2, e1, e2, Lib.hid e3, e4⟩
      case measure => simp [intOf]; omega
    · obtain ⟨j, hj, hjt⟩ : ∃ j, k = rs.length + j ∧ j < ts.length := ⟨k - rs.length, by omega, by omega⟩
      obtain ⟨hn, hyn⟩ : n = ts[j].task ∧ yn = ts[j].at_ := by
        have h := HKA.out
        have hjj : k - rs.length = j := by omega
        have := due_get_ts ⟨now, ser, rs, ts⟩ k (by dsimp only; omega) (by dsimp only; omega)
        dsimp only at this
        rw [this] at h
        injection h with h; injection h with h1 h2
        subst hjj
        exact ⟨h1.symm, h2.symm⟩
      obtain ⟨b, o, rfl, hb, hc0, hc1, hc2⟩ := (ht.below hB4).tm hjt
      have i2 : decide (k < rs.length) = false := by simpa using hkr
      have i3 : (k : Int) - (rs.length : Int) = (j : Int) := by omega
      have i4 : (j : Int) < (ts.length : Int) := by omega
      have hj' := Lib.hid hj
      subst hn hyn
      clear hj
      go_upto_region 6 with (fail)
      have e1 := (M.out.1.far4 (g' := w1.heap.size) (by omega) (.int .i64 ts[j].at_) (.int .i64 ys) (.slice A7 yr.length c7) (.slice A8 yt.length c8)).alloc (.cells #[.int .i64 ts[j].at_, .int .i64 ts[j].ser, .int .i64 ts[j].task] 46)
      have e2 := (M.out.2.set4 (.int .i64 ts[j].at_) (.int .i64 ys) (.slice A7 yr.length c7) (.slice A8 yt.length c8)).alloc (.cells #[.int .i64 ts[j].at_, .int .i64 ts[j].ser, .int .i64 ts[j].task] 46)
      have e3 := (((((HV3.out.weaken (ok' := (· ≠ w1.heap.size)) (fun b hb => by omega)).setCell (p := ⟨w1.heap.size, 0, none⟩) (by simp) (.int .i64 ts[j].at_)).setCell (p := ⟨w1.heap.size, 1, none⟩) (by simp) (.int .i64 ys)).setCell (p := ⟨w1.heap.size, 2, none⟩) (by simp) (.slice A7 yr.length c7)).setCell (p := ⟨w1.heap.size, 3, none⟩) (by simp) (.slice A8 yt.length c8)).below ((Below.refl _ _).alloc (Nat.le_refl _) (.cells #[.int .i64 ts[j].at_, .int .i64 ts[j].ser, .int .i64 ts[j].task] 46))
      have e4 := (below_box4 (g := w1.heap.size) hB4 (by omega) (.int .i64 ts[j].at_) (.int .i64 ys) (.slice A7 yr.length c7) (.slice A8 yt.length c8)).alloc (by simp [World.setCell]; omega) (.cells #[.int .i64 ts[j].at_, .int .i64 ts[j].ser, .int .i64 ts[j].task] 46)
      generalize (((((w3.setCell ⟨w1.heap.size, 0, none⟩ (.int .i64 ts[j].at_)).setCell ⟨w1.heap.size, 1, none⟩ (.int .i64 ys)).setCell ⟨w1.heap.size, 2, none⟩ (.slice A7 yr.length c7)).setCell ⟨w1.heap.size, 3, none⟩ (.slice A8 yt.length c8)).alloc (.cells #[.int .i64 ts[j].at_, .int .i64 ts[j].ser, .int .i64 ts[j].task] 46)) = w5 at *
      clear p0 p1 p2 p3 p4 p5 p6 p7 q0 q1 q2 q3 q4 q5 q6 q7 r0 r1 r2 r3 r4 r5 r6 r7 M hc0 hc1 hc2
      go_wp2
      go_roundw
      case rel => exact ⟨k + 1, ts[j].at_, ys, yr, yt, A7, c7, A8, c8, by omega, by go_num, HD2, e1, e2, Lib.hid e3, e4⟩
      case measure => simp [intOf]; omega
end Go.Proofs.Ytgiebofmfkacgaa
