/-
  Contracts: idle, Ready, Enqueued.
-/
import Derived.Test.YtgiebofmfkacgaaEl8
namespace Go.Proofs.Ytgiebofmfkacgaa
open Go.RowKit

def idleF (c : Ck) (n : Int) : Int × Int :=
  if (validate c).1 = 0 then (if timeB n then (if has c.rs n || busyT c.ts n then (8, -2) else if c.rs.length + c.ts.length = 1000 then (2, -2) else (0, 0)) else (4, -2)) else validate c

theorem validate_small {c : Ck} (h : (validate c).1 = 0) : c.rs.length + c.ts.length ≤ 1000 := by
  unfold validate at h
  split at h
  · split at h
    · simp at h
    · omega
  · simp at h

set_option maxHeartbeats 2000000 in
theorem idle_any (c : Ck) (v : Value) (n : Int) (w : World) (hv : CkAt w c v) :
    Calls Try.prog 33 #[v, .int .i64 n] w fun e w' => e = .returned (flt (idleF c n)) ∧ Below w.heap.size w w' := by
  have hv0 := hv
  obtain ⟨now, ser, rs, ts⟩ := c
  obtain ⟨RA, rc, TA, tc, rfl, hr, ht, hrc, htc, hrl, htl⟩ := hv
  dsimp only at hr ht hrc htc hrl htl ⊢
  have Hv := Lib.hid hv0; clear hv0
  go_enter Try.func33, Try.ntmps33
  go_wp2_with fail
  refine (validate_any _ _ _ (Hv.out.below (by repeat (first | (with_reducible exact Below.refl _ _) | (with_reducible apply Below.drew) | (with_reducible apply below_drewN) | ((with_reducible refine Below.setCell ?_ ?_ _); rotate_left; (focus (first | (simp; done) | (simp; omega) | omega))) | ((with_reducible refine Below.alloc ?_ ?_ _); rotate_left; (focus (first | (simp; done) | (simp; omega) | omega))))))).mono ?_
  rintro e w1 ⟨rfl, hb1⟩
  obtain ⟨k1, k2, hz1⟩ := box2 (w := w) hb1 rfl (by simp)
  have hy1 : w.heap.size < w1.heap.size := by omega
  have hB1 : Below w.heap.size w w1 := Below.trans (by repeat (first | (with_reducible exact Below.refl _ _) | (with_reducible apply Below.drew) | (with_reducible apply below_drewN) | ((with_reducible refine Below.setCell ?_ ?_ _); rotate_left; (focus (first | (simp; done) | (simp; omega) | omega))) | ((with_reducible refine Below.alloc ?_ ?_ _); rotate_left; (focus (first | (simp; done) | (simp; omega) | omega))))) (hb1.mono (by simp; omega))
  obtain ⟨p0, p1, p2, p3, p4, p5, p6, p7⟩ := Blk.four k1
  obtain ⟨r0, r1, r2, r3⟩ := Blk.two k2
  have K1 := Lib.hid k1; have K2 := Lib.hid k2
  clear k1 k2 hb1
  have hvs := @validate_small ⟨now, ser, rs, ts⟩
  generalize hf : validate ⟨now, ser, rs, ts⟩ = f at hvs ⊢
  obtain ⟨f1, f2⟩ := f
  dsimp only at hvs
  by_cases hc : f1 = 0
  rotate_left
  · have hq : (f1 != 0) = true := by simpa using hc
    have HF := Lib.hid (show (f1, f2) = idleF ⟨now, ser, rs, ts⟩ n by simp [idleF, hf, hc])
    clear hc hf hvs
    go_wp2
    refine bodyPost_ret (v := .agg #[.int .i64 f1, .int .i64 f2]) (by simp [results, Try.results33, go_sem, r0, r1, hz1]) rfl ⟨ret_flt HF.out, ?_⟩
    exact (by repeat (first | (with_reducible exact hB1) | (with_reducible exact Below.refl _ _) | (with_reducible apply Below.drew) | (with_reducible apply below_drewN) | ((with_reducible refine Below.setCell ?_ ?_ _); rotate_left; (focus (first | (simp; done) | (simp; omega) | omega))) | ((with_reducible refine Below.alloc ?_ ?_ _); rotate_left; (focus (first | (simp; done) | (simp; omega) | omega)))))
  have hlen := hvs hc
  subst hc
  cases g1 : timeB n
  · have HF := Lib.hid (show (4, -2) = idleF ⟨now, ser, rs, ts⟩ n by simp [idleF, hf, g1])
    clear hf hvs
    go_wp2_with (go_at_call 35; refine (time_any _ _).mono ?_; rintro e w' ⟨rfl, rfl⟩)
    refine bodyPost_ret (v := .agg #[.int .i64 4, .int .i64 (-2)]) (by simp [results, Try.results33, go_sem, r0, r1, hz1]) rfl ⟨ret_flt HF.out, ?_⟩
    exact (by repeat (first | (with_reducible exact hB1) | (with_reducible exact Below.refl _ _) | (with_reducible apply Below.drew) | (with_reducible apply below_drewN) | ((with_reducible refine Below.setCell ?_ ?_ _); rotate_left; (focus (first | (simp; done) | (simp; omega) | omega))) | ((with_reducible refine Below.alloc ?_ ?_ _); rotate_left; (focus (first | (simp; done) | (simp; omega) | omega)))))
  have HC := Lib.hid (fun o : Obj => contains_int RA rc rs n (w1.alloc o) ((hr.below hB1).alloc o) (by omega))
  cases g2 : has rs n
  rotate_left
  · have HF := Lib.hid (show (8, -2) = idleF ⟨now, ser, rs, ts⟩ n by simp [idleF, hf, g1, g2])
    clear hf hvs
    go_wp2_with (first | (go_at_call 35; refine (time_any _ _).mono ?_; rintro e w' ⟨rfl, rfl⟩) | (go_at_call 42; refine (HC.out _).mono ?_; rintro e w' ⟨rfl, rfl⟩))
    refine bodyPost_ret (v := .agg #[.int .i64 8, .int .i64 (-2)]) (by simp [results, Try.results33, go_sem, r0, r1, hz1]) rfl ⟨ret_flt HF.out, ?_⟩
    exact (by repeat (first | (with_reducible exact hB1) | (with_reducible exact Below.refl _ _) | (with_reducible apply Below.drew) | (with_reducible apply below_drewN) | ((with_reducible refine Below.setCell ?_ ?_ _); rotate_left; (focus (first | (simp; done) | (simp; omega) | omega))) | ((with_reducible refine Below.alloc ?_ ?_ _); rotate_left; (focus (first | (simp; done) | (simp; omega) | omega)))))
  have HT := Lib.hid (fun o : Obj => timer_any ⟨now, ser, rs, ts⟩ _ n (w1.alloc o) ((Hv.out.below hB1).below ((Below.refl _ _).alloc (Nat.le_refl _) o)))
  have HX := Lib.hid (tidx_busy ts n)
  go_wp2_with (first | (go_at_call 35; refine (time_any _ _).mono ?_; rintro e w' ⟨rfl, rfl⟩) | (go_at_call 42; refine (HC.out _).mono ?_; rintro e w' ⟨rfl, rfl⟩))
  refine (HT.out _).mono ?_
  rintro e w2 ⟨rfl, hb2⟩
  dsimp only
  obtain ⟨q0, q1, q2, q3, q4, q5, q6, q7⟩ := Blk.four ((hb2.block w.heap.size (by simp; omega)).trans ((Below.heap_alloc _ _ _ (by omega)).trans K1.out))
  obtain ⟨s0, s1, s2, s3⟩ := Blk.two ((hb2.block (w.heap.size + 1) (by simp; omega)).trans ((Below.heap_alloc _ _ _ (by omega)).trans K2.out))
  have hB2 : Below w.heap.size w w2 := Below.trans (by repeat (first | (with_reducible exact hB1) | (with_reducible exact Below.refl _ _) | (with_reducible apply Below.drew) | (with_reducible apply below_drewN) | ((with_reducible refine Below.setCell ?_ ?_ _); rotate_left; (focus (first | (simp; done) | (simp; omega) | omega))) | ((with_reducible refine Below.alloc ?_ ?_ _); rotate_left; (focus (first | (simp; done) | (simp; omega) | omega))))) (hb2.mono (by simp; omega))
  clear p0 p1 p2 p3 p4 p5 p6 p7 r0 r1 r2 r3 hb2
  cases g3 : busyT ts n
  rotate_left
  · have hq : decide (0 ≤ tidx ts n) = true := by rw [HX.out]; exact g3
    have HF := Lib.hid (show (8, -2) = idleF ⟨now, ser, rs, ts⟩ n by simp [idleF, hf, g1, g3])
    clear hf hvs
    have hq' : 0 ≤ tidx ts n := by simpa using hq
    clear hq
    go_wp2
    refine bodyPost_ret (v := .agg #[.int .i64 8, .int .i64 (-2)]) (by simp [results, Try.results33, go_sem, s0, s1]) rfl ⟨ret_flt HF.out, ?_⟩
    exact (by repeat (first | (with_reducible exact hB2) | (with_reducible exact Below.refl _ _) | (with_reducible apply Below.drew) | (with_reducible apply below_drewN) | ((with_reducible refine Below.setCell ?_ ?_ _); rotate_left; (focus (first | (simp; done) | (simp; omega) | omega))) | ((with_reducible refine Below.alloc ?_ ?_ _); rotate_left; (focus (first | (simp; done) | (simp; omega) | omega)))))
  have hq : decide (0 ≤ tidx ts n) = false := by rw [HX.out]; exact g3
  by_cases g4 : rs.length + ts.length = 1000
  · have HF := Lib.hid (show (2, -2) = idleF ⟨now, ser, rs, ts⟩ n by simp [idleF, hf, g1, g2, g3, g4])
    have hq2 : (((rs.length : Int) + (ts.length : Int)) == 1000) = true := by rw [beq_iff_eq]; omega
    clear hf hvs g4
    go_wp2
    refine bodyPost_ret (v := .agg #[.int .i64 2, .int .i64 (-2)]) (by simp [results, Try.results33, go_sem, s0, s1]) rfl ⟨ret_flt HF.out, ?_⟩
    exact (by repeat (first | (with_reducible exact hB2) | (with_reducible exact Below.refl _ _) | (with_reducible apply Below.drew) | (with_reducible apply below_drewN) | ((with_reducible refine Below.setCell ?_ ?_ _); rotate_left; (focus (first | (simp; done) | (simp; omega) | omega))) | ((with_reducible refine Below.alloc ?_ ?_ _); rotate_left; (focus (first | (simp; done) | (simp; omega) | omega)))))
  · have HF := Lib.hid (show (0, 0) = idleF ⟨now, ser, rs, ts⟩ n by simp [idleF, hf, g1, g2, g3, g4])
    have hq2 : (((rs.length : Int) + (ts.length : Int)) == 1000) = false := by rw [beq_eq_false_iff_ne]; omega
    clear hf hvs g4
    go_wp2
    refine bodyPost_ret (v := .agg #[.int .i64 0, .int .i64 0]) (by simp [results, Try.results33, go_sem, s0, s1]) rfl ⟨ret_flt HF.out, ?_⟩
    exact (by repeat (first | (with_reducible exact hB2) | (with_reducible exact Below.refl _ _) | (with_reducible apply Below.drew) | (with_reducible apply below_drewN) | ((with_reducible refine Below.setCell ?_ ?_ _); rotate_left; (focus (first | (simp; done) | (simp; omega) | omega))) | ((with_reducible refine Below.alloc ?_ ?_ _); rotate_left; (focus (first | (simp; done) | (simp; omega) | omega)))))
end Go.Proofs.Ytgiebofmfkacgaa
