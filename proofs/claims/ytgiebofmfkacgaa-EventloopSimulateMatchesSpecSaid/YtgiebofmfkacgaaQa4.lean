/-
  Part 4 of the proof of sim_holds: laws and contracts that it needs.
-/
import Derived.Test.YtgiebofmfkacgaaQa3
namespace Go.Proofs.Ytgiebofmfkacgaa
open Go.RowKit

def idleF (c : Ck) (n : Int) : Int × Int :=
  if (validate c).1 = 0 then (if timeB n then (if has c.rs n || busyT c.ts n then (8, -2) else if c.rs.length + c.ts.length = 1000 then (2, -2) else (0, 0)) else (4, -2)) else validate c

theorem validate_small {c : Ck} (h : (validate c).1 = 0) : c.rs.length + c.ts.length ≤ 1000 := by
  unfold validate at h
  split at h
  · split at h
    · simp at h
    · omega
  · simp at h

set_option maxHeartbeats 2000000 in
theorem idle_any (c : Ck) (v : Value) (n : Int) (w : World) (hv : CkAt w c v) :
    Calls Try.prog 33 #[v, .int .i64 n] w fun e w' => e = .returned (flt (idleF c n)) ∧ Below w.heap.size w w' := by
  have hv0 := hv
  obtain ⟨now, ser, rs, ts⟩ := c
  obtain ⟨RA, rc, TA, tc, rfl, hr, ht, hrc, htc, hrl, htl⟩ := hv
  dsimp only at hr ht hrc htc hrl htl ⊢
  have Hv := Lib.hid hv0; clear hv0
  go_enter Try.func33, Try.ntmps33
  go_wp2_with fail
  refine (validate_any _ _ _ (Hv.out.below (by repeat (first | (with_reducible exact Below.refl _ _) | ((with_reducible refine Below.alloc ?_ ?_ _); rotate_left; (focus (first | (simp; done)))))))).mono ?_
  rintro e w1 ⟨rfl, hb1⟩
  obtain ⟨k1, k2, hz1⟩ := box2 (w := w) hb1 rfl (by simp)
  have hy1 : w.heap.size < w1.heap.size := by omega
  have hB1 : Below w.heap.size w w1 := Below.trans (by repeat (first | (with_reducible exact Below.refl _ _) | ((with_reducible refine Below.alloc ?_ ?_ _); rotate_left; (focus (first | (simp; done)))))) (hb1.mono (by simp; omega))
  obtain ⟨p0, p1, p2, p3, p4, p5, p6, p7⟩ := Blk.four k1
  obtain ⟨r0, r1, r2, r3⟩ := Blk.two k2
  have K1 := Lib.hid k1; have K2 := Lib.hid k2
  clear k1 k2 hb1
  have hvs := @validate_small ⟨now, ser, rs, ts⟩
  generalize hf : validate ⟨now, ser, rs, ts⟩ = f at hvs ⊢
  obtain ⟨f1, f2⟩ := f
  dsimp only at hvs
  by_cases hc : f1 = 0
  rotate_left
  · have hq : (f1 != 0) = true := by simpa using hc
    have HF := Lib.hid (show (f1, f2) = idleF ⟨now, ser, rs, ts⟩ n by simp [idleF, hf, hc])
    clear hc hf hvs
    go_wp2
    refine bodyPost_ret (v := .agg #[.int .i64 f1, .int .i64 f2]) (by simp [results, Try.results33, go_sem, r0, r1, hz1]) rfl ⟨ret_flt HF.out, ?_⟩
    exact (by repeat (first | (with_reducible exact hB1) | ((with_reducible refine Below.setCell ?_ ?_ _); rotate_left; (focus (first | (simp; done)))) | ((with_reducible refine Below.alloc ?_ ?_ _); rotate_left; (focus (first | (simp; omega))))))
  have hlen := hvs hc
  subst hc
  cases g1 : timeB n
  · have HF := Lib.hid (show (4, -2) = idleF ⟨now, ser, rs, ts⟩ n by simp [idleF, hf, g1])
    clear hf hvs
    go_wp2_with (go_at_call 35; refine (time_any _ _).mono ?_; rintro e w' ⟨rfl, rfl⟩)
    refine bodyPost_ret (v := .agg #[.int .i64 4, .int .i64 (-2)]) (by simp [results, Try.results33, go_sem, r0, r1, hz1]) rfl ⟨ret_flt HF.out, ?_⟩
    exact (by repeat (first | (with_reducible exact hB1) | ((with_reducible refine Below.setCell ?_ ?_ _); rotate_left; (focus (first | (simp; done)))) | ((with_reducible refine Below.alloc ?_ ?_ _); rotate_left; (focus (first | (simp; omega))))))
  have HC := Lib.hid (fun o : Obj => contains_int RA rc rs n (w1.alloc o) ((hr.below hB1).alloc o) (by omega))
  cases g2 : has rs n
  rotate_left
  · have HF := Lib.hid (show (8, -2) = idleF ⟨now, ser, rs, ts⟩ n by simp [idleF, hf, g1, g2])
    clear hf hvs
    go_wp2_with (first | (go_at_call 35; refine (time_any _ _).mono ?_; rintro e w' ⟨rfl, rfl⟩) | (go_at_call 42; refine (HC.out _).mono ?_; rintro e w' ⟨rfl, rfl⟩))
    refine bodyPost_ret (v := .agg #[.int .i64 8, .int .i64 (-2)]) (by simp [results, Try.results33, go_sem, r0, r1, hz1]) rfl ⟨ret_flt HF.out, ?_⟩
    exact (by repeat (first | (with_reducible exact hB1) | ((with_reducible refine Below.setCell ?_ ?_ _); rotate_left; (focus (first | (simp; done)))) | ((with_reducible refine Below.alloc ?_ ?_ _); rotate_left; (focus (first | (simp; omega))))))
  have HT := Lib.hid (fun o : Obj => timer_any ⟨now, ser, rs, ts⟩ _ n (w1.alloc o) ((Hv.out.below hB1).below ((Below.refl _ _).alloc (Nat.le_refl _) o)))
  have HX := Lib.hid (tidx_busy ts n)
  go_wp2_with (first | (go_at_call 35; refine (time_any _ _).mono ?_; rintro e w' ⟨rfl, rfl⟩) | (go_at_call 42; refine (HC.out _).mono ?_; rintro e w' ⟨rfl, rfl⟩))
  refine (HT.out _).mono ?_
  rintro e w2 ⟨rfl, hb2⟩
  dsimp only
  obtain ⟨q0, q1, q2, q3, q4, q5, q6, q7⟩ := Blk.four ((hb2.block w.heap.size (by simp; omega)).trans ((Below.heap_alloc _ _ _ (by omega)).trans K1.out))
  obtain ⟨s0, s1, s2, s3⟩ := Blk.two ((hb2.block (w.heap.size + 1) (by simp; omega)).trans ((Below.heap_alloc _ _ _ (by omega)).trans K2.out))
  have hB2 : Below w.heap.size w w2 := Below.trans (by repeat (first | (with_reducible exact hB1) | ((with_reducible refine Below.alloc ?_ ?_ _); rotate_left; (focus (omega))))) (hb2.mono (by simp; omega))
  clear p0 p1 p2 p3 p4 p5 p6 p7 r0 r1 r2 r3 hb2
  cases g3 : busyT ts n
  rotate_left
  · have hq : decide (0 ≤ tidx ts n) = true := by rw [HX.out]; exact g3
    have HF := Lib.hid (show (8, -2) = idleF ⟨now, ser, rs, ts⟩ n by simp [idleF, hf, g1, g3])
    clear hf hvs
    have hq' : 0 ≤ tidx ts n := by simpa using hq
    clear hq
    go_wp2
    refine bodyPost_ret (v := .agg #[.int .i64 8, .int .i64 (-2)]) (by simp [results, Try.results33, go_sem, s0, s1]) rfl ⟨ret_flt HF.out, ?_⟩
    exact (by repeat (first | (with_reducible exact hB2) | ((with_reducible refine Below.setCell ?_ ?_ _); rotate_left; (focus (first | (simp; done))))))
  have hq : decide (0 ≤ tidx ts n) = false := by rw [HX.out]; exact g3
  by_cases g4 : rs.length + ts.length = 1000
  · have HF := Lib.hid (show (2, -2) = idleF ⟨now, ser, rs, ts⟩ n by simp [idleF, hf, g1, g2, g3, g4])
    have hq2 : (((rs.length : Int) + (ts.length : Int)) == 1000) = true := by rw [beq_iff_eq]; omega
    clear hf hvs g4
    go_wp2
    refine bodyPost_ret (v := .agg #[.int .i64 2, .int .i64 (-2)]) (by simp [results, Try.results33, go_sem, s0, s1]) rfl ⟨ret_flt HF.out, ?_⟩
    exact (by repeat (first | (with_reducible exact hB2) | ((with_reducible refine Below.setCell ?_ ?_ _); rotate_left; (focus (first | (simp; done))))))
  · have HF := Lib.hid (show (0, 0) = idleF ⟨now, ser, rs, ts⟩ n by simp [idleF, hf, g1, g2, g3, g4])
    have hq2 : (((rs.length : Int) + (ts.length : Int)) == 1000) = false := by rw [beq_eq_false_iff_ne]; omega
    clear hf hvs g4
    go_wp2
    refine bodyPost_ret (v := .agg #[.int .i64 0, .int .i64 0]) (by simp [results, Try.results33, go_sem, s0, s1]) rfl ⟨ret_flt HF.out, ?_⟩
    exact (by repeat (first | (with_reducible exact hB2) | ((with_reducible refine Below.setCell ?_ ?_ _); rotate_left; (focus (first | (simp; done))))))
end Go.Proofs.Ytgiebofmfkacgaa
namespace Go.Proofs.Ytgiebofmfkacgaa
open Go.RowKit

def readyM (c : Ck) (n : Int) : Ck × (Int × Int) := if (idleF c n).1 = 0 then (⟨c.now, c.ser, c.rs ++ [n], c.ts⟩, (0, 0)) else (⟨0, 0, [], []⟩, idleF c n)
theorem idle_small {c : Ck} {n : Int} (h : (idleF c n).1 = 0) : c.rs.length + c.ts.length < 1000 := by
  unfold idleF at h
  split at h
  · rename_i h0
    have := validate_small h0
    split at h
    · split at h
      · simp at h
      · split at h
        · simp at h
        · omega
    · simp at h
  · omega
theorem zero_ckat (w : World) (ok : Nat → Prop) : CkIn w ok ⟨0, 0, [], []⟩ (.agg #[.int .i64 0, .int .i64 0, .slice none 0 0, .slice none 0 0]) :=
  ⟨none, 0, none, 0, rfl, RdIn.nil, RdIn.nil, by simp, by simp, by simp, by simp⟩
theorem ckin_of_own {w : World} {b1 b2 base c1 c2 : Nat} {A1 A2 : Option Addr} {now ser : Int} {rs : List Int} {ts : List Tm} (h1 : w.ownsRow b1 3 1 (.slice A1 rs.length c1) rs.length (ints rs)) (h2 : w.ownsRow b2 46 3 (.slice A2 ts.length c2) ts.length (rows Tm.cells ts))
    (hr : rs.length ≤ 17592186043904) (ht : ts.length ≤ 17592186043904) (hb1 : base ≤ b1) (hb2 : base ≤ b2) : CkIn w (base ≤ ·) ⟨now, ser, rs, ts⟩ (.agg #[.int .i64 now, .int .i64 ser, .slice A1 rs.length c1, .slice A2 ts.length c2]) := by
  obtain ⟨A', c', ev, hc1, _⟩ := own_form h1
  injection ev with e1 e2 e3
  subst e1 e3
  obtain ⟨A', c', ev, hc3, _⟩ := own_form h2
  injection ev with e1 e2 e3
  subst e1 e3
  exact ⟨A1, c1, A2, c2, rfl, RdIn.of_own (own_mono h1 hb1), RdIn.of_own (own_mono h2 hb2), hc1, hc3, hr, ht⟩
/-- A post that is kept whole. -/
def RetCk (m : Ck × (Int × Int)) (w : World) (e : Ending) (w' : World) : Prop := ∃ v, e = .returned (.tuple #[v, flt m.2]) ∧ CkIn w' (w.heap.size ≤ ·) m.1 v ∧ Below w.heap.size w w'

set_option maxHeartbeats 400000 in
theorem ready_any (c : Ck) (v : Value) (n : Int) (w : World) (hv : CkAt w c v) :
    Calls Try.prog 11 #[v, .int .i64 n] w (RetCk (readyM c n) w) := by
  have hv0 := hv
  obtain ⟨now, ser, rs, ts⟩ := c
  obtain ⟨RA, rc, TA, tc, rfl, hr, ht, hrc, htc, hrl, htl⟩ := hv
  dsimp only at hr ht hrc htc hrl htl ⊢
  have Hv := Lib.hid hv0; clear hv0
  go_enter Try.func11, Try.ntmps11
  go_wp2_with fail
  refine (idle_any _ _ n _ (Hv.out.below (by repeat (first | (with_reducible exact Below.refl _ _) | ((with_reducible refine Below.alloc ?_ ?_ _); rotate_left; (focus (first | (simp; done) | (simp; omega)))))))).mono ?_
  rintro e w1 ⟨rfl, hb1⟩
  obtain ⟨k1, k2, k3, hz1⟩ := box3 (w := w) hb1 rfl (by simp)
  have hy1 : w.heap.size < w1.heap.size := by omega
  have hx1 : w.heap.size + 1 < w1.heap.size := by omega
  have hB1 : Below w.heap.size w w1 := Below.trans (by repeat (first | (with_reducible exact Below.refl _ _) | ((with_reducible refine Below.alloc ?_ ?_ _); rotate_left; (focus (first | (simp; done) | (simp; omega)))))) (hb1.mono (by simp; omega))
  clear hb1
  have hsm := @idle_small ⟨now, ser, rs, ts⟩ n
  generalize hf : idleF ⟨now, ser, rs, ts⟩ n = f at hsm ⊢
  obtain ⟨f1, f2⟩ := f
  dsimp only at hsm
  by_cases hc : f1 = 0
  rotate_left
  · have hq : (f1 != 0) = true := by simpa using hc
    have HF := Lib.hid (show readyM ⟨now, ser, rs, ts⟩ n = (⟨0, 0, [], []⟩, (f1, f2)) by simp [readyM, hf, hc])
    obtain ⟨p0, p1, p2, p3, p4, p5, p6, p7⟩ := Blk.four k1
    obtain ⟨q0, q1, q2, q3, q4, q5, q6, q7⟩ := Blk.four k2
    obtain ⟨r0, r1, r2, r3⟩ := Blk.two k3
    clear hc hf hsm k1 k2 k3
    go_wp2
    go_region
    go_wp2
    refine bodyPost_ret (v := .tuple #[.agg #[.int .i64 0, .int .i64 0, .slice none 0 0, .slice none 0 0], .agg #[.int .i64 f1, .int .i64 f2]]) (by simp [results, Try.results11, go_sem, q0, q1, q2, q3, r0, r1, hz1, hx1]) rfl ?_
    rw [HF.out]
    exact ⟨_, rfl, zero_ckat _ _, (by repeat (first | (with_reducible exact hB1) | (with_reducible apply Below.drew) | ((with_reducible refine Below.setCell ?_ ?_ _); rotate_left; (focus (first | (simp; done) | (simp; omega)))) | ((with_reducible refine Below.alloc ?_ ?_ _); rotate_left; (focus (first | (simp; omega))))))⟩
  have hlen := hsm hc
  subst hc
  have HF := Lib.hid (show readyM ⟨now, ser, rs, ts⟩ n = (⟨now, ser, rs ++ [n], ts⟩, (0, 0)) by simp [readyM, hf])
  clear hf hsm
  obtain ⟨p0, p1, p2, p3, p4, p5, p6, p7⟩ := Blk.four k1
  have HC := Lib.hid (fun o : Obj => clone_any ⟨now, ser, rs, ts⟩ _ (w1.alloc o) ((Hv.out.below hB1).below ((Below.refl _ _).alloc (Nat.le_refl _) o)) (by dsimp only; omega))
  have K1 := Lib.hid k1; have K2 := Lib.hid k2; have K3 := Lib.hid k3
  clear k1 k2 k3
  go_wp2_with fail
  refine (HC.out _).mono ?_
  rintro e w2 ⟨A1, c1, A2, c2, rfl, ho1, ho2, hb2⟩
  have hbB : Below (w.heap.size + 3) w1 w2 := Below.trans (by repeat (first | (with_reducible exact Below.refl _ _) | ((with_reducible refine Below.alloc ?_ ?_ _); rotate_left; (focus (omega))))) (hb2.mono (by simp; omega))
  have hB2 : Below w.heap.size w w2 := hB1.trans (hbB.mono (by omega))
  have l1 : Blk w2 w.heap.size 25 _ := (hbB.block w.heap.size (by omega)).trans K1.out
  have l2 : Blk w2 (w.heap.size + 1) 25 _ := (hbB.block (w.heap.size + 1) (by omega)).trans K2.out
  have l3 : Blk w2 (w.heap.size + 2) 27 _ := (hbB.block (w.heap.size + 2) (by omega)).trans K3.out
  obtain ⟨q0, q1, q2, q3, q4, q5, q6, q7⟩ := l1.four
  replace ho1 := own_mono (base' := w.heap.size + 3) ho1 (by simp; omega)
  replace ho2 := own_mono (base' := w.heap.size + 3) ho2 (by simp; omega)
  have hz2 : w.heap.size + 2 < w2.heap.size := Nat.lt_of_lt_of_le hz1 hbB.size
  have hy2 : w.heap.size < w2.heap.size := by omega
  clear p0 p1 p2 p3 p4 p5 p6 p7 hb2 hbB HC
  have m1 := Lib.hid (fun o => (l1.set4 (.int .i64 now) (.int .i64 ser) (.slice A1 rs.length c1) (.slice A2 ts.length c2)).alloc o)
  have m2 := Lib.hid (fun o => (l2.far4 (g' := w.heap.size) (by omega) (.int .i64 now) (.int .i64 ser) (.slice A1 rs.length c1) (.slice A2 ts.length c2)).alloc o)
  have m3 := Lib.hid (fun o => (l3.far4 (g' := w.heap.size) (by omega) (.int .i64 now) (.int .i64 ser) (.slice A1 rs.length c1) (.slice A2 ts.length c2)).alloc o)
  have O1 := Lib.hid (fun o => (own_box4 (g := w.heap.size) ho1 (by omega) (.int .i64 now) (.int .i64 ser) (.slice A1 rs.length c1) (.slice A2 ts.length c2)).alloc o)
  have O2 := Lib.hid (fun o => (own_box4 (g := w.heap.size) ho2 (by omega) (.int .i64 now) (.int .i64 ser) (.slice A1 rs.length c1) (.slice A2 ts.length c2)).alloc o)
  have BB := Lib.hid (fun o => (below_box4 (g := w.heap.size) hB2 (Nat.le_refl _) (.int .i64 now) (.int .i64 ser) (.slice A1 rs.length c1) (.slice A2 ts.length c2)).alloc (by simp [World.setCell]; omega) o)
  have RN := Lib.hid (show Rd (((((w2.setCell ⟨w.heap.size, 0, none⟩ (.int .i64 now)).setCell ⟨w.heap.size, 1, none⟩ (.int .i64 ser)).setCell ⟨w.heap.size, 2, none⟩ (.slice A1 rs.length c1)).setCell ⟨w.heap.size, 3, none⟩ (.slice A2 ts.length c2)).alloc (.cells #[.int .i64 n] 3)) (some ⟨w2.heap.size, 0, none⟩) [.int .i64 n] by
    have := Rd.new ((((w2.setCell ⟨w.heap.size, 0, none⟩ (.int .i64 now)).setCell ⟨w.heap.size, 1, none⟩ (.int .i64 ser)).setCell ⟨w.heap.size, 2, none⟩ (.slice A1 rs.length c1)).setCell ⟨w.heap.size, 3, none⟩ (.slice A2 ts.length c2)) 3 #[.int .i64 n]
    rw [show ((((w2.setCell ⟨w.heap.size, 0, none⟩ (.int .i64 now)).setCell ⟨w.heap.size, 1, none⟩ (.int .i64 ser)).setCell ⟨w.heap.size, 2, none⟩ (.slice A1 rs.length c1)).setCell ⟨w.heap.size, 3, none⟩ (.slice A2 ts.length c2)).heap.size = w2.heap.size by simp [World.setCell]] at this
    exact this)
  clear l1 l2 l3 K1 K2 K3
  go_wp2_with (at_builtin; refine wpList_app (base := w.heap.size + 3) (xs := ints rs) (news := [.int .i64 n]) rfl st_int (.tmp 18) (.tmp 20) rfl rfl (O1.out _) rfl RN.out rfl (by simp [Value.oneCell']) (by unfold maxLen; omega) (by omega) (by simp [World.setCell]; omega) ?_; intro A3 c3 w3 hown hg hat; obtain ⟨s0, s1, s2, s3, s4, s5, s6, s7⟩ := Blk.four ((hg.block w.heap.size (by simp [World.setCell]; omega) (own_ne ho1 (by omega))).trans (m1.out _)); obtain ⟨t0, t1, t2, t3, t4, t5, t6, t7⟩ := Blk.four ((hg.block (w.heap.size + 1) (by simp [World.setCell]; omega) (own_ne ho1 (by omega))).trans (m2.out _)); obtain ⟨u0, u1, u2, u3⟩ := Blk.two ((hg.block (w.heap.size + 2) (by simp [World.setCell]; omega) (own_ne ho1 (by omega))).trans (m3.out _)); have oo2 := own_other (O2.out _) (O1.out _) (by decide) hg; have hB3 := Below.app (BB.out _) (O1.out _) hg (by omega) (by simp [World.setCell]; omega))
  refine bodyPost_ret (v := .tuple #[.agg #[.int .i64 now, .int .i64 ser, .slice A3 (rs.length + 1) c3, .slice A2 ts.length c2], .agg #[.int .i64 0, .int .i64 0]]) (by simp [results, Try.results11, go_sem, t0, t1, t2, t3, u0, u1]) rfl ?_
  rw [HF.out]
  have hl1 : (rs ++ [n]).length = rs.length + 1 := by simp
  rw [show ints rs ++ [Value.int .i64 n] = ints (rs ++ [n]) by simp [ints], ← hl1] at hown
  refine ⟨_, by rw [← hl1], ckin_of_own (b1 := w.heap.size + 3) (b2 := w.heap.size + 3) ?_ ?_ (by simp; omega) (by omega) (by omega) (by omega), (by repeat (first | (with_reducible exact hB3) | ((with_reducible refine Below.setCell ?_ ?_ _); rotate_left; (focus (first | (simp; done) | (simp; omega))))))⟩
  · repeat (refine ownsRow_setCell_below ?_ (by simp; try omega) _)
    exact hown
  · repeat (refine ownsRow_setCell_below ?_ (by simp; try omega) _)
    exact oo2
end Go.Proofs.Ytgiebofmfkacgaa
namespace Go.Proofs.Ytgiebofmfkacgaa
open Go.RowKit

def enq (c : Ck) (n : Int) : Ck := ⟨c.now, c.ser, c.rs ++ [n], c.ts⟩
/-- A clock handed back. -/
def RetC (m : Ck) (w : World) (e : Ending) (w' : World) : Prop := ∃ v, e = .returned v ∧ CkAt w' m v ∧ Below w.heap.size w w'

end Go.Proofs.Ytgiebofmfkacgaa
namespace Go.Proofs.Ytgiebofmfkacgaa
open Go.RowKit

def bsGo (p : Nat → Bool) : Nat → Nat → Nat → Nat
  | 0, i, _ => i
  | f + 1, i, j => if i < j then (if p ((i + j) / 2) then bsGo p f ((i + j) / 2 + 1) j else bsGo p f i ((i + j) / 2)) else i
theorem bsGo_fuel (p : Nat → Bool) : ∀ f f' i j, j - i ≤ f → j - i ≤ f' → bsGo p f i j = bsGo p f' i j
  | 0, 0, i, j, _, _ => rfl
  | 0, f' + 1, i, j, h, _ => by simp [bsGo, show ¬ i < j by omega]
  | f + 1, 0, i, j, _, h => by simp [bsGo, show ¬ i < j by omega]
  | f + 1, f' + 1, i, j, h, h' => by
    simp only [bsGo]
    by_cases hij : i < j
    · rw [if_pos hij, if_pos hij, bsGo_fuel p f f' ((i + j) / 2 + 1) j (by omega) (by omega), bsGo_fuel p f f' i ((i + j) / 2) (by omega) (by omega)]
    · rw [if_neg hij, if_neg hij]
def bs (p : Nat → Bool) (i j : Nat) : Nat := bsGo p (j - i) i j
theorem bs_step (p : Nat → Bool) (i j : Nat) (h : i < j) : bs p i j = if p ((i + j) / 2) then bs p ((i + j) / 2 + 1) j else bs p i ((i + j) / 2) := by
  unfold bs
  rw [show j - i = (j - i - 1) + 1 by omega]
  simp only [bsGo, if_pos h]
  rw [bsGo_fuel p (j - i - 1) (j - ((i + j) / 2 + 1)) _ _ (by omega) (by omega), bsGo_fuel p (j - i - 1) ((i + j) / 2 - i) _ _ (by omega) (by omega)]
theorem bs_end (p : Nat → Bool) (i j : Nat) (h : j ≤ i) : bs p i j = i := by
  unfold bs
  rw [show j - i = 0 by omega]; rfl
theorem bs_spec (p : Nat → Bool) (n : Nat) (hp : ∀ a b, a < b → b < n → p b = true → p a = true) : ∀ (f i j : Nat), j - i ≤ f → i ≤ j → j ≤ n → i ≤ bs p i j ∧ bs p i j ≤ j ∧ (∀ a, i ≤ a → a < bs p i j → p a = true) ∧ (∀ a, bs p i j ≤ a → a < j → p a = false)
  | 0, i, j, h, hij, _ => by
    have : i = j := by omega
    subst this
    rw [bs_end p i i (Nat.le_refl _)]
    exact ⟨Nat.le_refl _, Nat.le_refl _, fun a _ _ => by omega, fun a _ _ => by omega⟩
  | f + 1, i, j, h, hij, hj => by
    by_cases hlt : i < j
    · rw [bs_step p i j hlt]
      cases hm : p ((i + j) / 2)
      · obtain ⟨h1, h2, h3, h4⟩ := bs_spec p n hp f i ((i + j) / 2) (by omega) (by omega) (by omega)
        simp only [Bool.false_eq_true, if_false]
        refine ⟨h1, by omega, h3, fun a ha haj => ?_⟩
        rcases Nat.lt_or_ge a ((i + j) / 2) with hc | hc
        · exact h4 a ha hc
        · cases hpa : p a
          · rfl
          · rcases Nat.eq_or_lt_of_le hc with e | e
            · rw [← e, hm] at hpa; cases hpa
            · rw [hp _ _ e (by omega) hpa] at hm; cases hm
      · obtain ⟨h1, h2, h3, h4⟩ := bs_spec p n hp f ((i + j) / 2 + 1) j (by omega) (by omega) hj
        simp only [if_true]
        refine ⟨by omega, h2, fun a ha har => ?_, h4⟩
        rcases Nat.lt_or_ge a ((i + j) / 2 + 1) with hc | hc
        · rcases Nat.eq_or_lt_of_le (show a ≤ (i + j) / 2 by omega) with e | e
          · rw [e]; exact hm
          · exact hp _ _ e (by omega) hm
        · exact h3 a hc har
    · have : i = j := by omega
      subst this
      rw [bs_end p i i (Nat.le_refl _)]
      exact ⟨Nat.le_refl _, Nat.le_refl _, fun a _ _ => by omega, fun a _ _ => by omega⟩

def before (ts : List Tm) (t : Tm) (i : Nat) : Bool := match ts[i]? with | some x => decide (orderI x t < 0) | none => false
def bsf (ts : List Tm) (t : Tm) : Nat := bs (before ts t) 0 ts.length
def RetIB (n : Int) (w : World) (e : Ending) (w' : World) : Prop := ∃ b : Bool, e = .returned (.tuple #[.int .i64 n, .bool b]) ∧ Below w.heap.size w w'

set_option maxHeartbeats 2000000 in
theorem bsearch_any (A : Option Addr) (c : Nat) (ts : List Tm) (t : Tm) (w : World) (ht : Rd w A (rows Tm.cells ts)) (hl : ts.length ≤ 17592186043904) :
    Calls Try.prog 36 #[.slice A ts.length c, t.val, .func (.func 37) #[] #[]] w (RetIB (bsf ts t) w) := by
  obtain ⟨t1, t2, t3⟩ := t
  unfold Tm.val
  dsimp only
  generalize hF : bsf ts ⟨t1, t2, t3⟩ = F
  have H0 := Lib.hid (show F = bs (before ts ⟨t1, t2, t3⟩) 0 ts.length from hF.symm)
  clear hF
  go_enter Try.func36, Try.ntmps36
  go_wp2
  go_loopw [9, 10] (fun x y wr => ∃ i j : Nat, i ≤ j ∧ j ≤ ts.length ∧ x = .int .i64 i ∧ y = .int .i64 j ∧ F = bs (before ts ⟨t1, t2, t3⟩) i j ∧ Below (w.heap.size + 1) (w.alloc (.cells #[.int .i64 t1, .int .i64 t2, .int .i64 t3] 46)) wr) (fun x y _ => (intOf y).toNat - (intOf x).toNat)
  case atStart => exact ⟨0, ts.length, Nat.zero_le _, Nat.le_refl _, rfl, rfl, H0.out, Below.refl _ _⟩
  case round =>
    obtain ⟨i, j, hij, hj, rfl, rfl, hs, hbl⟩ := hrel
    have H := Lib.hid hs; clear hs
    obtain ⟨k1, hz⟩ := box1 (w := w) hbl rfl (by omega)
    have hB : Below w.heap.size w wr := Below.trans (by repeat (first | (with_reducible exact Below.refl _ _) | ((with_reducible refine Below.alloc ?_ ?_ _); rotate_left; (focus (first | (simp; done)))))) (hbl.mono (by omega))
    obtain ⟨p0, p1, p2, _, _, _⟩ := Blk.three k1
    have K1 := Lib.hid k1; clear k1
    by_cases hlt : i < j
    · have HS := Lib.hid (bs_step (before ts ⟨t1, t2, t3⟩) i j hlt)
      have hm : (i + j) / 2 < ts.length := by omega
      have i0 : (i : Int) < (j : Int) := by omega
      go_wp2_with fail
      obtain ⟨m, em⟩ : ∃ m, m = (i + j) / 2 := ⟨_, rfl⟩
      have e2 : ((i : Int) + (j : Int)) / 2 = (m : Int) := by omega
      rw [← em] at HS hm
      have hmj : m < j := by omega
      have him : i ≤ m := by omega
      rw [e2]
      clear em e2
      obtain ⟨b, o, rfl, hb, hc0, hc1, hc2⟩ := (ht.below hB).tm hm
      have i1 : (0 : Int) ≤ (m : Int) := by omega
      have i2 : (m : Int) < (ts.length : Int) := by omega
      have HP := Lib.hid (show before ts ⟨t1, t2, t3⟩ m = decide (orderI ts[m] ⟨t1, t2, t3⟩ < 0) by simp [before, hm])
      go_region_held3 (fun w' => w'.cell? ⟨b, o + m * 3, none⟩ = some (.int .i64 ts[m].at_) ∧ w'.cell? ⟨b, o + m * 3 + 1, none⟩ = some (.int .i64 ts[m].ser) ∧ w'.cell? ⟨b, o + m * 3 + 2, none⟩ = some (.int .i64 ts[m].task) ∧ w'.cell? ⟨w.heap.size, 0, none⟩ = some (.int .i64 t1) ∧ w'.cell? ⟨w.heap.size, 1, none⟩ = some (.int .i64 t2) ∧ w'.cell? ⟨w.heap.size, 2, none⟩ = some (.int .i64 t3))
        (first | exact ⟨hc0, hc1, hc2, p0, p1, p2⟩ | exact ⟨(hb2.cell (p := ⟨b, o + m * 3, none⟩) (by simp; omega)).trans hc0, (hb2.cell (p := ⟨b, o + m * 3 + 1, none⟩) (by simp; omega)).trans hc1, (hb2.cell (p := ⟨b, o + m * 3 + 2, none⟩) (by simp; omega)).trans hc2, (hb2.cell (p := ⟨w.heap.size, 0, none⟩) (by simp; omega)).trans p0, (hb2.cell (p := ⟨w.heap.size, 1, none⟩) (by simp; omega)).trans p1, (hb2.cell (p := ⟨w.heap.size, 2, none⟩) (by simp; omega)).trans p2⟩)
        (first | (go_at_call 37; refine (order_any ts[m] ⟨t1, t2, t3⟩ _).mono ?_; rintro e w2 ⟨rfl, hb2⟩))
      have hbl2 := hbl.drew.trans (hb2.mono (show w.heap.size + 1 ≤ wr.heap.size by omega))
      clear i1 i2
      by_cases hO : orderI ts[m] ⟨t1, t2, t3⟩ < 0
      · go_wp2
        go_roundw
        case rel => exact ⟨m + 1, j, by omega, hj, by go_num, rfl, by rw [H.out, HS.out, HP.out, if_pos (by simpa using hO)], hbl2⟩
        case measure => simp [intOf]; omega
      · go_wp2
        go_roundw
        case rel => exact ⟨i, m, by omega, by omega, rfl, rfl, by rw [H.out, HS.out, HP.out, if_neg (by simpa using hO)], hbl2⟩
        case measure => simp [intOf]; omega
    · have HE := Lib.hid (bs_end (before ts ⟨t1, t2, t3⟩) i j (by omega))
      have i0 : ¬ (i : Int) < (j : Int) := by omega
      by_cases hn : i < ts.length
      · have i1 : (i : Int) < (ts.length : Int) := by omega
        obtain ⟨b, o, rfl, hb, hc0, hc1, hc2⟩ := (ht.below hB).tm hn
        go_wp2_with fail
        go_region_held3 (fun w' => w'.cell? ⟨b, o + i * 3, none⟩ = some (.int .i64 ts[i].at_) ∧ w'.cell? ⟨b, o + i * 3 + 1, none⟩ = some (.int .i64 ts[i].ser) ∧ w'.cell? ⟨b, o + i * 3 + 2, none⟩ = some (.int .i64 ts[i].task) ∧ w'.cell? ⟨w.heap.size, 0, none⟩ = some (.int .i64 t1) ∧ w'.cell? ⟨w.heap.size, 1, none⟩ = some (.int .i64 t2) ∧ w'.cell? ⟨w.heap.size, 2, none⟩ = some (.int .i64 t3))
          (first | exact ⟨hc0, hc1, hc2, p0, p1, p2⟩ | exact ⟨(hb2.cell (p := ⟨b, o + i * 3, none⟩) (by simp; omega)).trans hc0, (hb2.cell (p := ⟨b, o + i * 3 + 1, none⟩) (by simp; omega)).trans hc1, (hb2.cell (p := ⟨b, o + i * 3 + 2, none⟩) (by simp; omega)).trans hc2, (hb2.cell (p := ⟨w.heap.size, 0, none⟩) (by simp; omega)).trans p0, (hb2.cell (p := ⟨w.heap.size, 1, none⟩) (by simp; omega)).trans p1, (hb2.cell (p := ⟨w.heap.size, 2, none⟩) (by simp; omega)).trans p2⟩)
          (first | (go_at_call 37; refine (order_any ts[i] ⟨t1, t2, t3⟩ _).mono ?_; rintro e w2 ⟨rfl, hb2⟩))
        go_wp2
        go_ret2
        exact ⟨orderI ts[i] ⟨t1, t2, t3⟩ == 0, by rw [H.out, HE.out]; rfl, hB.drew.trans (hb2.mono (show w.heap.size ≤ wr.heap.size by omega))⟩
      · have i1 : decide (i < ts.length) = false := by simpa using hn
        go_wp2_with fail
        go_quiet (fail)
        go_wp2
        go_ret2
        exact ⟨false, by rw [H.out, HE.out]; rfl, below_drewN hB _⟩
end Go.Proofs.Ytgiebofmfkacgaa
namespace Go.Proofs.Ytgiebofmfkacgaa
open Go.RowKit

def insT (ts : List Tm) (i : Nat) (t : Tm) : List Tm := ts.take i ++ t :: ts.drop i
theorem insT_length (ts : List Tm) (i : Nat) (t : Tm) (h : i ≤ ts.length) : (insT ts i t).length = ts.length + 1 := by simp [insT]; omega
theorem insT_cells (ts : List Tm) (i : Nat) (t : Tm) : rows Tm.cells (insT ts i t) = rows Tm.cells (ts.take i) ++ t.cells ++ rows Tm.cells (ts.drop i) := by
  unfold insT; rw [rows_append, rows_cons, List.append_assoc]
theorem insT_end (ts : List Tm) (t : Tm) : insT ts ts.length t = ts ++ [t] := by simp [insT]
/-- A row handed back. -/
def RetRow (base : Nat) (own : Option Nat) (n : Nat) (cells : List Value) (w : World) (e : Ending) (w' : World) : Prop :=
  ∃ A c, e = .returned (.slice A n c) ∧ w'.ownsRow base 46 3 (.slice A n c) n cells ∧ w.grownBy w' own

set_option maxHeartbeats 1000000 in
theorem insert_end (base : Nat) (A : Option Addr) (c : Nat) (ts : List Tm) (t : Tm) (g : Nat) (w : World) (ho : w.ownsRow base 46 3 (.slice A ts.length c) ts.length (rows Tm.cells ts)) (hb : base ≤ w.heap.size)
    (hv : Blk w g 46 #[.int .i64 t.at_, .int .i64 t.ser, .int .i64 t.task]) (hl : ts.length ≤ 1000000) :
    Calls Try.prog 38 #[.slice A ts.length c, .int .i64 ts.length, .slice (some ⟨g, 0, none⟩) 1 1] w (RetRow base (Value.slice A ts.length c).ownBlock (ts.length + 1) (rows Tm.cells (insT ts ts.length t)) w) := by
  have hc : ts.length ≤ c := by
    obtain ⟨A', c', ev, h1, h2⟩ := own_form ho
    injection ev with e1 e2 e3; omega
  have HR := Lib.hid (show Rd w (some ⟨g, 0, none⟩) t.cells from fun _ => ⟨g, 0, rfl, hv.lt, fun j u hu => by rw [Nat.zero_add, hv.cell]; simpa [Tm.cells] using hu⟩)
  have HO := Lib.hid ho; clear ho
  have i1 : (0 : Int) ≤ (ts.length : Int) := by omega
  go_enter Try.func38, Try.ntmps38
  go_wp2_with (at_builtin; refine wpList_app (base := base) (xs := rows Tm.cells ts) (news := t.cells) rfl st_tm (.tmp 23) (.tmp 24) rfl rfl HO.out rfl HR.out rfl (by simp [Tm.cells, Value.oneCell']) (by unfold maxLen; omega) (by omega) hb ?_; intro A1 c1 w1 hown hg hat)
  all_goals
    go_ret
    exact ⟨A1, c1, rfl, by rw [insT_end, rows_append, rows_one]; exact hown, by rcases A with _ | a <;> exact hg⟩

set_option maxRecDepth 100000 in
set_option maxHeartbeats 1000000 in
theorem insert_room (base c i : Nat) (ts : List Tm) (t : Tm) (g gs : Nat) (L : List Value) (w : World) (hb : base ≤ gs) (hs : w.heap[gs]? = some (.cells L.toArray 46 (0, 0))) (hL : L.length = c * 3) (hLt : L.take (ts.length * 3) = rows Tm.cells ts)
    (hv : Blk w g 46 #[.int .i64 t.at_, .int .i64 t.ser, .int .i64 t.task]) (hne : g ≠ gs) (hl : ts.length ≤ 1000000) (hi : i < ts.length) (hr : ts.length + 1 ≤ c) (hc63 : c ≤ 9223372036854775807) :
    Calls Try.prog 38 #[.slice (some ⟨gs, 0, none⟩) ts.length c, .int .i64 i, .slice (some ⟨g, 0, none⟩) 1 1] w (RetRow base (some gs) (ts.length + 1) (rows Tm.cells (insT ts i t)) w) := by
  have i1 : (0 : Int) ≤ (i : Int) := by omega
  have i2 : (i : Int) ≤ (ts.length : Int) := by omega
  have i3 : ((i : Int) == (ts.length : Int)) = false := by rw [beq_eq_false_iff_ne]; omega
  have i4 : ¬ (c = i) := by omega
  have i5 : ¬ (c = i + 1) := by omega
  have i6 : (ts.length : Int) + 1 ≤ (c : Int) := by omega
  have hov : ∀ oo lb cb, (callFunc 54 #[.slice (some ⟨g, 0, none⟩) 1 1, .slice (some ⟨gs, oo, none⟩) lb cb]).run Try.prog w = .ok (.value (.bool false)) w := fun oo lb cb => by
    rw [run_callFunc_extern Try.func54 (by kernel_rfl) (by kernel_rfl) (by kernel_rfl) (e := Extern.SlicesOverlaps.overlaps #[23, 23] #[4]) (by kernel_rfl),
      Lib.run_overlaps_apart w 23 4 46 Try.underlying23 3 (fun w => by kernel_rfl) ⟨g, 0, none⟩ ⟨gs, oo, none⟩ 1 1 lb cb hne 46 46 3 (c * 3) (by unfold Blk at hv; simp [World.shape?, hv]) (by simp [World.shape?, hs, hL]) (by omega) (hv.frozen 0) (hv.frozen 3)]
    rfl
  go_enter Try.func38, Try.ntmps38
  go_wp2_with fail
  have hYl : (rows Tm.cells (ts.drop i)).length = (ts.length - i) * 3 := by rw [rows_length Tm.cells_length, List.length_drop]
  have hYd : rows Tm.cells (ts.drop i) = (L.take (ts.length * 3)).drop (i * 3) := by rw [hLt, ← rows_drop Tm.cells_length]
  have hsrcY : ∀ j v, (rows Tm.cells (ts.drop i))[j]? = some v → w.cell? ⟨gs, i * 3 + j, none⟩ = some v := fun j v hj => by
    rw [hYd, List.getElem?_drop, List.getElem?_take] at hj
    split at hj
    · simp [World.cell?, hs, hj]
    · cases hj
  have HC1 := Lib.hid (fun ty dc sc => run_copyK (w := w.drew) (sT := 23) (dCap := dc) (sCap := sc) st_tm ty (g := gs) (o := (i + 1) * 3) (dLen := ts.length - i) (sb := gs) (so := i * 3) (sLen := ts.length + 1 - i) (cur := L) (t := 46) (cs := rows Tm.cells (ts.drop i)) (n := ts.length - i) hs (by simp only [Nat.min_def]; split <;> omega) hYl hsrcY (by omega) (tms_one _))
  have hrow1 := setRow_at (w := w.drew) hs (splice L ((i + 1) * 3) (rows Tm.cells (ts.drop i)))
  have hgr1 := setRow_grown (w := w.drew) gs (splice L ((i + 1) * 3) (rows Tm.cells (ts.drop i))).toArray
  have w1 : IntKind.i64.wrap ((i : Int) + 1) = (i : Int) + 1 := IntWalk.i64_in _ (by omega)
  have w2 : (0 : Int) ≤ (i : Int) + 1 := by omega
  have w3 : ((i : Int) + 1).toNat = i + 1 := by omega
  have w4 : (i : Int) ≤ (ts.length : Int) + 1 := by omega
  generalize (w.drew.setRow gs (splice L ((i + 1) * 3) (rows Tm.cells (ts.drop i))).toArray) = W1 at *
  have hc1 := HC1.out 3 (c - (i + 1)) (c - i)
  go_region
  clear hc1 w1 w2 w3 w4
  have hfit1 : (i + 1) * 3 + (rows Tm.cells (ts.drop i)).length ≤ L.length := by omega
  have hsl := length_splice L ((i + 1) * 3) (rows Tm.cells (ts.drop i)) hfit1
  have hv1 : Blk W1 g 46 #[.int .i64 t.at_, .int .i64 t.ser, .int .i64 t.task] := (hgr1.block g hv.lt (by simp; exact hne)).trans hv
  have hc2 := run_copyK (w := W1) (sT := 23) (dCap := c - i) (sCap := 1) st_tm 3 (g := gs) (o := i * 3) (dLen := ts.length + 1 - i) (sb := g) (so := 0) (sLen := 1) (cur := splice L ((i + 1) * 3) (rows Tm.cells (ts.drop i))) (t := 46) (cs := t.cells) (n := 1) hrow1 (by simp only [Nat.min_def]; split <;> omega) rfl (fun j v hj => by rw [Nat.zero_add, hv1.cell]; simpa [Tm.cells] using hj) (by rw [hsl, Tm.cells_length]; omega) (by simp [Tm.cells, Value.oneCell'])
  have hrow2 := setRow_at (w := W1) hrow1 (splice (splice L ((i + 1) * 3) (rows Tm.cells (ts.drop i))) (i * 3) t.cells)
  have hgr2 := setRow_grown (w := W1) gs (splice (splice L ((i + 1) * 3) (rows Tm.cells (ts.drop i))) (i * 3) t.cells).toArray
  generalize (W1.setRow gs (splice (splice L ((i + 1) * 3) (rows Tm.cells (ts.drop i))) (i * 3) t.cells).toArray) = W2 at *
  have HROW := Lib.hid hrow2
  clear hrow2 hrow1 hov
  go_wp2
  go_ret
  have hX : (rows Tm.cells (ts.take i)).length = i * 3 := by rw [rows_length Tm.cells_length, List.length_take]; congr 1; omega
  have hsp := splice_insert (cur := L) (X := rows Tm.cells (ts.take i)) (Y := rows Tm.cells (ts.drop i)) (V := t.cells) (R := L.drop (ts.length * 3)) (by rw [← rows_append, List.take_append_drop, ← hLt, List.take_append_drop]) (by rw [Tm.cells_length, List.length_drop]; omega)
  rw [hX, Tm.cells_length, hYl, ← insT_cells, show i * 3 + 3 = (i + 1) * 3 by omega, show (i + 1) * 3 + (ts.length - i) * 3 = (ts.length + 1) * 3 by omega] at hsp
  have hsl2 := length_splice (splice L ((i + 1) * 3) (rows Tm.cells (ts.drop i))) (i * 3) t.cells (by rw [hsl, Tm.cells_length]; omega)
  refine ⟨some ⟨gs, 0, none⟩, c, rfl, ⟨?_, .inr ⟨gs, c, _, rfl, hb, HROW.out, hr, by unfold maxLen; omega, ?_, ?_⟩⟩, ?_⟩
  · rw [rows_length Tm.cells_length, insT_length ts i t (by omega)]
  · simp; rw [hsl2, hsl, hL]
  · exact hsp
  · exact ⟨hgr2.os.trans hgr1.os, hgr2.tape.trans hgr1.tape, hgr2.output.trans hgr1.output, Nat.le_trans hgr1.size hgr2.size, fun k hk hkn => (hgr2.block k (Nat.lt_of_lt_of_le hk hgr1.size) hkn).trans (hgr1.block k hk hkn)⟩

set_option maxRecDepth 100000 in
set_option maxHeartbeats 1000000 in
theorem insert_grow (base c i : Nat) (ts : List Tm) (t : Tm) (g gs : Nat) (L : List Value) (w : World) (hb : base ≤ w.heap.size) (hs : w.heap[gs]? = some (.cells L.toArray 46 (0, 0))) (hLt : L.take (ts.length * 3) = rows Tm.cells ts)
    (hv : Blk w g 46 #[.int .i64 t.at_, .int .i64 t.ser, .int .i64 t.task]) (hl : ts.length ≤ 1000000) (hi : i < ts.length) (hn : ts.length ≤ c) (hr : c < ts.length + 1) :
    Calls Try.prog 38 #[.slice (some ⟨gs, 0, none⟩) ts.length c, .int .i64 i, .slice (some ⟨g, 0, none⟩) 1 1] w (RetRow base (some gs) (ts.length + 1) (rows Tm.cells (insT ts i t)) w) := by
  have i1 : (0 : Int) ≤ (i : Int) := by omega
  have i2 : (i : Int) ≤ (ts.length : Int) := by omega
  have i3 : ((i : Int) == (ts.length : Int)) = false := by rw [beq_eq_false_iff_ne]; omega
  have i4 : ¬ (c = i) := by omega
  have i6 : (c : Int) < (ts.length : Int) + 1 := by omega
  have i7 : (i : Int) ≤ (c : Int) := by omega
  have hgl : gs < w.heap.size := Blk.lt (w := w) (g := gs) hs
  have hX : (rows Tm.cells (ts.take i)).length = i * 3 := by rw [rows_length Tm.cells_length, List.length_take]; congr 1; omega
  have hXd : rows Tm.cells (ts.take i) = L.take (i * 3) := by rw [rows_take Tm.cells_length, ← hLt, List.take_take, Nat.min_eq_left (by omega)]
  obtain ⟨i0, hi0, hz0, hz1, hz2⟩ := info_parts (P := Try.prog) (e := 46) (z := .agg #[.int .i64 0, .int .i64 0, .int .i64 0]) (size := 3) (bytes := 24) (by kernel_rfl)
  have hold : (Builtin.firstCells i0.size i (.slice (some ⟨gs, 0, none⟩) i c)).run Try.prog w.drew = .ok (rows Tm.cells (ts.take i)).toArray w.drew := by
    rw [hz1]
    exact run_firstCells_some w.drew 3 i ⟨gs, 0, none⟩ i c (rows Tm.cells (ts.take i)) hX (fun j v hj => by
      rw [hXd, List.getElem?_take] at hj
      have e : (⟨gs, 0, none⟩ : Addr).add j = ⟨gs, j, none⟩ := by unfold Addr.add; split <;> simp_all
      rw [e]
      split at hj
      · show w.cell? _ = _; simp [World.cell?, hs, hj]
      · cases hj)
  have hrz0 := Lib.run_append_grow_zeros w 23 3 23 46 i0 _ .i64 .i64 Try.underlying23 Try.underlying3 hi0 hz0 (some ⟨gs, 0, none⟩) i c (rows Tm.cells (ts.take i)) hold (ts.length + 1 - i) (by omega) (by omega) (by omega) (by omega) (by rw [hz2]; omega) (by rw [hz2, show i + (ts.length + 1 - i) = ts.length + 1 by omega]; exact growslice_fits hr (by omega))
  rw [show i + (ts.length + 1 - i) = ts.length + 1 by omega, show ((ts.length + 1 - i : Nat) : Int) = (ts.length : Int) + 1 - (i : Int) by omega] at hrz0
  have hG1 := grownCap_ge w (ts.length + 1) c 46
  have hG2 := grownCap_le_maxLen w (ts.length + 1) c 46 (by unfold maxLen; omega)
  generalize grownCap w (ts.length + 1) c 46 = G at hrz0 hG1 hG2
  unfold maxLen at hG2
  obtain ⟨Z, hZ, hZl⟩ : ∃ Z : List Value, ((rows Tm.cells (ts.take i)).toArray ++ Builtin.zeroCells (Value.agg #[.int .i64 0, .int .i64 0, .int .i64 0]).cells (ts.length + 1 - i) ++ Builtin.zeroCells (Value.agg #[.int .i64 0, .int .i64 0, .int .i64 0]).cells (G - (ts.length + 1))) = (rows Tm.cells (ts.take i) ++ Z).toArray ∧ Z.length = (ts.length + 1 - i) * 3 + (G - (ts.length + 1)) * 3 :=
    ⟨(Builtin.zeroCells (Value.agg #[.int .i64 0, .int .i64 0, .int .i64 0]).cells (ts.length + 1 - i)).toList ++ (Builtin.zeroCells (Value.agg #[.int .i64 0, .int .i64 0, .int .i64 0]).cells (G - (ts.length + 1))).toList, by
      apply Array.toList_inj.1; simp, by simp [Builtin.zeroCells, Value.cells]⟩
  rw [hZ] at hrz0
  have hrow0 : (w.drew.alloc (.cells (rows Tm.cells (ts.take i) ++ Z).toArray 46)).heap[w.heap.size]? = some (.cells (rows Tm.cells (ts.take i) ++ Z).toArray 46 (0, 0)) := heap_alloc_new w.drew _
  have hb0 : Below w.heap.size w (w.drew.alloc (.cells (rows Tm.cells (ts.take i) ++ Z).toArray 46)) := (Below.refl _ _).drew.alloc (Nat.le_refl _) _
  have hs0 : (w.drew.alloc (.cells (rows Tm.cells (ts.take i) ++ Z).toArray 46)).heap.size = w.heap.size + 1 := by simp
  have HZ := Lib.hid (And.intro hZ hZl)
  clear hZ
  generalize (w.drew.alloc (.cells (rows Tm.cells (ts.take i) ++ Z).toArray 46)) = W1 at *
  have hRl : (rows Tm.cells (ts.take i) ++ Z).length = G * 3 := by rw [List.length_append, hX, hZl]; omega
  have hv1 : Blk W1 g 46 _ := hv.below' hb0
  have hc2 := run_copyK (w := W1) (sT := 23) (dCap := G - i) (sCap := 1) st_tm 3 (g := w.heap.size) (o := i * 3) (dLen := ts.length + 1 - i) (sb := g) (so := 0) (sLen := 1) (cur := rows Tm.cells (ts.take i) ++ Z) (t := 46) (cs := t.cells) (n := 1) hrow0 (by simp only [Nat.min_def]; split <;> omega) rfl (fun j v hj => by rw [Nat.zero_add, hv1.cell]; simpa [Tm.cells] using hj) (by rw [hRl, Tm.cells_length]; omega) (by simp [Tm.cells, Value.oneCell'])
  have hrow1 := setRow_at (w := W1) hrow0 (splice (rows Tm.cells (ts.take i) ++ Z) (i * 3) t.cells)
  have hgr1 := setRow_grown (w := W1) w.heap.size (splice (rows Tm.cells (ts.take i) ++ Z) (i * 3) t.cells).toArray
  have hsl := length_splice (rows Tm.cells (ts.take i) ++ Z) (i * 3) t.cells (by rw [hRl, Tm.cells_length]; omega)
  generalize (W1.setRow w.heap.size (splice (rows Tm.cells (ts.take i) ++ Z) (i * 3) t.cells).toArray) = W2 at *
  have hb2 : Below w.heap.size w W2 := hb0.grown hgr1 (by omega) (by simp)
  have hYl : (rows Tm.cells (ts.drop i)).length = (ts.length - i) * 3 := by rw [rows_length Tm.cells_length, List.length_drop]
  have hYd : rows Tm.cells (ts.drop i) = (L.take (ts.length * 3)).drop (i * 3) := by rw [hLt, ← rows_drop Tm.cells_length]
  have hsrcY : ∀ j v, (rows Tm.cells (ts.drop i))[j]? = some v → W2.drew.cell? ⟨gs, i * 3 + j, none⟩ = some v := fun j v hj => by
    rw [hYd, List.getElem?_drop, List.getElem?_take] at hj
    split at hj
    · refine (hb2.cell (p := ⟨gs, i * 3 + j, none⟩) hgl).trans ?_
      simp [World.cell?, hs, hj]
    · cases hj
  have hc3 := run_copyK (w := W2.drew) (sT := 23) (dCap := G - (i + 1)) (sCap := c - i) st_tm 3 (g := w.heap.size) (o := (i + 1) * 3) (dLen := ts.length - i) (sb := gs) (so := i * 3) (sLen := ts.length - i) (cur := splice (rows Tm.cells (ts.take i) ++ Z) (i * 3) t.cells) (t := 46) (cs := rows Tm.cells (ts.drop i)) (n := ts.length - i) hrow1 (by simp [Nat.min_def]) hYl hsrcY (by rw [hsl, hRl, hYl]; omega) (tms_one _)
  have hrow2 := setRow_at (w := W2.drew) hrow1 (splice (splice (rows Tm.cells (ts.take i) ++ Z) (i * 3) t.cells) ((i + 1) * 3) (rows Tm.cells (ts.drop i)))
  have hgr2 := setRow_grown (w := W2.drew) w.heap.size (splice (splice (rows Tm.cells (ts.take i) ++ Z) (i * 3) t.cells) ((i + 1) * 3) (rows Tm.cells (ts.drop i))).toArray
  have hsl2 := length_splice (splice (rows Tm.cells (ts.take i) ++ Z) (i * 3) t.cells) ((i + 1) * 3) (rows Tm.cells (ts.drop i)) (by rw [hsl, hRl, hYl]; omega)
  generalize (W2.drew.setRow w.heap.size (splice (splice (rows Tm.cells (ts.take i) ++ Z) (i * 3) t.cells) ((i + 1) * 3) (rows Tm.cells (ts.drop i))).toArray) = W3 at *
  have hb3 : Below w.heap.size w W3 := hb2.drew.grown hgr2 (by have := hgr1.size; show w.heap.size ≤ W2.heap.size; omega) (by simp)
  have g1 : ¬ (G = i) := by omega
  have g2 : ¬ (G = i + 1) := by omega
  have HALL := Lib.hid (And.intro hrow2 (And.intro hsl (And.intro hsl2 (And.intro hRl hb3))))
  have HX := Lib.hid hX; have HY := Lib.hid hYl; have HZl := Lib.hid hZl
  clear hrow0 hrow1 hrow2 hgr1 hgr2 hsl hsl2 hRl hb0 hb2 hb3 hsrcY hYd hYl hX hXd hZl hold hs0 hv1 HZ hi0 hz0 hz1 hz2
  have HRZ := Lib.hid hrz0; clear hrz0
  go_enter Try.func38, Try.ntmps38
  go_wp2_with (at_builtin; refine wpList_appR rfl (.tmp 34) (.tmp 39) 23 3 rfl _ _ rfl rfl HRZ.out ?_)
  have w1 : IntKind.i64.wrap ((i : Int) + 1) = (i : Int) + 1 := IntWalk.i64_in _ (by omega)
  have w2 : (0 : Int) ≤ (i : Int) + 1 := by omega
  have w3 : ((i : Int) + 1).toNat = i + 1 := by omega
  have w4 : (i : Int) ≤ (ts.length : Int) + 1 := by omega
  go_region
  clear w1 w2 w3 w4
  go_wp2
  go_ret
  obtain ⟨hrow2, hsl, hsl2, hRl, hb3⟩ := HALL.out
  have hsp := splice_insert2 (cur := rows Tm.cells (ts.take i) ++ Z) (X := rows Tm.cells (ts.take i)) (Y := rows Tm.cells (ts.drop i)) (V := t.cells) (Z := Z) rfl (by rw [Tm.cells_length, HY.out, HZl.out]; omega)
  rw [HX.out, Tm.cells_length, HY.out, ← insT_cells, show i * 3 + 3 = (i + 1) * 3 by omega, show (i + 1) * 3 + (ts.length - i) * 3 = (ts.length + 1) * 3 by omega] at hsp
  refine ⟨some ⟨w.heap.size, 0, none⟩, G, rfl, ⟨?_, .inr ⟨w.heap.size, G, _, rfl, hb, hrow2, hG1, by unfold maxLen; omega, ?_, ?_⟩⟩, ?_⟩
  · rw [rows_length Tm.cells_length, insT_length ts i t (by omega)]
  · simp; rw [hsl2, hsl]; simpa using hRl
  · exact hsp
  · exact ⟨hb3.os, hb3.tape, hb3.output, hb3.size, fun k hk _ => hb3.block k hk⟩
end Go.Proofs.Ytgiebofmfkacgaa
namespace Go.Proofs.Ytgiebofmfkacgaa
open Go.RowKit

theorem insert_any (base : Nat) (A : Option Addr) (c i : Nat) (ts : List Tm) (t : Tm) (g : Nat) (w : World) (ho : w.ownsRow base 46 3 (.slice A ts.length c) ts.length (rows Tm.cells ts)) (hb : base ≤ w.heap.size)
    (hv : Blk w g 46 #[.int .i64 t.at_, .int .i64 t.ser, .int .i64 t.task]) (hl : ts.length ≤ 1000000) (hi : i ≤ ts.length) (hne : some g ≠ (Value.slice A ts.length c).ownBlock) :
    Calls Try.prog 38 #[.slice A ts.length c, .int .i64 i, .slice (some ⟨g, 0, none⟩) 1 1] w (RetRow base (Value.slice A ts.length c).ownBlock (ts.length + 1) (rows Tm.cells (insT ts i t)) w) := by
  by_cases he : i = ts.length
  · subst he; exact insert_end base A c ts t g w ho hb hv hl
  · rcases ho.2 with ⟨hv0, h0⟩ | ⟨gs, cap, cur, hv0, hbg, hh, hnc, hcm, hcs, hct⟩
    · omega
    · injection hv0 with e1 e2 e3
      subst e1 e3
      unfold maxLen at hcm
      by_cases hr : ts.length + 1 ≤ c
      · exact insert_room base c i ts t g gs cur.toList w hbg (by simpa using hh) (by simpa using hcs) hct hv (by simpa [Value.ownBlock] using hne) hl (by omega) hr (by omega)
      · exact insert_grow base c i ts t g gs cur.toList w hb (by simpa using hh) hct hv hl (by omega) hnc (by omega)

def newT (c : Ck) (n d : Int) : Tm := ⟨c.now + d, c.ser, n⟩
def sleepM (c : Ck) (n d : Int) : Ck × (Int × Int) :=
  if (idleF c n).1 = 0 then
    (if d < 0 ∨ 1000000000 < d then (⟨0, 0, [], []⟩, (4, -3)) else if d = 0 then readyM c n else
      if timeB (c.now + d) && timeB (c.ser + 1) then (⟨c.now, c.ser + 1, c.rs, insT c.ts (bsf c.ts (newT c n d)) (newT c n d)⟩, (0, 0)) else (⟨0, 0, [], []⟩, (14, -3)))
  else (⟨0, 0, [], []⟩, idleF c n)
theorem validate_times {c : Ck} (h : (validate c).1 = 0) : timeB c.now = true ∧ timeB c.ser = true := by
  unfold validate at h
  split at h
  · rename_i h0; simpa using h0
  · simp at h
theorem idle_valid {c : Ck} {n : Int} (h : (idleF c n).1 = 0) : (validate c).1 = 0 := by
  unfold idleF at h
  split at h
  · assumption
  · rename_i h0; exact absurd h h0
theorem timeB_le {n : Int} (h : timeB n = true) : 0 ≤ n ∧ n ≤ 1000000000000000 := by simpa [timeB] using h
theorem bsf_le (ts : List Tm) (t : Tm) : bsf ts t ≤ ts.length := by
  have key : ∀ (p : Nat → Bool) (f i j : Nat), j - i ≤ f → i ≤ j → bs p i j ≤ j := by
    intro p f
    induction f with
    | zero => intro i j h hij; rw [bs_end p i j (by omega)]; exact hij
    | succ f ih =>
      intro i j h hij
      by_cases hlt : i < j
      · rw [bs_step p i j hlt]
        split
        · exact ih _ _ (by omega) (by omega)
        · exact Nat.le_trans (ih _ _ (by omega) (by omega)) (by omega)
      · rw [bs_end p i j (by omega)]; exact hij
  exact key _ ts.length 0 ts.length (by omega) (by omega)

set_option maxHeartbeats 2000000 in
theorem sleep_any (c : Ck) (v : Value) (n d : Int) (w : World) (hv : CkAt w c v) :
    Calls Try.prog 12 #[v, .int .i64 n, .int .i64 d] w (RetCk (sleepM c n d) w) := by
  have hv0 := hv
  obtain ⟨now, ser, rs, ts⟩ := c
  obtain ⟨RA, rc, TA, tc, rfl, hr, ht, hrc, htc, hrl, htl⟩ := hv
  dsimp only at hr ht hrc htc hrl htl ⊢
  have Hv := Lib.hid hv0; clear hv0
  go_enter Try.func12, Try.ntmps12
  go_wp2_with fail
  refine (idle_any _ _ n _ (Hv.out.below (by repeat (first | (with_reducible exact Below.refl _ _) | ((with_reducible refine Below.alloc ?_ ?_ _); rotate_left; (focus (first | (simp; done) | (simp; omega)))))))).mono ?_
  rintro e w1 ⟨rfl, hb1⟩
  obtain ⟨k1, k2, k3, hz1⟩ := box3 (w := w) hb1 rfl (by simp)
  have hy1 : w.heap.size < w1.heap.size := by omega
  have hx1 : w.heap.size + 1 < w1.heap.size := by omega
  have hB1 : Below w.heap.size w w1 := Below.trans (by repeat (first | (with_reducible exact Below.refl _ _) | ((with_reducible refine Below.alloc ?_ ?_ _); rotate_left; (focus (first | (simp; done) | (simp; omega)))))) (hb1.mono (by simp; omega))
  clear hb1
  have hsm := @idle_small ⟨now, ser, rs, ts⟩ n
  have hiv := @idle_valid ⟨now, ser, rs, ts⟩ n
  obtain ⟨p0, p1, p2, p3, p4, p5, p6, p7⟩ := Blk.four k1
  obtain ⟨q0, q1, q2, q3, q4, q5, q6, q7⟩ := Blk.four k2
  obtain ⟨r0, r1, r2, r3⟩ := Blk.two k3
  have K1 := Lib.hid k1; have K2 := Lib.hid k2; have K3 := Lib.hid k3
  clear k1 k2 k3
  generalize hf : idleF ⟨now, ser, rs, ts⟩ n = f at hsm hiv ⊢
  obtain ⟨f1, f2⟩ := f
  dsimp only at hsm hiv
  by_cases hc : f1 = 0
  rotate_left
  · have hq : (f1 != 0) = true := by simpa using hc
    have HF := Lib.hid (show sleepM ⟨now, ser, rs, ts⟩ n d = (⟨0, 0, [], []⟩, (f1, f2)) by simp [sleepM, hf, hc])
    clear hc hf hsm hiv
    go_wp2
    go_region
    go_wp2
    refine bodyPost_ret (v := .tuple #[.agg #[.int .i64 0, .int .i64 0, .slice none 0 0, .slice none 0 0], .agg #[.int .i64 f1, .int .i64 f2]]) (by simp [results, Try.results12, go_sem, q0, q1, q2, q3, r0, r1, hz1, hx1]) rfl ?_
    rw [HF.out]
    exact ⟨_, rfl, zero_ckat _ _, (by repeat (first | (with_reducible exact hB1) | (with_reducible apply Below.drew) | ((with_reducible refine Below.setCell ?_ ?_ _); rotate_left; (focus (first | (simp; done) | (simp; omega)))) | ((with_reducible refine Below.alloc ?_ ?_ _); rotate_left; (focus (first | (simp; omega))))))⟩
  have hlen := hsm hc
  obtain ⟨tn, ts1⟩ := validate_times (hiv hc)
  obtain ⟨n1, n2⟩ := timeB_le tn
  obtain ⟨n3, n4⟩ := timeB_le ts1
  dsimp only at n1 n2 n3 n4
  subst hc
  clear hsm hiv tn ts1
  by_cases hd : d < 0 ∨ 1000000000 < d
  · have HF := Lib.hid (show sleepM ⟨now, ser, rs, ts⟩ n d = (⟨0, 0, [], []⟩, (4, -3)) by simp [sleepM, hf, hd])
    clear hf
    rcases hd with hd | hd
    · go_wp2
      refine bodyPost_ret (v := .tuple #[.agg #[.int .i64 0, .int .i64 0, .slice none 0 0, .slice none 0 0], .agg #[.int .i64 4, .int .i64 (-3)]]) (by simp [results, Try.results12, go_sem, q0, q1, q2, q3, r0, r1, hz1, hx1]) rfl ?_
      rw [HF.out]
      exact ⟨_, rfl, zero_ckat _ _, (by repeat (first | (with_reducible exact hB1) | ((with_reducible refine Below.setCell ?_ ?_ _); rotate_left; (focus (first | (simp; done) | (simp; omega)))) | ((with_reducible refine Below.alloc ?_ ?_ _); rotate_left; (focus (first | (simp; omega))))))⟩
    · have hd' : decide (d < 0) = false := by simp; omega
      go_wp2
      refine bodyPost_ret (v := .tuple #[.agg #[.int .i64 0, .int .i64 0, .slice none 0 0, .slice none 0 0], .agg #[.int .i64 4, .int .i64 (-3)]]) (by simp [results, Try.results12, go_sem, q0, q1, q2, q3, r0, r1, hz1, hx1]) rfl ?_
      rw [HF.out]
      exact ⟨_, rfl, zero_ckat _ _, (by repeat (first | (with_reducible exact hB1) | ((with_reducible refine Below.setCell ?_ ?_ _); rotate_left; (focus (first | (simp; done) | (simp; omega)))) | ((with_reducible refine Below.alloc ?_ ?_ _); rotate_left; (focus (first | (simp; omega))))))⟩
  have d1 : 0 ≤ d := by omega
  have d2 : d ≤ 1000000000 := by omega
  have d3 : decide (d < 0) = false := by simp; omega
  by_cases h0 : d = 0
  · have HF := Lib.hid (show sleepM ⟨now, ser, rs, ts⟩ n d = readyM ⟨now, ser, rs, ts⟩ n by simp [sleepM, hf, h0])
    have h0' : (d == 0) = true := by simp [h0]
    have HC := Lib.hid (fun o : Obj => ready_any ⟨now, ser, rs, ts⟩ _ n (w1.alloc o) ((Hv.out.below hB1).below ((Below.refl _ _).alloc (Nat.le_refl _) o)))
    clear hf hd h0
    go_wp2_with fail
    refine (HC.out _).mono ?_
    rintro e w2 ⟨v2, rfl, hv2, hb2⟩
    have hbB : Below (w.heap.size + 3) w1 w2 := Below.trans (by repeat (first | (with_reducible exact Below.refl _ _) | ((with_reducible refine Below.alloc ?_ ?_ _); rotate_left; (focus (omega))))) (hb2.mono (by first | (simp; omega)))
    have hB2 : Below w.heap.size w w2 := hB1.trans (hbB.mono (by omega))
    have hz2 : w.heap.size + 2 < w2.heap.size := Nat.lt_of_lt_of_le hz1 hbB.size
    obtain ⟨m, hm⟩ : ∃ m, readyM ⟨now, ser, rs, ts⟩ n = m := ⟨_, rfl⟩
    have HM := Lib.hid (HF.out.trans hm)
    rw [hm] at hv2 ⊢
    clear HF hm HC hb2
    obtain ⟨⟨a1, a2, a3, a4⟩, b1, b2⟩ := m
    have HV := Lib.hid hv2
    obtain ⟨A1, c1, A2, c2, rfl, hh⟩ := hv2
    clear p0 p1 p2 p3 p4 p5 p6 p7 q0 q1 q2 q3 q4 q5 q6 q7 r0 r1 r2 r3 hh
    obtain ⟨q0, q1, q2, q3, q4, q5, q6, q7⟩ := Blk.four ((hbB.block (w.heap.size + 1) (by omega)).trans K2.out)
    obtain ⟨r0, r1, r2, r3⟩ := Blk.two ((hbB.block (w.heap.size + 2) (by omega)).trans K3.out)
    dsimp only
    go_wp2
    refine bodyPost_ret (v := .tuple #[.agg #[.int .i64 a1, .int .i64 a2, .slice A1 a3.length c1, .slice A2 a4.length c2], .agg #[.int .i64 b1, .int .i64 b2]]) (by simp [results, Try.results12, go_sem, q0, q1, q2, q3, r0, r1]) rfl ?_
    rw [HM.out]
    refine ⟨_, rfl, CkIn.weaken (ok := (w1.heap.size ≤ ·)) ?_ (fun b hb => Nat.le_trans (Nat.le_of_lt hy1) hb), (by repeat (first | (with_reducible exact hB2) | ((with_reducible refine Below.setCell ?_ ?_ _); rotate_left; (focus (first | (simp; done) | (simp; omega))))))⟩
    repeat (refine CkIn.setCell ?_ (by simp; omega) _)
    exact HV.out.weaken (fun b hb => by simp at hb; omega)
  have h0' : (d == 0) = false := by simpa using h0
  cases hA : timeB (now + d)
  · have HF := Lib.hid (show sleepM ⟨now, ser, rs, ts⟩ n d = (⟨0, 0, [], []⟩, (14, -3)) by simp [sleepM, hf, hd, h0, hA])
    clear hf hd h0
    go_wp2_with (go_at_call 35; refine (time_any _ _).mono ?_; rintro e w' ⟨rfl, rfl⟩)
    refine bodyPost_ret (v := .tuple #[.agg #[.int .i64 0, .int .i64 0, .slice none 0 0, .slice none 0 0], .agg #[.int .i64 14, .int .i64 (-3)]]) (by simp [results, Try.results12, go_sem, q0, q1, q2, q3, r0, r1, hz1, hx1]) rfl ?_
    rw [HF.out]
    exact ⟨_, rfl, zero_ckat _ _, (by repeat (first | (with_reducible exact hB1) | ((with_reducible refine Below.setCell ?_ ?_ _); rotate_left; (focus (first | (simp; done) | (simp; omega)))) | ((with_reducible refine Below.alloc ?_ ?_ _); rotate_left; (focus (first | (simp; omega))))))⟩
  cases hS : timeB (ser + 1)
  · have HF := Lib.hid (show sleepM ⟨now, ser, rs, ts⟩ n d = (⟨0, 0, [], []⟩, (14, -3)) by simp [sleepM, hf, hd, h0, hA, hS])
    clear hf hd h0
    go_wp2_with (go_at_call 35; refine (time_any _ _).mono ?_; rintro e w' ⟨rfl, rfl⟩)
    refine bodyPost_ret (v := .tuple #[.agg #[.int .i64 0, .int .i64 0, .slice none 0 0, .slice none 0 0], .agg #[.int .i64 14, .int .i64 (-3)]]) (by simp [results, Try.results12, go_sem, q0, q1, q2, q3, r0, r1, hz1, hx1]) rfl ?_
    rw [HF.out]
    exact ⟨_, rfl, zero_ckat _ _, (by repeat (first | (with_reducible exact hB1) | ((with_reducible refine Below.setCell ?_ ?_ _); rotate_left; (focus (first | (simp; done) | (simp; omega)))) | ((with_reducible refine Below.alloc ?_ ?_ _); rotate_left; (focus (first | (simp; omega))))))⟩
  have HF := Lib.hid (show sleepM ⟨now, ser, rs, ts⟩ n d = (⟨now, ser + 1, rs, insT ts (bsf ts (newT ⟨now, ser, rs, ts⟩ n d)) (newT ⟨now, ser, rs, ts⟩ n d)⟩, (0, 0)) by simp [sleepM, hf, hd, h0, hA, hS])
  clear hf hd h0
  have HC := Lib.hid (fun o : Obj => clone_any ⟨now, ser, rs, ts⟩ _ (w1.alloc o) ((Hv.out.below hB1).below ((Below.refl _ _).alloc (Nat.le_refl _) o)) (by dsimp only; omega))
  go_wp2_with (go_at_call 35; refine (time_any _ _).mono ?_; rintro e w' ⟨rfl, rfl⟩)
  refine (HC.out _).mono ?_
  rintro e w2 ⟨A1, c1, A2, c2, rfl, ho1, ho2, hb2⟩
  have hbB : Below (w.heap.size + 3) w1 w2 := Below.trans (by repeat (first | (with_reducible exact Below.refl _ _) | ((with_reducible refine Below.alloc ?_ ?_ _); rotate_left; (focus (omega))))) (hb2.mono (by first | (simp; omega)))
  have hB2 : Below w.heap.size w w2 := hB1.trans (hbB.mono (by omega))
  have l1 : Blk w2 w.heap.size 25 _ := (hbB.block w.heap.size (by omega)).trans K1.out
  have l2 : Blk w2 (w.heap.size + 1) 25 _ := (hbB.block (w.heap.size + 1) (by omega)).trans K2.out
  have l3 : Blk w2 (w.heap.size + 2) 27 _ := (hbB.block (w.heap.size + 2) (by omega)).trans K3.out
  replace ho1 := own_mono (base' := w.heap.size + 3) ho1 (by first | (simp; omega))
  replace ho2 := own_mono (base' := w.heap.size + 3) ho2 (by first | (simp; omega))
  have hz2 : w.heap.size + 2 < w2.heap.size := Nat.lt_of_lt_of_le hz1 hbB.size
  clear p0 p1 p2 p3 p4 p5 p6 p7 q0 q1 q2 q3 q4 q5 q6 q7 r0 r1 r2 r3 hb2 hbB HC K1 K2 K3
  obtain ⟨p0, p1, p2, p3, p4, p5, p6, p7⟩ := l1.four
  have hy2 : w.heap.size < w2.heap.size := by omega
  have L1 := Lib.hid l1; have L2 := Lib.hid l2; have L3 := Lib.hid l3
  clear l1 l2 l3
  dsimp only
  go_upto_region 11 with (fail)
  have m1 := L1.out.set4 (.int .i64 now) (.int .i64 ser) (.slice A1 rs.length c1) (.slice A2 ts.length c2)
  have m2 := L2.out.far4 (g' := w.heap.size) (by omega) (.int .i64 now) (.int .i64 ser) (.slice A1 rs.length c1) (.slice A2 ts.length c2)
  have m3 := L3.out.far4 (g' := w.heap.size) (by omega) (.int .i64 now) (.int .i64 ser) (.slice A1 rs.length c1) (.slice A2 ts.length c2)
  have o1 := own_box4 (g := w.heap.size) ho1 (by omega) (.int .i64 now) (.int .i64 ser) (.slice A1 rs.length c1) (.slice A2 ts.length c2)
  have o2 := own_box4 (g := w.heap.size) ho2 (by omega) (.int .i64 now) (.int .i64 ser) (.slice A1 rs.length c1) (.slice A2 ts.length c2)
  have hB3 := below_box4 (g := w.heap.size) hB2 (Nat.le_refl _) (.int .i64 now) (.int .i64 ser) (.slice A1 rs.length c1) (.slice A2 ts.length c2)
  have hz3 : w.heap.size + 2 < ((((w2.setCell ⟨w.heap.size, 0, none⟩ (.int .i64 now)).setCell ⟨w.heap.size, 1, none⟩ (.int .i64 ser)).setCell ⟨w.heap.size, 2, none⟩ (.slice A1 rs.length c1)).setCell ⟨w.heap.size, 3, none⟩ (.slice A2 ts.length c2)).heap.size := by simp [World.setCell]; omega
  generalize ((((w2.setCell ⟨w.heap.size, 0, none⟩ (.int .i64 now)).setCell ⟨w.heap.size, 1, none⟩ (.int .i64 ser)).setCell ⟨w.heap.size, 2, none⟩ (.slice A1 rs.length c1)).setCell ⟨w.heap.size, 3, none⟩ (.slice A2 ts.length c2)) = w3 at *
  clear p0 p1 p2 p3 p4 p5 p6 p7 L1 L2 L3 ho1 ho2 hB2 hz2 hy2
  obtain ⟨p0, p1, p2, p3, p4, p5, p6, p7⟩ := m1.four
  have hy3 : w.heap.size < w3.heap.size := by omega
  have HM := Lib.hid (And.intro m1 (And.intro m2 m3))
  clear m1 m2 m3
  go_upto_region 13 with (fail)
  obtain ⟨m1, m2, m3⟩ := HM.out
  have m4 : Blk ((w3.setCell ⟨w.heap.size, 1, none⟩ (.int .i64 (ser + 1))).alloc (.cells #[.int .i64 (now + d), .int .i64 ser, .int .i64 n] 46)) w.heap.size 25 #[.int .i64 now, .int .i64 (ser + 1), .slice A1 rs.length c1, .slice A2 ts.length c2] := (show Blk (w3.setCell ⟨w.heap.size, 1, none⟩ (.int .i64 (ser + 1))) w.heap.size 25 _ by simpa using m1.set 1 (.int .i64 (ser + 1))).alloc _
  have m5 := (m2.far (p := ⟨w.heap.size, 1, none⟩) (by simp) (.int .i64 (ser + 1))).alloc (.cells #[.int .i64 (now + d), .int .i64 ser, .int .i64 n] 46)
  have m6 := (m3.far (p := ⟨w.heap.size, 1, none⟩) (by simp) (.int .i64 (ser + 1))).alloc (.cells #[.int .i64 (now + d), .int .i64 ser, .int .i64 n] 46)
  have tb : Blk ((w3.setCell ⟨w.heap.size, 1, none⟩ (.int .i64 (ser + 1))).alloc (.cells #[.int .i64 (now + d), .int .i64 ser, .int .i64 n] 46)) w3.heap.size 46 #[.int .i64 (now + d), .int .i64 ser, .int .i64 n] := by
    have := Blk.new (w3.setCell ⟨w.heap.size, 1, none⟩ (.int .i64 (ser + 1))) 46 #[.int .i64 (now + d), .int .i64 ser, .int .i64 n]
    rwa [show (w3.setCell ⟨w.heap.size, 1, none⟩ (.int .i64 (ser + 1))).heap.size = w3.heap.size by simp [World.setCell]] at this
  have o3 := (own_box1 (g := w.heap.size) (i := 1) o1 (by omega) (.int .i64 (ser + 1))).alloc (.cells #[.int .i64 (now + d), .int .i64 ser, .int .i64 n] 46)
  have o4 := (own_box1 (g := w.heap.size) (i := 1) o2 (by omega) (.int .i64 (ser + 1))).alloc (.cells #[.int .i64 (now + d), .int .i64 ser, .int .i64 n] 46)
  have hB4 : Below w.heap.size w ((w3.setCell ⟨w.heap.size, 1, none⟩ (.int .i64 (ser + 1))).alloc (.cells #[.int .i64 (now + d), .int .i64 ser, .int .i64 n] 46)) := (hB3.setCell (p := ⟨w.heap.size, 1, none⟩) (Nat.le_refl _) _).alloc (by simp [World.setCell]; omega) _
  have hz4 : ((w3.setCell ⟨w.heap.size, 1, none⟩ (.int .i64 (ser + 1))).alloc (.cells #[.int .i64 (now + d), .int .i64 ser, .int .i64 n] 46)).heap.size = w3.heap.size + 1 := by simp [World.setCell]
  generalize ((w3.setCell ⟨w.heap.size, 1, none⟩ (.int .i64 (ser + 1))).alloc (.cells #[.int .i64 (now + d), .int .i64 ser, .int .i64 n] 46)) = w4 at *
  have hw4 : w.heap.size + 3 ≤ w4.heap.size := by omega
  have hw4' : w3.heap.size < w4.heap.size := by omega
  clear p0 p1 p2 p3 p4 p5 p6 p7 m1 m2 m3 HM o1 o2 hB3 hz4
  obtain ⟨p0, p1, p2, p3, p4, p5, p6, p7⟩ := m4.four
  obtain ⟨t0, t1, t2, t3, t4, t5⟩ := tb.three
  have M := Lib.hid (And.intro m4 (And.intro m5 (And.intro m6 tb)))
  clear m4 m5 m6 tb
  go_wp2_with fail
  refine (bsearch_any A2 c2 ts ⟨now + d, ser, n⟩ _ (Rd.of_own o4) (by omega)).mono ?_
  rintro e w5 ⟨fb, rfl, hb5⟩
  have hi := bsf_le ts ⟨now + d, ser, n⟩
  have HI := Lib.hid (show newT ⟨now, ser, rs, ts⟩ n d = ⟨now + d, ser, n⟩ from rfl)
  generalize hbi : bsf ts ⟨now + d, ser, n⟩ = bi at *
  have HBI := Lib.hid hbi; clear hbi
  obtain ⟨m4, m5, m6, tb⟩ := M.out
  have n4' := m4.below' hb5
  have n5' := m5.below' hb5
  have n6' := m6.below' hb5
  have tb' := tb.below' hb5
  have o5 := own_below o3 hb5
  have o6 := own_below o4 hb5
  have hB5 : Below w.heap.size w w5 := hB4.trans (hb5.mono (by omega))
  have hw5 : w.heap.size + 3 ≤ w5.heap.size := Nat.le_trans hw4 hb5.size
  have hw5' : w3.heap.size < w5.heap.size := Nat.lt_of_lt_of_le hw4' hb5.size
  clear p0 p1 p2 p3 p4 p5 p6 p7 t0 t1 t2 t3 t4 t5 m4 m5 m6 tb M o3 o4 hB4 hb5 hw4 hw4' hy3 hz3
  obtain ⟨p0, p1, p2, p3, p4, p5, p6, p7⟩ := n4'.four
  obtain ⟨t0, t1, t2, t3, t4, t5⟩ := tb'.three
  have M := Lib.hid (And.intro n4' (And.intro n5' n6'))
  have HI5 := Lib.hid (insert_any (w.heap.size + 3) A2 c2 bi ts ⟨now + d, ser, n⟩ w5.heap.size (w5.alloc (.cells #[.int .i64 (now + d), .int .i64 ser, .int .i64 n] 46)) (o6.alloc _) (by simp; omega) (Blk.new _ _ _) (by omega) hi (fun e => by have := (o6.lt _ e.symm).2; omega))
  clear n4' n5' n6' tb'
  dsimp only
  go_wp2_with fail
  refine HI5.out.mono ?_
  rintro e w6 ⟨A6, c6, rfl, ho6, hg6⟩
  obtain ⟨m4, m5, m6⟩ := M.out
  have z4 := (hg6.block w.heap.size (by simp; omega) (own_ne o6 (by omega))).trans (m4.alloc _)
  have z5 := (hg6.block (w.heap.size + 1) (by simp; omega) (own_ne o6 (by omega))).trans (m5.alloc _)
  have z6 := (hg6.block (w.heap.size + 2) (by simp; omega) (own_ne o6 (by omega))).trans (m6.alloc _)
  have o7 := own_other (o5.alloc _) (o6.alloc _) (by decide) hg6
  have hB6 : Below w.heap.size w w6 := Below.app (hB5.alloc (by omega) _) (o6.alloc _) hg6 (by omega) (by simp; omega)
  clear p0 p1 p2 p3 p4 p5 p6 p7 t0 t1 t2 t3 t4 t5 m4 m5 m6 M HI5 hg6 o5 o6 hB5
  obtain ⟨p0, p1, p2, p3, p4, p5, p6, p7⟩ := Blk.four z4
  obtain ⟨q0, q1, q2, q3, q4, q5, q6, q7⟩ := Blk.four z5
  obtain ⟨r0, r1, r2, r3⟩ := Blk.two z6
  clear z4 z5 z6
  dsimp only
  go_wp2
  refine bodyPost_ret (v := .tuple #[.agg #[.int .i64 now, .int .i64 (ser + 1), .slice A1 rs.length c1, .slice A6 (ts.length + 1) c6], .agg #[.int .i64 0, .int .i64 0]]) (by simp [results, Try.results12, go_sem, q0, q1, q2, q3, r0, r1]) rfl ?_
  rw [HF.out, HI.out, HBI.out]
  have hl1 := insT_length ts bi ⟨now + d, ser, n⟩ hi
  rw [← hl1] at ho6
  refine ⟨_, by rw [← hl1], ckin_of_own (b1 := w.heap.size + 3) (b2 := w.heap.size + 3) ?_ ?_ (by omega) (by omega) (by omega) (by omega), (by repeat (first | (with_reducible exact hB6) | ((with_reducible refine Below.setCell ?_ ?_ _); rotate_left; (focus (first | (simp; done) | (simp; omega))))))⟩
  · repeat (refine ownsRow_setCell_below ?_ (by simp; try omega) _)
    exact o7
  · repeat (refine ownsRow_setCell_below ?_ (by simp; try omega) _)
    exact ho6
end Go.Proofs.Ytgiebofmfkacgaa
namespace Go.Proofs.Ytgiebofmfkacgaa
open Go.RowKit

/-- One step of the loop of Next: the first timer's task goes into the queue. -/
def fireF : Nat → Int → List Int → List Tm → List Int × List Tm
  | 0, _, rs, ts => (rs, ts)
  | _ + 1, _, rs, [] => (rs, [])
  | f + 1, now, rs, t :: ts => if t.at_ == now then fireF f now (rs ++ [t.task]) ts else (rs, t :: ts)
def fire (c : Ck) : Ck := match c.rs, c.ts with
  | [], t :: l => ⟨t.at_, c.ser, (fireF (t :: l).length t.at_ [] (t :: l)).1, (fireF (t :: l).length t.at_ [] (t :: l)).2⟩
  | _, _ => c
def popM (c : Ck) : Ck × (Int × (Int × Int)) := match c.rs with
  | [] => (⟨0, 0, [], []⟩, (0, (10, -1)))
  | n :: l => (⟨c.now, c.ser, l, c.ts⟩, (n, (0, 0)))
def nextM (c : Ck) : Ck × (Int × (Int × Int)) := if (validate c).1 = 0 then popM (fire c) else (⟨0, 0, [], []⟩, (0, validate c))
/-- A post that is kept whole. -/
def RetN (m : Ck × (Int × (Int × Int))) (w : World) (e : Ending) (w' : World) : Prop := ∃ v, e = .returned (.tuple #[v, .int .i64 m.2.1, flt m.2.2]) ∧ CkIn w' (w.heap.size ≤ ·) m.1 v ∧ Below w.heap.size w w'

theorem queueT_length (ts : List Tm) (k : Nat) (h : k ≤ ts.length) : ((ts.take k).map (·.task)).length = k := by simp; omega
theorem fireF_hit (ts : List Tm) (a : Int) (k m : Nat) (hk : k < ts.length) (h : (ts[k].at_ == a) = true) :
    fireF (m + 1) a ((ts.take k).map (·.task)) (ts.drop k) = fireF m a ((ts.take (k + 1)).map (·.task)) (ts.drop (k + 1)) := by
  rw [List.drop_eq_getElem_cons hk, List.take_succ_eq_append_getElem hk]; simp only [fireF, h, if_true, List.map_append, List.map_cons, List.map_nil]
theorem fireF_miss (ts : List Tm) (a : Int) (k m : Nat) (hk : k < ts.length) (h : (ts[k].at_ == a) = false) :
    fireF (m + 1) a ((ts.take k).map (·.task)) (ts.drop k) = ((ts.take k).map (·.task), ts.drop k) := by
  rw [List.drop_eq_getElem_cons hk]; simp only [fireF, h, Bool.false_eq_true, if_false]
def queueT (ts : List Tm) (k : Nat) : List Int := (ts.take k).map (·.task)
theorem queueT_succ (ts : List Tm) (k : Nat) (h : k < ts.length) : queueT ts (k + 1) = queueT ts k ++ [ts[k].task] := by
  unfold queueT; rw [List.take_succ_eq_append_getElem h, List.map_append]; rfl

set_option maxHeartbeats 2000000 in
theorem next_any (c : Ck) (v : Value) (w : World) (hv : CkAt w c v) :
    Calls Try.prog 23 #[v] w (RetN (nextM c) w) := by
  have hv0 := hv
  obtain ⟨now, ser, rs, ts⟩ := c
  obtain ⟨RA, rc, TA, tc, rfl, hr, ht, hrc, htc, hrl, htl⟩ := hv
  dsimp only at hr ht hrc htc hrl htl ⊢
  have Hv := Lib.hid hv0; clear hv0
  go_enter Try.func23, Try.ntmps23
  go_wp2_with fail
  refine (validate_any _ _ _ (Hv.out.below (by repeat (first | (with_reducible exact Below.refl _ _) | ((with_reducible refine Below.alloc ?_ ?_ _); rotate_left; (focus (first | (simp; done) | (simp; omega)))))))).mono ?_
  rintro e w1 ⟨rfl, hb1⟩
  obtain ⟨k1, k2, k3, hz1⟩ := box3 (w := w) hb1 rfl (by simp)
  have hy1 : w.heap.size < w1.heap.size := by omega
  have hx1 : w.heap.size + 1 < w1.heap.size := by omega
  have hB1 : Below w.heap.size w w1 := Below.trans (by repeat (first | (with_reducible exact Below.refl _ _) | ((with_reducible refine Below.alloc ?_ ?_ _); rotate_left; (focus (first | (simp; done) | (simp; omega)))))) (hb1.mono (by simp; omega))
  clear hb1
  have hsm := @validate_small ⟨now, ser, rs, ts⟩
  obtain ⟨p0, p1, p2, p3, p4, p5, p6, p7⟩ := Blk.four k1
  obtain ⟨q0, q1, q2, q3, q4, q5, q6, q7⟩ := Blk.four k2
  obtain ⟨r0, r1, r2, r3⟩ := Blk.two k3
  have K1 := Lib.hid k1; have K2 := Lib.hid k2; have K3 := Lib.hid k3
  clear k1 k2 k3
  generalize hf : validate ⟨now, ser, rs, ts⟩ = f at hsm ⊢
  obtain ⟨f1, f2⟩ := f
  dsimp only at hsm
  by_cases hc : f1 = 0
  rotate_left
  · have hq : (f1 != 0) = true := by simpa using hc
    have HF := Lib.hid (show nextM ⟨now, ser, rs, ts⟩ = (⟨0, 0, [], []⟩, (0, (f1, f2))) by simp [nextM, hf, hc])
    clear hc hf hsm
    go_wp2
    go_region
    go_wp2
    refine bodyPost_ret (v := .tuple #[.agg #[.int .i64 0, .int .i64 0, .slice none 0 0, .slice none 0 0], .int .i64 0, .agg #[.int .i64 f1, .int .i64 f2]]) (by simp [results, Try.results23, go_sem, q0, q1, q2, q3, r0, r1, hz1, hx1]) rfl ?_
    rw [HF.out]
    exact ⟨_, rfl, zero_ckat _ _, (by repeat (first | (with_reducible exact hB1) | (with_reducible apply Below.drew) | ((with_reducible refine Below.setCell ?_ ?_ _); rotate_left; (focus (first | (simp; done) | (simp; omega)))) | ((with_reducible refine Below.alloc ?_ ?_ _); rotate_left; (focus (first | (simp; omega))))))⟩
  have hlen := hsm hc
  subst hc
  have HF := Lib.hid (show nextM ⟨now, ser, rs, ts⟩ = popM (fire ⟨now, ser, rs, ts⟩) by simp [nextM, hf])
  clear hsm hf
  have HC := Lib.hid (fun o : Obj => clone_any ⟨now, ser, rs, ts⟩ _ (w1.alloc o) ((Hv.out.below hB1).below ((Below.refl _ _).alloc (Nat.le_refl _) o)) (by dsimp only; omega))
  go_wp2_with fail
  refine (HC.out _).mono ?_
  rintro e w2 ⟨A1, c1, A2, c2, rfl, ho1, ho2, hb2⟩
  have hbB : Below (w.heap.size + 3) w1 w2 := Below.trans (by repeat (first | (with_reducible exact Below.refl _ _) | ((with_reducible refine Below.alloc ?_ ?_ _); rotate_left; (focus (omega))))) (hb2.mono (by first | (simp; omega)))
  have hB2 : Below w.heap.size w w2 := hB1.trans (hbB.mono (by omega))
  have l1 : Blk w2 w.heap.size 25 _ := (hbB.block w.heap.size (by omega)).trans K1.out
  have l2 : Blk w2 (w.heap.size + 1) 25 _ := (hbB.block (w.heap.size + 1) (by omega)).trans K2.out
  have l3 : Blk w2 (w.heap.size + 2) 27 _ := (hbB.block (w.heap.size + 2) (by omega)).trans K3.out
  replace ho1 := own_mono (base' := w.heap.size + 3) ho1 (by first | (simp; omega))
  replace ho2 := own_mono (base' := w.heap.size + 3) ho2 (by first | (simp; omega))
  have hz2 : w.heap.size + 2 < w2.heap.size := Nat.lt_of_lt_of_le hz1 hbB.size
  clear p0 p1 p2 p3 p4 p5 p6 p7 q0 q1 q2 q3 q4 q5 q6 q7 r0 r1 r2 r3 hb2 hbB HC K1 K2 K3
  obtain ⟨p0, p1, p2, p3, p4, p5, p6, p7⟩ := l1.four
  have hy2 : w.heap.size < w2.heap.size := by omega
  have L1 := Lib.hid l1; have L2 := Lib.hid l2; have L3 := Lib.hid l3
  clear l1 l2 l3
  dsimp only
  go_upto_region 5 with (fail)
  have m1 := L1.out.set4 (.int .i64 now) (.int .i64 ser) (.slice A1 rs.length c1) (.slice A2 ts.length c2)
  have m2 := L2.out.far4 (g' := w.heap.size) (by omega) (.int .i64 now) (.int .i64 ser) (.slice A1 rs.length c1) (.slice A2 ts.length c2)
  have m3 := L3.out.far4 (g' := w.heap.size) (by omega) (.int .i64 now) (.int .i64 ser) (.slice A1 rs.length c1) (.slice A2 ts.length c2)
  have o1 := own_box4 (g := w.heap.size) ho1 (by omega) (.int .i64 now) (.int .i64 ser) (.slice A1 rs.length c1) (.slice A2 ts.length c2)
  have o2 := own_box4 (g := w.heap.size) ho2 (by omega) (.int .i64 now) (.int .i64 ser) (.slice A1 rs.length c1) (.slice A2 ts.length c2)
  have hB3 := below_box4 (g := w.heap.size) hB2 (Nat.le_refl _) (.int .i64 now) (.int .i64 ser) (.slice A1 rs.length c1) (.slice A2 ts.length c2)
  have hz3 : w.heap.size + 2 < ((((w2.setCell ⟨w.heap.size, 0, none⟩ (.int .i64 now)).setCell ⟨w.heap.size, 1, none⟩ (.int .i64 ser)).setCell ⟨w.heap.size, 2, none⟩ (.slice A1 rs.length c1)).setCell ⟨w.heap.size, 3, none⟩ (.slice A2 ts.length c2)).heap.size := by simp [World.setCell]; omega
  generalize ((((w2.setCell ⟨w.heap.size, 0, none⟩ (.int .i64 now)).setCell ⟨w.heap.size, 1, none⟩ (.int .i64 ser)).setCell ⟨w.heap.size, 2, none⟩ (.slice A1 rs.length c1)).setCell ⟨w.heap.size, 3, none⟩ (.slice A2 ts.length c2)) = w3 at *
  clear p0 p1 p2 p3 p4 p5 p6 p7 L1 L2 L3 ho1 ho2 hB2 hz2 hy2
  obtain ⟨p0, p1, p2, p3, p4, p5, p6, p7⟩ := m1.four
  obtain ⟨q0, q1, q2, q3, q4, q5, q6, q7⟩ := m2.four
  obtain ⟨r0, r1, r2, r3⟩ := m3.two
  have hcap1 : rs.length ≤ c1 := by obtain ⟨A', c', ev, h1, h2⟩ := own_form o1; injection ev with e1 e2 e3; omega
  have hcap2 : ts.length ≤ c2 := by obtain ⟨A', c', ev, h1, h2⟩ := own_form o2; injection ev with e1 e2 e3; omega
  by_cases hrs : rs = []
  rotate_left
  · obtain ⟨n, l, hnl⟩ : ∃ n l, rs = n :: l := by cases rs with | nil => exact absurd rfl hrs | cons n l => exact ⟨n, l, rfl⟩
    subst hnl
    clear hrs
    obtain ⟨b, o, hA, hb, hcell⟩ := (Rd.of_own o1).int (k := 0) (by simp)
    have hcut := (RdIn.of_own o1).cut (size := 1) (n := (n :: l).length) (k := 1) (cap := c1) (by simp [ints]) (by simp) hcap1
    subst hA
    have RT := Lib.hid (RdIn.of_own o2)
    have HCUT := Lib.hid (show RdIn w3 (w.heap.size + 3 ≤ ·) (if c1 = 1 then some ⟨b, o, none⟩ else some ⟨b, o + 1, none⟩) (ints l) by simpa [Addr.add, ints] using hcut)
    have HN := Lib.hid (show popM (fire ⟨now, ser, n :: l, ts⟩) = (⟨now, ser, l, ts⟩, (n, (0, 0))) by simp [popM, fire])
    have hcell' : w3.cell? ⟨b, o, none⟩ = some (.int .i64 n) := by simpa using hcell
    clear hcut m1 m2 m3 hcell o1 Hv hr
    simp only [List.length_cons] at *
    have hq : (((l.length + 1 : Nat) : Int) == 0) = false := by rw [beq_eq_false_iff_ne]; omega
    have hq' : (((l.length : Int) + 1) == 0) = false := by rw [beq_eq_false_iff_ne]; omega
    have i1 : (0 : Int) < (l.length : Int) + 1 := by omega
    have i2 : (1 : Int) ≤ (l.length : Int) + 1 := by omega
    have i3 : (1 : Int) ≤ (c1 : Int) := by omega
    by_cases hc1 : c1 = 1
    · subst hc1
      obtain rfl : l = [] := List.eq_nil_of_length_eq_zero (by omega)
      go_wp2
      refine bodyPost_ret (v := .tuple #[.agg #[.int .i64 now, .int .i64 ser, .slice (some ⟨b, o, none⟩) 0 0, .slice A2 ts.length c2], .int .i64 n, .agg #[.int .i64 0, .int .i64 0]]) (by simp [results, Try.results23, go_sem, q0, q1, q2, q3, r0, r1]) rfl ?_
      rw [HF.out, HN.out]
      refine ⟨_, rfl, CkIn.weaken (ok := (w.heap.size + 3 ≤ ·)) ?_ (fun b hb => Nat.le_trans (by omega) hb), (by repeat (first | (with_reducible exact hB3) | ((with_reducible refine Below.setCell ?_ ?_ _); rotate_left; (focus (first | (simp; done) | (simp; omega))))))⟩
      repeat (refine CkIn.setCell ?_ (by simp; try omega) _)
      refine ⟨_, _, _, _, rfl, RdIn.nil, RT.out, by dsimp only; omega, hcap2, by dsimp only; omega, by dsimp only; omega⟩
    · go_wp2
      refine bodyPost_ret (v := .tuple #[.agg #[.int .i64 now, .int .i64 ser, .slice (some ⟨b, o + 1, none⟩) l.length (c1 - 1), .slice A2 ts.length c2], .int .i64 n, .agg #[.int .i64 0, .int .i64 0]]) (by simp [results, Try.results23, go_sem, q0, q1, q2, q3, r0, r1]) rfl ?_
      rw [HF.out, HN.out]
      refine ⟨_, rfl, CkIn.weaken (ok := (w.heap.size + 3 ≤ ·)) ?_ (fun b hb => Nat.le_trans (by omega) hb), (by repeat (first | (with_reducible exact hB3) | ((with_reducible refine Below.setCell ?_ ?_ _); rotate_left; (focus (first | (simp; done) | (simp; omega))))))⟩
      repeat (refine CkIn.setCell ?_ (by simp; try omega) _)
      refine ⟨_, _, _, _, rfl, by simpa [hc1] using HCUT.out, RT.out, by dsimp only; omega, hcap2, by dsimp only; omega, by dsimp only; omega⟩
  subst hrs
  by_cases hts : ts = []
  · subst hts
    have HN := Lib.hid (show popM (fire ⟨now, ser, [], []⟩) = (⟨0, 0, [], []⟩, (0, (10, -1))) by simp [popM, fire])
    clear m1 m2 m3
    go_wp2
    refine bodyPost_ret (v := .tuple #[.agg #[.int .i64 0, .int .i64 0, .slice none 0 0, .slice none 0 0], .int .i64 0, .agg #[.int .i64 10, .int .i64 (-1)]]) (by simp [results, Try.results23, go_sem, q0, q1, q2, q3, r0, r1]) rfl ?_
    rw [HF.out, HN.out]
    exact ⟨_, rfl, zero_ckat _ _, (by repeat (first | (with_reducible exact hB3) | ((with_reducible refine Below.setCell ?_ ?_ _); rotate_left; (focus (first | (simp; done) | (simp; omega))))))⟩
  have htpos : 0 < ts.length := List.length_pos_iff.2 hts
  obtain ⟨g2, o2', hA, hb, hc0, hc1, hc2⟩ := (Rd.of_own o2).tm htpos
  have hg2 : o2' = 0 := by
    rcases o2.2 with ⟨hv, h⟩ | ⟨g, cap, cur, hv, _⟩
    · injection hv with e1; rw [e1] at hA; cases hA
    · injection hv with e1; rw [e1] at hA; simp at hA; exact hA.2.symm
  subst hg2
  subst hA
  have HN := Lib.hid (show fire ⟨now, ser, [], ts⟩ = ⟨ts[0].at_, ser, (fireF ts.length ts[0].at_ [] ts).1, (fireF ts.length ts[0].at_ [] ts).2⟩ by
    cases ts with
    | nil => exact absurd rfl hts
    | cons t l => simp [fire])
  clear hts
  have i1 : (0 : Int) < (ts.length : Int) := by omega
  have hc0' : w3.cell? ⟨g2, 0, none⟩ = some (.int .i64 ts[0].at_) := by simpa using hc0
  have M := Lib.hid (And.intro m1 (And.intro m2 m3))
  clear m1 m2 m3 hc0 hc1 hc2
  go_upto_region 7 with (fail)
  obtain ⟨m1, m2, m3⟩ := M.out
  have n1 : Blk (w3.setCell ⟨w.heap.size, 0, none⟩ (.int .i64 ts[0].at_)) w.heap.size 25 #[.int .i64 ts[0].at_, .int .i64 ser, .slice A1 0 c1, .slice (some ⟨g2, 0, none⟩) ts.length c2] := by simpa using m1.set 0 (.int .i64 ts[0].at_)
  have n2 := m2.far (p := ⟨w.heap.size, 0, none⟩) (by simp) (.int .i64 ts[0].at_)
  have n3 := m3.far (p := ⟨w.heap.size, 0, none⟩) (by simp) (.int .i64 ts[0].at_)
  have o3 := own_box1 (g := w.heap.size) (i := 0) o1 (by omega) (.int .i64 ts[0].at_)
  have o4 := own_box1 (g := w.heap.size) (i := 0) o2 (by omega) (.int .i64 ts[0].at_)
  have hB4 : Below w.heap.size w (w3.setCell ⟨w.heap.size, 0, none⟩ (.int .i64 ts[0].at_)) := hB3.setCell (p := ⟨w.heap.size, 0, none⟩) (Nat.le_refl _) _
  generalize (w3.setCell ⟨w.heap.size, 0, none⟩ (.int .i64 ts[0].at_)) = w4 at *
  generalize hat : ts[0].at_ = at0 at *
  have HAT := Lib.hid hat
  clear hat p0 p1 p2 p3 p4 p5 p6 p7 q0 q1 q2 q3 q4 q5 q6 q7 r0 r1 r2 r3 M m1 m2 m3 o1 o2 hB3 hc0' hb hz3 hcap1 Hv hr
  simp only [List.length_nil] at *
  go_loopg [32] ts.length (fun gh _ wr => ∃ (k m : Nat) (A : Option Addr) (c : Nat) (B : Option Addr) (cc : Nat), m ≤ gh ∧ Hid (k + m = ts.length) ∧ (0 < m → B = some ⟨g2, k * 3, none⟩) ∧ m ≤ cc ∧ Hid (fireF ts.length at0 [] ts = fireF m at0 (queueT ts k) (ts.drop k)) ∧
      Blk wr w.heap.size 25 #[.int .i64 at0, .int .i64 ser, .slice A k c, .slice B m cc] ∧ Blk wr (w.heap.size + 1) 25 #[.int .i64 0, .int .i64 0, .slice none 0 0, .slice none 0 0] ∧ Blk wr (w.heap.size + 2) 27 #[.int .i64 0, .int .i64 0] ∧
      wr.ownsRow (w.heap.size + 3) 3 1 (.slice A k c) k (ints (queueT ts k)) ∧ wr.ownsRow (w.heap.size + 3) 46 3 (.slice (some ⟨g2, 0, none⟩) ts.length c2) ts.length (rows Tm.cells ts) ∧ Below w.heap.size w wr)
  case atStart => exact ⟨0, ts.length, A1, c1, _, c2, Nat.le_refl _, Lib.hid (by omega), fun _ => by simp, hcap2, Lib.hid rfl, n1, n2, n3, o3, o4, hB4⟩
  case round =>
    clear n1 n2 n3 o3 o4 hB4
    obtain ⟨k, m, A, c, B, cc, hgh, HKM, hB, hcc, HFI, n1, n2, n3, o3, o4, hBl⟩ := hrel
    obtain ⟨p0, p1, p2, p3, p4, p5, p6, p7⟩ := n1.four
    rcases Nat.eq_zero_or_pos m with hm0 | hmp
    · have hmz : decide (0 < m) = false := by simp; omega
      have HM0 := Lib.hid hm0; clear hm0
      have hk0 : 0 < k := by have := HKM.out; have := HM0.out; omega
      obtain ⟨kk, rfl⟩ : ∃ kk, k = kk + 1 := ⟨k - 1, by omega⟩
      obtain ⟨q, l, hql⟩ : ∃ q l, queueT ts (kk + 1) = q :: l := by
        have := queueT_length ts (kk + 1) (by have := HKM.out; omega)
        cases hq : queueT ts (kk + 1) with
        | nil => rw [queueT] at hq; rw [hq] at this; cases this
        | cons q l => exact ⟨q, l, rfl⟩
      have hll : l.length = kk := by
        have := queueT_length ts (kk + 1) (by have := HKM.out; omega)
        rw [← queueT, hql] at this; simpa using this
      have RB := Lib.hid (show RdIn wr (w.heap.size + 3 ≤ ·) B (rows Tm.cells (ts.drop (kk + 1))) by
        intro hn
        have hmp : 0 < m := by
          rw [rows_length Tm.cells_length, List.length_drop] at hn
          have := HKM.out; omega
        obtain ⟨b, o, e1, e2, e3, e4⟩ := RdIn.of_own o4 (by rw [rows_length Tm.cells_length]; omega)
        simp at e1
        obtain ⟨rfl, rfl⟩ := e1
        refine ⟨g2, (kk + 1) * 3, hB hmp, e2, e3, fun j u hu => ?_⟩
        have := e4 ((kk + 1) * 3 + j) u (by rw [rows_drop Tm.cells_length, List.getElem?_drop] at hu; exact hu)
        simpa using this)
      have hcapA : kk + 1 ≤ c := by obtain ⟨A', c', ev, h1, h2⟩ := own_form o3; injection ev with e1 e2 e3; omega
      rw [hql] at o3
      have HR := Lib.hid (show fireF ts.length at0 [] ts = (q :: l, ts.drop (kk + 1)) by rw [HFI.out, HM0.out, hql]; rfl)
      have HP := Lib.hid (show popM (fire ⟨now, ser, [], ts⟩) = (⟨at0, ser, l, ts.drop (kk + 1)⟩, (q, (0, 0))) by rw [HN.out, HR.out]; rfl)
      obtain ⟨gA, oA, hA, hbA, hcell⟩ := (Rd.of_own o3).int (k := 0) (by simp)
      have hcut := (RdIn.of_own o3).cut (size := 1) (n := (q :: l).length) (k := 1) (cap := c) (by simp [ints]) (by simp) (by simp; omega)
      subst hA
      have HCUT := Lib.hid (show RdIn wr (w.heap.size + 3 ≤ ·) (if c = 1 then some ⟨gA, oA, none⟩ else some ⟨gA, oA + 1, none⟩) (ints l) by simpa [Addr.add, ints] using hcut)
      have hcell' : wr.cell? ⟨gA, oA, none⟩ = some (.int .i64 q) := by simpa using hcell
      obtain ⟨s0, s1, s2, s3, s4, s5, s6, s7⟩ := n2.four
      obtain ⟨u0, u1, u2, u3⟩ := n3.two
      have HLL := Lib.hid hll; have HDL := Lib.hid (show (ts.drop (kk + 1)).length = m by rw [List.length_drop]; have := HKM.out; omega)
      have hml : m ≤ 1000 := by have := HKM.out; omega
      have hkl : kk ≤ 1000 := by have := HKM.out; omega
      clear hcut hcell hql hll o3 o4 n1 n2 n3
      have j1 : (((kk + 1 : Nat) : Int) == 0) = false := by rw [beq_eq_false_iff_ne]; omega
      have j2 : (((kk : Int) + 1) == 0) = false := by rw [beq_eq_false_iff_ne]; omega
      have j3 : (0 : Int) < (kk : Int) + 1 := by omega
      have j4 : (1 : Int) ≤ (kk : Int) + 1 := by omega
      have j5 : (1 : Int) ≤ (c : Int) := by omega
      by_cases hc1 : c = 1
      · subst hc1
        obtain rfl : kk = 0 := by omega
        obtain rfl : l = [] := List.eq_nil_of_length_eq_zero HLL.out
        go_wp2
        go_quiet (fail)
        go_wp2
        refine bodyPost_ret (v := .tuple #[.agg #[.int .i64 at0, .int .i64 ser, .slice (some ⟨gA, oA, none⟩) 0 0, .slice B m cc], .int .i64 q, .agg #[.int .i64 0, .int .i64 0]]) (by simp [results, Try.results23, go_sem, s0, s1, s2, s3, u0, u1]) rfl ?_
        rw [HF.out, HP.out]
        refine ⟨_, rfl, CkIn.weaken (ok := (w.heap.size + 3 ≤ ·)) ?_ (fun b hb => Nat.le_trans (by omega) hb), (by repeat (first | (with_reducible exact hBl) | (with_reducible apply below_drewN) | ((with_reducible refine Below.setCell ?_ ?_ _); rotate_left; (focus (first | (simp; done) | (simp; omega))))))⟩
        repeat (refine CkIn.setCell ?_ (by simp; try omega) _)
        exact ⟨some ⟨gA, oA, none⟩, 0, B, cc, by have h := HKM.out; simp; omega, RdIn.nil, RB.out, by simp, by dsimp only; rw [HDL.out]; exact hcc, by simp, by dsimp only; rw [HDL.out]; omega⟩
      · go_wp2
        go_quiet (fail)
        go_wp2
        refine bodyPost_ret (v := .tuple #[.agg #[.int .i64 at0, .int .i64 ser, .slice (some ⟨gA, oA + 1, none⟩) kk (c - 1), .slice B m cc], .int .i64 q, .agg #[.int .i64 0, .int .i64 0]]) (by simp [results, Try.results23, go_sem, s0, s1, s2, s3, u0, u1]) rfl ?_
        rw [HF.out, HP.out]
        refine ⟨_, rfl, CkIn.weaken (ok := (w.heap.size + 3 ≤ ·)) ?_ (fun b hb => Nat.le_trans (by omega) hb), (by repeat (first | (with_reducible exact hBl) | (with_reducible apply below_drewN) | ((with_reducible refine Below.setCell ?_ ?_ _); rotate_left; (focus (first | (simp; done) | (simp; omega))))))⟩
        repeat (refine CkIn.setCell ?_ (by simp; try omega) _)
        exact ⟨some ⟨gA, oA + 1, none⟩, c - 1, B, cc, by have h := HKM.out; have h2 := HLL.out; simp; omega, by (have h := HCUT.out; rw [if_neg hc1] at h; exact h), RB.out, by dsimp only; rw [HLL.out]; omega, by dsimp only; rw [HDL.out]; exact hcc, by dsimp only; rw [HLL.out]; omega, by dsimp only; rw [HDL.out]; omega⟩
    · have hk : k < ts.length := by have := HKM.out; omega
      obtain ⟨b, o, e1, hb, c0, c1', c2'⟩ := (Rd.of_own o4).tm hk
      simp only [Option.some.injEq, Addr.mk.injEq, and_true] at e1
      obtain ⟨rfl, rfl⟩ := e1
      simp only [Nat.zero_add] at c0 c1' c2'
      have hBe := hB hmp
      cases hx : (ts[k].at_ == at0)
      · have HMM := Lib.hid (show ∃ mm, m = mm + 1 from ⟨m - 1, by omega⟩)
        have hk0 : 0 < k := by rcases Nat.eq_zero_or_pos k with h0 | h0; (· subst h0; rw [HAT.out] at hx; simp at hx); (· exact h0)
        obtain ⟨kk, rfl⟩ : ∃ kk, k = kk + 1 := ⟨k - 1, by omega⟩
        subst hBe
        obtain ⟨q, l, hql⟩ : ∃ q l, queueT ts (kk + 1) = q :: l := by
          have := queueT_length ts (kk + 1) (by have := HKM.out; omega)
          cases hq : queueT ts (kk + 1) with
          | nil => rw [queueT] at hq; rw [hq] at this; cases this
          | cons q l => exact ⟨q, l, rfl⟩
        have hll : l.length = kk := by
          have := queueT_length ts (kk + 1) (by have := HKM.out; omega)
          rw [← queueT, hql] at this; simpa using this
        have RB := Lib.hid (show RdIn wr (w.heap.size + 3 ≤ ·) (some ⟨g2, (kk + 1) * 3, none⟩) (rows Tm.cells (ts.drop (kk + 1))) by
          intro hn
          have hmp : 0 < m := by
            rw [rows_length Tm.cells_length, List.length_drop] at hn
            have := HKM.out; omega
          obtain ⟨b, o, e1, e2, e3, e4⟩ := RdIn.of_own o4 (by rw [rows_length Tm.cells_length]; omega)
          simp at e1
          obtain ⟨rfl, rfl⟩ := e1
          refine ⟨g2, (kk + 1) * 3, hB hmp, e2, e3, fun j u hu => ?_⟩
          have := e4 ((kk + 1) * 3 + j) u (by rw [rows_drop Tm.cells_length, List.getElem?_drop] at hu; exact hu)
          simpa using this)
        have hcapA : kk + 1 ≤ c := by obtain ⟨A', c', ev, h1, h2⟩ := own_form o3; injection ev with e1 e2 e3; omega
        rw [hql] at o3
        have HR := Lib.hid (show fireF ts.length at0 [] ts = (q :: l, ts.drop (kk + 1)) by rw [HFI.out, ← hql]; obtain ⟨mm, rfl⟩ := HMM.out; exact fireF_miss ts at0 (kk + 1) _ hk hx)
        have HP := Lib.hid (show popM (fire ⟨now, ser, [], ts⟩) = (⟨at0, ser, l, ts.drop (kk + 1)⟩, (q, (0, 0))) by rw [HN.out, HR.out]; rfl)
        obtain ⟨gA, oA, hA, hbA, hcell⟩ := (Rd.of_own o3).int (k := 0) (by simp)
        have hcut := (RdIn.of_own o3).cut (size := 1) (n := (q :: l).length) (k := 1) (cap := c) (by simp [ints]) (by simp) (by simp; omega)
        subst hA
        have HCUT := Lib.hid (show RdIn wr (w.heap.size + 3 ≤ ·) (if c = 1 then some ⟨gA, oA, none⟩ else some ⟨gA, oA + 1, none⟩) (ints l) by simpa [Addr.add, ints] using hcut)
        have hcell' : wr.cell? ⟨gA, oA, none⟩ = some (.int .i64 q) := by simpa using hcell
        obtain ⟨s0, s1, s2, s3, s4, s5, s6, s7⟩ := n2.four
        obtain ⟨u0, u1, u2, u3⟩ := n3.two
        have HLL := Lib.hid hll; have HDL := Lib.hid (show (ts.drop (kk + 1)).length = m by rw [List.length_drop]; have := HKM.out; omega)
        have hml : m ≤ 1000 := by have := HKM.out; omega
        have hkl : kk ≤ 1000 := by have := HKM.out; omega
        clear hcut hcell hql hll o3 o4 n1 n2 n3
        have j1 : (((kk + 1 : Nat) : Int) == 0) = false := by rw [beq_eq_false_iff_ne]; omega
        have j2 : (((kk : Int) + 1) == 0) = false := by rw [beq_eq_false_iff_ne]; omega
        have j3 : (0 : Int) < (kk : Int) + 1 := by omega
        have j4 : (1 : Int) ≤ (kk : Int) + 1 := by omega
        have j5 : (1 : Int) ≤ (c : Int) := by omega
        by_cases hc1 : c = 1
        · subst hc1
          obtain rfl : kk = 0 := by omega
          obtain rfl : l = [] := List.eq_nil_of_length_eq_zero HLL.out
          go_wp2
          go_quiet (fail)
          go_wp2
          refine bodyPost_ret (v := .tuple #[.agg #[.int .i64 at0, .int .i64 ser, .slice (some ⟨gA, oA, none⟩) 0 0, .slice (some ⟨g2, 3, none⟩) m cc], .int .i64 q, .agg #[.int .i64 0, .int .i64 0]]) (by simp [results, Try.results23, go_sem, s0, s1, s2, s3, u0, u1]) rfl ?_
          rw [HF.out, HP.out]
          refine ⟨_, rfl, CkIn.weaken (ok := (w.heap.size + 3 ≤ ·)) ?_ (fun b hb => Nat.le_trans (by omega) hb), (by repeat (first | (with_reducible exact hBl) | (with_reducible apply below_drewN) | ((with_reducible refine Below.setCell ?_ ?_ _); rotate_left; (focus (first | (simp; done) | (simp; omega))))))⟩
          repeat (refine CkIn.setCell ?_ (by simp; try omega) _)
          exact ⟨some ⟨gA, oA, none⟩, 0, some ⟨g2, 3, none⟩, cc, by have h := HKM.out; simp; omega, RdIn.nil, RB.out, by simp, by dsimp only; rw [HDL.out]; exact hcc, by simp, by dsimp only; rw [HDL.out]; omega⟩
        · go_wp2
          go_quiet (fail)
          go_wp2
          refine bodyPost_ret (v := .tuple #[.agg #[.int .i64 at0, .int .i64 ser, .slice (some ⟨gA, oA + 1, none⟩) kk (c - 1), .slice (some ⟨g2, (kk + 1) * 3, none⟩) m cc], .int .i64 q, .agg #[.int .i64 0, .int .i64 0]]) (by simp [results, Try.results23, go_sem, s0, s1, s2, s3, u0, u1]) rfl ?_
          rw [HF.out, HP.out]
          refine ⟨_, rfl, CkIn.weaken (ok := (w.heap.size + 3 ≤ ·)) ?_ (fun b hb => Nat.le_trans (by omega) hb), (by repeat (first | (with_reducible exact hBl) | (with_reducible apply below_drewN) | ((with_reducible refine Below.setCell ?_ ?_ _); rotate_left; (focus (first | (simp; done) | (simp; omega))))))⟩
          repeat (refine CkIn.setCell ?_ (by simp; try omega) _)
          exact ⟨some ⟨gA, oA + 1, none⟩, c - 1, some ⟨g2, (kk + 1) * 3, none⟩, cc, by have h := HKM.out; have h2 := HLL.out; simp; omega, by (have h := HCUT.out; rw [if_neg hc1] at h; exact h), RB.out, by dsimp only; rw [HLL.out]; omega, by dsimp only; rw [HDL.out]; exact hcc, by dsimp only; rw [HLL.out]; omega, by dsimp only; rw [HDL.out]; omega⟩
      · subst hBe
        obtain ⟨mm, rfl⟩ : ∃ mm, m = mm + 1 := ⟨m - 1, by omega⟩
        have HNX := Lib.hid (fireF_hit ts at0 k mm hk hx)
        have hmi : (0 : Int) < (mm : Int) + 1 := by omega
        have hmi2 : (1 : Int) ≤ (mm : Int) + 1 := by omega
        have hcci : (1 : Int) ≤ (cc : Int) := by omega
        go_wp2
        go_quiet (fail)
        have hBq : Below w.heap.size w (wr.drewN nq) := below_drewN hBl _
        have n1q : Blk (wr.drewN nq) w.heap.size _ _ := n1
        have n2q : Blk (wr.drewN nq) (w.heap.size + 1) _ _ := n2
        have n3q : Blk (wr.drewN nq) (w.heap.size + 2) _ _ := n3
        have o3q : (wr.drewN nq).ownsRow _ _ _ _ _ _ := o3
        have o4q : (wr.drewN nq).ownsRow _ _ _ _ _ _ := o4
        have c2q : (wr.drewN nq).cell? ⟨g2, k * 3 + 2, none⟩ = some (.int .i64 ts[k].task) := c2'
        clear p0 p1 p2 p3 p4 p5 p6 p7 n1 n2 n3 o3 o4 hBl c0 c1' c2' hb
        generalize wr.drewN nq = wq at *
        obtain ⟨p0, p1, p2, p3, p4, p5, p6, p7⟩ := n1q.four
        have ow := Lib.hid (fun o => (o3q.drew).alloc o)
        have ow4 := Lib.hid (fun o => (o4q.drew).alloc o)
        have rd := Lib.hid (Rd.new' wq.drew 3 #[.int .i64 ts[k].task] wq.heap.size rfl)
        have N := Lib.hid (And.intro n1q (And.intro n2q n3q))
        have hwl := n3q.lt
        have hwy : w.heap.size < wq.heap.size := by omega
        have hne0 := Lib.hid (own_ne (g := w.heap.size) o3q (by omega))
        have hne1 := Lib.hid (own_ne (g := w.heap.size + 1) o3q (by omega))
        have hne2 := Lib.hid (own_ne (g := w.heap.size + 2) o3q (by omega))
        clear n1q n2q n3q
        go_wp2
        go_region_law (refine step_app (base := w.heap.size + 3) (A := A) (n := k) (c := c) (xs := ints (queueT ts k)) (B := some ⟨wq.heap.size, 0, none⟩) (m := 1) (d := 1) (news := [.int .i64 ts[k].task]) rfl st_int (.tmp 47) (.tmp 53) rfl (by simp [Act.eval, Act.put]) (ow.out _) (by simp [Act.eval, Act.put]) rd.out rfl (by simp [Value.oneCell']) (by unfold maxLen; omega) (by omega) (by simp; omega) ?_; intro A' c' w' hown hg hat; obtain ⟨s0, s1, s2, s3, s4, s5, s6, s7⟩ := Blk.four ((hg.block w.heap.size (by simp; omega) hne0.out).trans (N.out.1.alloc _)))
        all_goals
          have z1 : Blk w' w.heap.size 25 _ := (hg.block w.heap.size (by simp; omega) hne0.out).trans (N.out.1.alloc _)
          have z2 : Blk w' (w.heap.size + 1) 25 _ := (hg.block (w.heap.size + 1) (by simp; omega) hne1.out).trans (N.out.2.1.alloc _)
          have z3 : Blk w' (w.heap.size + 2) 27 _ := (hg.block (w.heap.size + 2) (by simp; omega) hne2.out).trans (N.out.2.2.alloc _)
          have o5 := own_other (ow4.out _) (ow.out _) (by decide) hg
          have hB5 : Below w.heap.size w w' := Below.app (hBq.drew.alloc (by simp; omega) _) (ow.out _) hg (by omega) (by simp; omega)
          clear hg hat N ow ow4 rd hne0 hne1 hne2 p0 p1 p2 p3 p4 p5 p6 p7
          by_cases hcc1 : cc = 1
          · subst hcc1
            obtain rfl : mm = 0 := by omega
            go_wp2
            go_roundg 0
            case measure => omega
            case rel =>
              refine ⟨k + 1, 0, A', c', some ⟨g2, k * 3, none⟩, 0, Nat.le_refl _, Lib.hid (by have := HKM.out; omega), fun h => by omega, by omega, Lib.hid (HFI.out.trans HNX.out), ?_, ?_, ?_, ?_, ?_, ?_⟩
              · simpa using (z1.set 2 (.slice A' (k + 1) c')).set 3 (.slice (some ⟨g2, k * 3, none⟩) 0 (0))
              · exact (z2.far (p := ⟨w.heap.size, 2, none⟩) (by simp) _).far (p := ⟨w.heap.size, 3, none⟩) (by simp) _
              · exact (z3.far (p := ⟨w.heap.size, 2, none⟩) (by simp) _).far (p := ⟨w.heap.size, 3, none⟩) (by simp) _
              · rw [queueT_succ ts k hk, ints_append]; exact own_box1 (own_box1 hown (by omega) _) (by omega) _
              · exact own_box1 (own_box1 o5 (by omega) _) (by omega) _
              · exact (by repeat (first | (with_reducible exact hB5) | ((with_reducible refine Below.setCell ?_ ?_ _); rotate_left; (focus (first | (simp; done))))))
          · skip
            go_wp2
            go_roundg mm
            case measure => omega
            case rel =>
              refine ⟨k + 1, mm, A', c', some ⟨g2, k * 3 + 3, none⟩, cc - 1, Nat.le_refl _, Lib.hid (by have := HKM.out; omega), fun h => by rw [show k * 3 + 3 = (k + 1) * 3 by omega], by omega, Lib.hid (HFI.out.trans HNX.out), ?_, ?_, ?_, ?_, ?_, ?_⟩
              · simpa using (z1.set 2 (.slice A' (k + 1) c')).set 3 (.slice (some ⟨g2, k * 3 + 3, none⟩) mm (cc - 1))
              · exact (z2.far (p := ⟨w.heap.size, 2, none⟩) (by simp) _).far (p := ⟨w.heap.size, 3, none⟩) (by simp) _
              · exact (z3.far (p := ⟨w.heap.size, 2, none⟩) (by simp) _).far (p := ⟨w.heap.size, 3, none⟩) (by simp) _
              · rw [queueT_succ ts k hk, ints_append]; exact own_box1 (own_box1 hown (by omega) _) (by omega) _
              · exact own_box1 (own_box1 o5 (by omega) _) (by omega) _
              · exact (by repeat (first | (with_reducible exact hB5) | ((with_reducible refine Below.setCell ?_ ?_ _); rotate_left; (focus (first | (simp; done))))))
end Go.Proofs.Ytgiebofmfkacgaa
namespace Go.Proofs.Ytgiebofmfkacgaa
open Go.RowKit

end Go.Proofs.Ytgiebofmfkacgaa
namespace Go.Proofs.Ytgiebofmfkacgaa
open Go.RowKit

/-- The queue and the rest, as Following gathers them. -/
def folF (a : Int) : List Int → List Tm → List Tm → List Int × List Tm
  | rs, acc, [] => (rs, acc)
  | rs, acc, t :: l => if t.at_ == a then folF a (rs ++ [t.task]) acc l else folF a rs (acc ++ [t]) l
def folC (c : Ck) : Ck := match c.rs, c.ts with
  | [], t :: l => ⟨t.at_, c.ser, (folF t.at_ [] [] (t :: l)).1, (folF t.at_ [] [] (t :: l)).2⟩
  | _, _ => c
def popF (c : Ck) : Ck × (Int × Bool) := match c.rs with
  | [] => (⟨0, 0, [], []⟩, (0, false))
  | n :: l => (⟨c.now, c.ser, l, c.ts⟩, (n, true))
def RetF (m : Ck × (Int × Bool)) (w : World) (e : Ending) (w' : World) : Prop := ∃ v, e = .returned (.tuple #[v, .int .i64 m.2.1, .bool m.2.2]) ∧ CkAt w' m.1 v ∧ Below w.heap.size w w'

/-- A queue that is empty or of the call's own. -/
def OwnQ (w : World) (base : Nat) (A : Option Addr) (c : Nat) (q : List Int) : Prop := (q = [] ∨ w.ownsRow base 3 1 (.slice A q.length c) q.length (ints q)) ∧ q.length ≤ c
section
variable {w w' : World} {base c : Nat} {A : Option Addr} {q : List Int}
theorem OwnQ.rd (h : OwnQ w base A c q) : Rd w A (ints q) := by
  rcases h.1 with rfl | h
  · exact Rd.nil
  · exact Rd.of_own h
theorem OwnQ.below (h : OwnQ w base A c q) (hb : Below w.heap.size w w') : OwnQ w' base A c q := ⟨h.1.imp id fun h => own_below h hb, h.2⟩
theorem OwnQ.box1 {g i : Nat} (h : OwnQ w base A c q) (hg : g < base) (x : Value) : OwnQ (w.setCell ⟨g, i, none⟩ x) base A c q := ⟨h.1.imp id fun h => own_box1 h hg x, h.2⟩
end
end Go.Proofs.Ytgiebofmfkacgaa
namespace Go.Proofs.Ytgiebofmfkacgaa
open Go.RowKit

abbrev vi (n : Int) : V := .int .i64 n
abbrev di (n : Int) : SV := .d (.u (.int .i64 n))
abbrev db (n : Bool) : SV := .d (.u (.bool n))
abbrev ivs (zs : List Int) : V := .sl 1 (zs.map fun n => [V.int .i64 n])
abbrev Tm.v (t : Tm) : List V := [.int .i64 t.at_, .int .i64 t.ser, .int .i64 t.task]
abbrev tvs (ts : List Tm) : V := .sl 3 (ts.map Tm.v)
abbrev Ck.d (c : Ck) : List D := [.u (.int .i64 c.now), .u (.int .i64 c.ser), .u (ivs c.rs), .u (tvs c.ts)]
abbrev fd (p : Int × Int) : List D := [.u (.int .i64 p.1), .u (.int .i64 p.2)]

theorem DenVL.cons {z : Fz} {x : V} {u : Value} {cs : List V} {us : List Value} (h : DenV z x u) (hs : DenVL z cs us) : DenVL z (x :: cs) (u :: us) := ⟨by simp [hs.len], by simp [h.one, hs.one], fun j d u' h1 h2 => by
  cases j with
  | zero => simp at h1 h2; subst h1 h2; exact h
  | succ j => exact hs.den j d u' (by simpa using h1) (by simpa using h2)⟩
theorem ints_den (z : Fz) : ∀ zs : List Int, DenVL z (zs.map fun n => [V.int .i64 n]).flatten (ints zs)
  | [] => .nil
  | n :: zs => .cons (.int _ _) (ints_den z zs)
theorem tms_den (z : Fz) : ∀ ts : List Tm, DenVL z (ts.map Tm.v).flatten (rows Tm.cells ts)
  | [] => .nil
  | t :: ts => by rw [rows_cons]; exact .cons (.int _ _) (.cons (.int _ _) (.cons (.int _ _) (tms_den z ts)))
theorem DenVL.int_inv {z : Fz} {k : IntKind} {n : Int} {cs : List V} {us : List Value} (h : DenVL z (.int k n :: cs) us) : ∃ us', us = .int k n :: us' ∧ DenVL z cs us' := by
  have hl := h.len
  cases us with
  | nil => simp at hl
  | cons u us =>
    have := h.den 0 _ u rfl rfl
    cases this
    exact ⟨us, rfl, ⟨by simpa using hl, by have := h.one; simp at this; simpa using this.2, fun j d v e1 e2 => h.den (j + 1) d v (by simpa using e1) (by simpa using e2)⟩⟩
theorem den_ints {z : Fz} : ∀ {zs : List Int} {us : List Value}, DenVL z (zs.map fun n => [V.int .i64 n]).flatten us → us = ints zs
  | [], us, h => by have := h.len; simp at this; subst this; rfl
  | n :: zs, us, h => by
    obtain ⟨us', rfl, h'⟩ := DenVL.int_inv (cs := (zs.map fun n => [V.int .i64 n]).flatten) h
    rw [den_ints h']; rfl
theorem den_tms {z : Fz} : ∀ {ts : List Tm} {us : List Value}, DenVL z (ts.map Tm.v).flatten us → us = rows Tm.cells ts
  | [], us, h => by have := h.len; simp at this; subst this; rfl
  | t :: ts, us, h => by
    obtain ⟨u1, rfl, h1⟩ := DenVL.int_inv (cs := .int .i64 t.ser :: .int .i64 t.task :: (ts.map Tm.v).flatten) h
    obtain ⟨u2, rfl, h2⟩ := h1.int_inv
    obtain ⟨u3, rfl, h3⟩ := h2.int_inv
    rw [den_tms h3, rows_cons]; rfl
/-- A clock that some machine could bear. -/
structure Small (c : Ck) : Prop where
  rs : c.rs.length ≤ 17592186043904
  ts : c.ts.length ≤ 17592186043904
theorem ck_den {w : World} {ok : Nat → Prop} {G : FG} {c : Ck} {v : Value} (h : CkIn w ok c v) (hG : ∀ b, ok b → b < w.heap.size → G b) (ρ : Rho) : DenS ρ ⟨G, w⟩ (.a c.d) v := by
  obtain ⟨RA, rc, TA, tc, rfl, h1, h2, h3, h4, h5, h6⟩ := h
  have e1 := rows_den (g := fun n : Int => [V.int .i64 n]) (xs := c.rs) (sz := 1) h1 hG (fun z => ints_den z _) (fun _ _ => rfl) (by omega) h3 (by unfold maxLen; omega)
  have e2 := rows_den (g := Tm.v) (xs := c.ts) (sz := 3) h2 hG (fun z => tms_den z _) (fun _ _ => rfl) (by omega) h4 (by unfold maxLen; omega)
  exact .a (us := [_, _, _, _]) (.cons (.u (.int _ _)) (.cons (.u (.int _ _)) (.cons (.u e1) (.cons (.u e2) .nil))))
theorem den_ck {w : World} {G : FG} {c : Ck} {v : Value} {ρ : Rho} (h : DenS ρ ⟨G, w⟩ (.a c.d) v) (hG : ∀ b, G b → b < w.heap.size) (hs : Small c) : CkAt w c v := by
  cases h with
  | @a _ us h =>
    have hl := h.len
    match us, hl with
    | [u0, u1, u2, u3], _ =>
      have d0 := h.den 0 _ _ rfl rfl
      have d1 := h.den 1 _ _ rfl rfl
      have d2 := h.den 2 _ _ rfl rfl
      have d3 := h.den 3 _ _ rfl rfl
      cases d0 with | u d0 => cases d0 with | int =>
      cases d1 with | u d1 => cases d1 with | int =>
      cases d2 with | u d2 =>
      cases d3 with | u d3 =>
      obtain ⟨RA, rc, rfl, r1, r2, _⟩ := den_rows (g := fun n : Int => [V.int .i64 n]) (xs := c.rs) (cs := ints c.rs) d2 hG (fun z us h => den_ints h)
      obtain ⟨TA, tc, rfl, t1, t2, _⟩ := den_rows (g := Tm.v) (xs := c.ts) (cs := rows Tm.cells c.ts) d3 hG (fun z us h => den_tms h)
      exact ⟨RA, rc, TA, tc, rfl, r1, t1, r2, t2, hs.rs, hs.ts⟩
theorem den_int {z : Fz} {ρ : Rho} {n : Int} {v : Value} (h : DenS ρ z (di n) v) : v = .int .i64 n := by
  cases h with | d h => cases h with | u h => cases h with | int => rfl
/-- Lists of arguments. -/
theorem args1 {ρ : Rho} {G : FG} {w : World} {s : SV} {vs : List Value} (h : ArgsAt ρ G w [s] vs) : ∃ v, vs = [v] ∧ DenS ρ ⟨G, w⟩ s v := by
  have hl := h.1
  match vs, hl with
  | [v], _ => exact ⟨v, rfl, h.2.1 0 s v rfl rfl⟩
theorem args2 {ρ : Rho} {G : FG} {w : World} {s t : SV} {vs : List Value} (h : ArgsAt ρ G w [s, t] vs) : ∃ v u, vs = [v, u] ∧ DenS ρ ⟨G, w⟩ s v ∧ DenS ρ ⟨G, w⟩ t u := by
  have hl := h.1
  match vs, hl with
  | [v, u], _ => exact ⟨v, u, rfl, h.2.1 0 s v rfl rfl, h.2.1 1 t u rfl rfl⟩
theorem args3 {ρ : Rho} {G : FG} {w : World} {s t r : SV} {vs : List Value} (h : ArgsAt ρ G w [s, t, r] vs) : ∃ v u x, vs = [v, u, x] ∧ DenS ρ ⟨G, w⟩ s v ∧ DenS ρ ⟨G, w⟩ t u ∧ DenS ρ ⟨G, w⟩ r x := by
  have hl := h.1
  match vs, hl with
  | [v, u, x], _ => exact ⟨v, u, x, rfl, h.2.1 0 s v rfl rfl, h.2.1 1 t u rfl rfl, h.2.1 2 r x rfl rfl⟩
end Go.Proofs.Ytgiebofmfkacgaa
namespace Go.Proofs.Ytgiebofmfkacgaa
open Go.RowKit

theorem flt_den (p : Int × Int) (ρ : Rho) (z : Fz) : DenS ρ z (.a (fd p)) (flt p) := .a (us := [_, _]) (.cons (.u (.int _ _)) (.cons (.u (.int _ _)) .nil))
theorem in_T (n lo hi : Int) : CallsA Try.prog 15 [di n, di lo, di hi] [] (Is (db (inB n lo hi))) :=
  callsA_flat ⟨_, _, Try.func15, rfl, rfl⟩ (fun _ _ => .d (.u (.bool _))) fun ρ G w vs h => by
    obtain ⟨v, u, x, rfl, h1, h2, h3⟩ := args3 h
    rw [den_int h1, den_int h2, den_int h3]
    exact (in_any n lo hi w).mono fun e w' ⟨h1, h2⟩ => ⟨h1, h2 ▸ Below.refl _ _⟩
theorem at_T (a b : Int) : CallsA Try.prog 16 [di a, di b] [] (Is (.a (fd (a, b)))) :=
  callsA_flat ⟨_, _, Try.func16, rfl, rfl⟩ (fun _ _ => flt_den (a, b) _ _) fun ρ G w vs h => by
    obtain ⟨v, u, rfl, h1, h2⟩ := args2 h
    rw [den_int h1, den_int h2]
    exact at_any a b w
theorem validate_T (c : Ck) (hs : Small c) : CallsA Try.prog 14 [.a c.d] [] (Is (.a (fd (validate c)))) :=
  callsA_flat ⟨_, _, Try.func14, rfl, rfl⟩ (fun _ _ => flt_den _ _ _) fun ρ G w vs h => by
    obtain ⟨v, rfl, h1⟩ := args1 h
    exact validate_any c v w (den_ck h1 h.2.2 hs)
theorem ck_fresh {w w' : World} {c : Ck} {v : Value} (h : CkIn w' (w.heap.size ≤ ·) c v) (ρ : Rho) {G : FG} (hG : ∀ b, w.heap.size ≤ b → b < w'.heap.size → G b) : DenC ρ ⟨G, w'⟩ (.a c.d) v := by
  cases ck_den h (G := G) hG ρ with | a hh => exact .a hh
theorem ready_T (c : Ck) (hs : Small c) (n : Int) : CallsA Try.prog 11 [.a c.d, di n] [] (Is (.t [.a (readyM c n).1.d, .a (fd (readyM c n).2)])) :=
  callsA_fresh ⟨_, _, Try.func11, rfl, rfl⟩ fun ρ G w vs h => by
    obtain ⟨v, u, rfl, h1, h2⟩ := args2 h
    rw [den_int h2]
    refine (ready_any c v n w (den_ck h1 h.2.2 hs)).mono ?_
    rintro e w' ⟨v', rfl, h3, h4⟩
    refine ⟨_, rfl, h4, fun ρ G hG => .t (vs := [v', flt (readyM c n).2]) rfl fun j s u e1 e2 => ?_⟩
    match j with
    | 0 => simp at e1 e2; subst e1 e2; exact ck_fresh h3 ρ hG
    | 1 => simp at e1 e2; subst e1 e2; cases flt_den (readyM c n).2 ρ ⟨G, w'⟩ with | a h => exact .a h
    | j + 2 => simp at e1
theorem sleep_T (c : Ck) (hs : Small c) (n d : Int) : CallsA Try.prog 12 [.a c.d, di n, di d] [] (Is (.t [.a (sleepM c n d).1.d, .a (fd (sleepM c n d).2)])) :=
  callsA_fresh ⟨_, _, Try.func12, rfl, rfl⟩ fun ρ G w vs h => by
    obtain ⟨v, u, x, rfl, h1, h2, h3⟩ := args3 h
    rw [den_int h2, den_int h3]
    refine (sleep_any c v n d w (den_ck h1 h.2.2 hs)).mono ?_
    rintro e w' ⟨v', rfl, h3, h4⟩
    refine ⟨_, rfl, h4, fun ρ G hG => .t (vs := [v', flt (sleepM c n d).2]) rfl fun j s u e1 e2 => ?_⟩
    match j with
    | 0 => simp at e1 e2; subst e1 e2; exact ck_fresh h3 ρ hG
    | 1 => simp at e1 e2; subst e1 e2; cases flt_den (sleepM c n d).2 ρ ⟨G, w'⟩ with | a h => exact .a h
    | j + 2 => simp at e1
theorem next_T (c : Ck) (hs : Small c) : CallsA Try.prog 23 [.a c.d] [] (Is (.t [.a (nextM c).1.d, .d (.u (.int .i64 (nextM c).2.1)), .a (fd (nextM c).2.2)])) :=
  callsA_fresh ⟨_, _, Try.func23, rfl, rfl⟩ fun ρ G w vs h => by
    obtain ⟨v, rfl, h1⟩ := args1 h
    refine (next_any c v w (den_ck h1 h.2.2 hs)).mono ?_
    rintro e w' ⟨v', rfl, h3, h4⟩
    refine ⟨_, rfl, h4, fun ρ G hG => .t (vs := [v', .int .i64 (nextM c).2.1, flt (nextM c).2.2]) rfl fun j s u e1 e2 => ?_⟩
    match j with
    | 0 => simp at e1 e2; subst e1 e2; exact ck_fresh h3 ρ hG
    | 1 => simp at e1 e2; subst e1 e2; exact .d (.u (.int _ _))
    | 2 => simp at e1 e2; subst e1 e2; cases flt_den (nextM c).2.2 ρ ⟨G, w'⟩ with | a h => exact .a h
    | j + 3 => simp at e1
end Go.Proofs.Ytgiebofmfkacgaa
namespace Go.Proofs.Ytgiebofmfkacgaa
open Go.RowKit

abbrev ck0 : List D := [.u (.int .i64 0), .u (.int .i64 0), .u .nl, .u .nl]
def wokenT (x : Int) (ts : List Tm) : List Tm := ts.filter (fun t => t.task != x)
def wokenM (c : Ck) (x : Int) : Ck := if has c.rs x then c else enq ⟨c.now, c.ser, c.rs, wokenT x c.ts⟩ x
theorem wokenT_len {x : Int} {ts : List Tm} : (wokenT x ts).length ≤ ts.length := List.length_filter_le _ _
end Go.Proofs.Ytgiebofmfkacgaa
namespace Go.Proofs.Ytgiebofmfkacgaa
open Go.RowKit

/-- A timer is put among others, as Slept does it. -/
def slpS (t : Tm) (p : List Tm × Bool) (x : Tm) : List Tm × Bool := if !p.2 && laterB x t then (p.1 ++ [t] ++ [x], true) else (p.1 ++ [x], p.2)
def slpA (t : Tm) (ts : List Tm) : List Tm × Bool := ts.foldl (slpS t) ([], false)
def sleptT (t : Tm) (ts : List Tm) : List Tm := if (slpA t ts).2 then (slpA t ts).1 else (slpA t ts).1 ++ [t]
def sleptM (c : Ck) (n d : Int) : Ck := if d = 0 then enq c n else ⟨c.now, c.ser + 1, c.rs, sleptT ⟨c.now + d, c.ser, n⟩ c.ts⟩
end Go.Proofs.Ytgiebofmfkacgaa
namespace Go.Proofs.Ytgiebofmfkacgaa

theorem has_append (xs ys : List Int) (x : Int) : has (xs ++ ys) x = (has xs x || has ys x) := by simp [has]
theorem has_tasks (ts : List Tm) (x : Int) : has (ts.map (·.task)) x = busyT ts x := by simp [has, busyT, List.any_map]; rfl
theorem busy_seen (rs : List Int) (ts : List Tm) (k : Nat) (x : Int) : busy rs (ts.take k) x = has (seenT rs ts k) x := by
  unfold busy seenT; rw [has_append, has_tasks, Bool.or_comm]
theorem orderI_lt (p t : Tm) : (0 ≤ orderI p t) ↔ laterB t p = false := by
  obtain ⟨p1, p2, p3⟩ := p
  obtain ⟨t1, t2, t3⟩ := t
  simp only [orderI, orI, cmpI, laterB]
  by_cases h1 : p1 < t1
  · simp [h1]
  · by_cases h2 : t1 < p1
    · have : ¬ t1 = p1 := by omega
      simp [h1, h2, this]
    · have e : t1 = p1 := by omega
      subst e
      by_cases h3 : p2 < t2
      · simp [h3]
      · by_cases h4 : t2 < p2 <;> simp [h3, h4] <;> omega
theorem code_eq (now ser : Int) (rs : List Int) (ts : List Tm) (k : Nat) (t : Tm) (hn : 0 ≤ now) :
    cfCode now ser rs (ts.take k) (prevT ts k) t = codeT now ser (prevT ts k) t (seenT rs ts k) := by
  unfold cfCode codeT
  rw [busy_seen]
  have e1 : inB t.at_ (now + 1) 1000000000000000 = (decide (now < t.at_) && timeB t.at_) := by
    unfold inB timeB
    by_cases a : now + 1 ≤ t.at_
    · have b : now < t.at_ := by omega
      have c : 0 ≤ t.at_ := by omega
      simp [a, b, c]
    · have b : ¬ now < t.at_ := by omega
      simp [a, b]
  have e2 : inB t.ser 0 (ser - 1) = (decide (0 ≤ t.ser) && decide (t.ser < ser)) := by
    unfold inB
    by_cases a : t.ser ≤ ser - 1
    · have b : t.ser < ser := by omega
      simp [a, b]
    · have b : ¬ t.ser < ser := by omega
      simp [a, b]
  have e3 : inB t.task 0 1000000000000000 = timeB t.task := rfl
  have e4 : cfOk now ser t = (timeB t.task && okT now ser t) := by
    unfold cfOk okT; rw [e1, e2, e3]; simp [Bool.and_assoc]
  rw [e4]
  have e5 : freshC t.task (seenT rs ts k) = if timeB t.task then (if has (seenT rs ts k) t.task then 8 else 0) else 4 := rfl
  rw [e5]
  cases okT now ser t <;> cases timeB t.task <;> cases has (seenT rs ts k) t.task <;> simp
  cases prevT ts k with
  | none => rfl
  | some p =>
    have := orderI_lt p t
    cases hl : laterB t p <;> simp [hl] at this ⊢ <;> omega
theorem cfT_eq (now ser : Int) (rs : List Int) (ts : List Tm) (hn : 0 ≤ now) : ∀ (d k : Nat), k + d = ts.length → cfT now ser rs ts (ts.drop k) k = valT now ser (prevT ts k) (ts.drop k) k (seenT rs ts k)
  | 0, k, h => by rw [List.drop_eq_nil_of_le (by omega)]; rfl
  | d + 1, k, h => by
    rw [cfT_step now ser ts rs k (by omega), valT_step now ser ts rs k (by omega), code_eq now ser rs ts k _ hn, cfT_eq now ser rs ts hn d (k + 1) (by omega)]
theorem cfR_eq (now ser : Int) (rs : List Int) (ts : List Tm) (hn : 0 ≤ now) : ∀ (d k : Nat), k + d = rs.length → cfR now ser ts rs (rs.drop k) k = valR now ser ts (rs.drop k) k (rs.take k)
  | 0, k, h => by
    have h1 := cfT_eq now ser rs ts hn ts.length 0 (by omega)
    rw [List.drop_eq_nil_of_le (by omega), List.take_of_length_le (by omega)]
    simp only [cfR, valR]
    simpa [prevT, seenT] using h1
  | d + 1, k, h => by
    rw [cfR_step now ser ts rs k (by omega), valR_step now ser ts rs k (by omega), cfR_eq now ser rs ts hn d (k + 1) (by omega)]; rfl
theorem fault_eq (c : Ck) : clockFault c = validate c := by
  unfold clockFault validate
  have e1 : inB c.now 0 1000000000000000 = timeB c.now := rfl
  have e2 : inB c.ser 0 1000000000000000 = timeB c.ser := rfl
  rw [e1, e2]
  split
  · rename_i h
    split
    · rfl
    · have hn : 0 ≤ c.now := by
        simp at h
        exact (timeB_le h.1).1
      simpa using cfR_eq c.now c.ser c.rs c.ts hn c.rs.length 0 (by omega)
  · rfl

/-! What a valid clock is -/
structure Valid (c : Ck) : Prop where
  now : timeB c.now = true
  ser : timeB c.ser = true
  len : c.rs.length + c.ts.length ≤ 1000
  tasks : ∀ x ∈ c.rs ++ c.ts.map (·.task), timeB x = true
  nodup : (c.rs ++ c.ts.map (·.task)).Nodup
  times : ∀ t ∈ c.ts, okT c.now c.ser t = true
  sorted : c.ts.Pairwise (fun p t => laterB t p = true)
end Go.Proofs.Ytgiebofmfkacgaa
namespace Go.Proofs.Ytgiebofmfkacgaa

def Fresh (l seen : List Int) : Prop := l.Nodup ∧ (∀ x ∈ l, x ∉ seen) ∧ ∀ x ∈ l, timeB x = true
theorem has_iff (l : List Int) (x : Int) : has l x = true ↔ x ∈ l := by simp [has]
theorem has_false_iff (l : List Int) (x : Int) : has l x = false ↔ x ∉ l := by rw [← has_iff]; simp
theorem freshC_iff (n : Int) (seen : List Int) : freshC n seen = 0 ↔ timeB n = true ∧ n ∉ seen := by
  unfold freshC
  rw [← has_false_iff]
  cases timeB n <;> cases has seen n <;> simp
theorem fresh_cons (n : Int) (l seen : List Int) : Fresh (n :: l) seen ↔ (timeB n = true ∧ n ∉ seen) ∧ Fresh l (seen ++ [n]) := by
  unfold Fresh
  simp only [List.nodup_cons, List.mem_cons, List.mem_append, List.not_mem_nil, or_false, not_or, forall_eq_or_imp]
  constructor
  · rintro ⟨⟨h1, h2⟩, ⟨h3, h4⟩, h5, h6⟩
    exact ⟨⟨h5, h3⟩, h2, fun x hx => ⟨h4 x hx, fun e => h1 (e ▸ hx)⟩, h6⟩
  · rintro ⟨⟨h5, h3⟩, h2, h4, h6⟩
    exact ⟨⟨fun h => (h4 n h).2 rfl, h2⟩, ⟨h3, fun x hx => (h4 x hx).1⟩, h5, h6⟩
def Later (p t : Tm) : Prop := laterB t p = true
theorem later_iff (p t : Tm) : Later p t ↔ p.at_ < t.at_ ∨ (t.at_ = p.at_ ∧ p.ser < t.ser) := by simp [Later, laterB]
theorem later_trans {a b c : Tm} (h : Later a b) (k : Later b c) : Later a c := by
  rw [later_iff] at *; omega
theorem codeT_iff (now ser : Int) (prev : Option Tm) (t : Tm) (seen : List Int) :
    codeT now ser prev t seen = 0 ↔ okT now ser t = true ∧ (timeB t.task = true ∧ t.task ∉ seen) ∧ ∀ p, prev = some p → Later p t := by
  unfold codeT
  rw [← freshC_iff]
  cases h1 : okT now ser t
  · simp
  · by_cases h2 : freshC t.task seen = 0
    · simp only [h2, if_true, true_and]
      cases prev with
      | none => simp
      | some p =>
        have := orderI_lt p t
        simp only [Option.some.injEq, forall_eq']
        unfold Later
        cases hl : laterB t p <;> simp [hl] at this ⊢ <;> omega
    · simp [h2]
theorem valT_ok (now ser : Int) : ∀ (l : List Tm) (prev : Option Tm) (k : Nat) (seen : List Int),
    (valT now ser prev l k seen).1 = 0 ↔ (∀ t ∈ l, okT now ser t = true) ∧ Fresh (l.map (·.task)) seen ∧ (∀ p, prev = some p → ∀ t ∈ l, Later p t) ∧ l.Pairwise Later
  | [], prev, k, seen => by simp [valT, Fresh]
  | t :: l, prev, k, seen => by
    simp only [valT]
    by_cases h : codeT now ser prev t seen = 0
    · rw [if_pos h, valT_ok now ser l (some t) (k + 1) (seen ++ [t.task])]
      rw [codeT_iff] at h
      obtain ⟨a1, a2, a3⟩ := h
      simp only [List.mem_cons, forall_eq_or_imp, List.map_cons, fresh_cons, List.pairwise_cons, Option.some.injEq, forall_eq']
      constructor
      · rintro ⟨b1, b2, b3, b4⟩
        exact ⟨⟨a1, b1⟩, ⟨a2, b2⟩, fun p hp => ⟨a3 p hp, fun x hx => later_trans (a3 p hp) (b3 x hx)⟩, b3, b4⟩
      · rintro ⟨⟨_, b1⟩, ⟨_, b2⟩, _, b3, b4⟩
        exact ⟨b1, b2, b3, b4⟩
    · rw [if_neg h]
      simp only [h, false_iff]
      rintro ⟨b1, b2, b3, b4⟩
      apply h
      rw [codeT_iff]
      simp only [List.map_cons, fresh_cons] at b2
      exact ⟨b1 t (by simp), b2.1, fun p hp => b3 p hp t (by simp)⟩
theorem valR_ok (now ser : Int) (ts : List Tm) : ∀ (l : List Int) (k : Nat) (seen : List Int),
    (valR now ser ts l k seen).1 = 0 ↔ Fresh l seen ∧ (valT now ser none ts 0 (seen ++ l)).1 = 0
  | [], k, seen => by simp [valR, Fresh]
  | n :: l, k, seen => by
    simp only [valR]
    by_cases h : freshC n seen = 0
    · rw [if_pos h, valR_ok now ser ts l (k + 1) (seen ++ [n]), fresh_cons]
      rw [freshC_iff] at h
      simp only [h, true_and, List.append_assoc, List.cons_append, List.nil_append, not_false_eq_true, and_self]
    · rw [if_neg h]
      simp only [h, false_iff, fresh_cons]
      rintro ⟨⟨b1, _⟩, _⟩
      exact h ((freshC_iff n seen).2 b1)
theorem valid_iff (c : Ck) : (validate c).1 = 0 ↔ Valid c := by
  unfold validate
  cases h1 : timeB c.now
  · simp; intro hv; have := hv.now; rw [h1] at this; cases this
  cases h2 : timeB c.ser
  · simp; intro hv; have := hv.ser; rw [h2] at this; cases this
  simp only [Bool.and_self, if_true]
  by_cases h3 : 1000 < c.rs.length + c.ts.length
  · simp [h3]; intro hv; have := hv.len; omega
  rw [if_neg h3, valR_ok, valT_ok]
  simp only [List.nil_append]
  constructor
  · rintro ⟨⟨a1, a2, a3⟩, b1, ⟨b2, b3, b4⟩, _, b5⟩
    refine ⟨h1, h2, by omega, ?_, ?_, b1, b5⟩
    · intro x hx
      rcases List.mem_append.1 hx with h | h
      · exact a3 x h
      · exact b4 x h
    · rw [List.nodup_append]
      exact ⟨a1, b2, fun x hx y hy e => b3 y hy (e ▸ hx)⟩
  · intro hv
    have hn := hv.nodup
    rw [List.nodup_append] at hn
    exact ⟨⟨hn.1, by simp, fun x hx => hv.tasks x (List.mem_append.2 (.inl hx))⟩, hv.times, ⟨hn.2.1, fun x hx h => hn.2.2 x h x hx rfl, fun x hx => hv.tasks x (List.mem_append.2 (.inr hx))⟩, by simp, hv.sorted⟩
end Go.Proofs.Ytgiebofmfkacgaa
namespace Go.Proofs.Ytgiebofmfkacgaa

theorem fireF_spec (now : Int) : ∀ (ts : List Tm) (f : Nat) (rs : List Int), ts.length ≤ f → fireF f now rs ts = (rs ++ (ts.takeWhile (·.at_ == now)).map (·.task), ts.dropWhile (·.at_ == now))
  | [], 0, rs, _ => by simp [fireF]
  | [], f + 1, rs, _ => by simp [fireF]
  | t :: ts, 0, rs, h => by simp at h
  | t :: ts, f + 1, rs, h => by
    simp only [fireF]
    cases hx : (t.at_ == now)
    · simp [hx]
    · simp only [if_true]
      rw [fireF_spec now ts f _ (by simp at h; omega)]
      simp [hx]
/-- The tasks of a clock, each with its time. -/
def due (c : Ck) : List (Int × Int) := c.rs.map (fun r => (r, c.now)) ++ c.ts.map (fun t => (t.task, t.at_))
theorem fire_cons (now ser : Int) (t : Tm) (l : List Tm) : fire ⟨now, ser, [], t :: l⟩ = ⟨t.at_, ser, ((t :: l).takeWhile (·.at_ == t.at_)).map (·.task), (t :: l).dropWhile (·.at_ == t.at_)⟩ := by
  simp only [fire]
  rw [fireF_spec t.at_ (t :: l) (t :: l).length [] (Nat.le_refl _)]
  rfl
theorem fire_rs (c : Ck) (h : c.rs ≠ []) : fire c = c := by
  obtain ⟨now, ser, rs, ts⟩ := c
  cases rs with
  | nil => exact absurd rfl h
  | cons n l => simp [fire]
theorem takeWhile_at (a : Int) : ∀ l : List Tm, (l.takeWhile (·.at_ == a)).map (fun t => (t.task, a)) = (l.takeWhile (·.at_ == a)).map (fun t => (t.task, t.at_))
  | [] => rfl
  | x :: l => by
    cases hx : (x.at_ == a)
    · simp [hx]
    · have e : x.at_ = a := by simpa using hx
      have ih := takeWhile_at a l
      simp [e]
      simpa using ih
theorem due_fire (c : Ck) : due (fire c) = due c := by
  obtain ⟨now, ser, rs, ts⟩ := c
  cases rs with
  | cons n l => rw [fire_rs _ (by simp)]
  | nil =>
    cases ts with
    | nil => rfl
    | cons t l =>
      rw [fire_cons]
      simp only [due, List.map_map, List.map_nil, List.nil_append]
      have h := takeWhile_at t.at_ (t :: l)
      have : (List.map ((fun r => (r, t.at_)) ∘ fun x => x.task) ((t :: l).takeWhile (·.at_ == t.at_))) = ((t :: l).takeWhile (·.at_ == t.at_)).map (fun t => (t.task, t.at_)) := h
      rw [this, ← List.map_append, List.takeWhile_append_dropWhile]
theorem tasks_fire (c : Ck) : (fire c).rs ++ (fire c).ts.map (·.task) = c.rs ++ c.ts.map (·.task) := by
  obtain ⟨now, ser, rs, ts⟩ := c
  cases rs with
  | cons n l => rw [fire_rs _ (by simp)]
  | nil =>
    cases ts with
    | nil => rfl
    | cons t l => rw [fire_cons]; simp only [List.nil_append]; rw [← List.map_append, List.takeWhile_append_dropWhile]
theorem dropWhile_gt (a : Int) : ∀ l : List Tm, l.Pairwise Later → (∀ x ∈ l, a ≤ x.at_) → ∀ u ∈ l.dropWhile (·.at_ == a), a < u.at_
  | [], _, _, u, hu => by simp at hu
  | x :: l, hp, ha, u, hu => by
    rw [List.pairwise_cons] at hp
    cases hx : (x.at_ == a)
    · have hne : ¬ x.at_ = a := by simpa using hx
      have h1 := ha x (by simp)
      simp only [List.dropWhile_cons, hx, Bool.false_eq_true, if_false, List.mem_cons] at hu
      rcases hu with rfl | hu
      · omega
      · have := (later_iff x u).1 (hp.1 u hu); omega
    · simp only [List.dropWhile_cons, hx, if_true] at hu
      exact dropWhile_gt a l hp.2 (fun y hy => ha y (by simp [hy])) u hu
theorem okT_iff (now ser : Int) (t : Tm) : okT now ser t = true ↔ now < t.at_ ∧ timeB t.at_ = true ∧ 0 ≤ t.ser ∧ t.ser < ser := by simp [okT]
theorem fire_valid {c : Ck} (h : Valid c) : Valid (fire c) := by
  obtain ⟨now, ser, rs, ts⟩ := c
  cases rs with
  | cons n l => rw [fire_rs _ (by simp)]; exact h
  | nil =>
    cases ts with
    | nil => exact h
    | cons t l =>
      have ht := tasks_fire ⟨now, ser, [], t :: l⟩
      rw [fire_cons] at ht ⊢
      have hsort := h.sorted
      have hge : ∀ x ∈ t :: l, t.at_ ≤ x.at_ := by
        intro x hx
        rcases List.mem_cons.1 hx with rfl | hx
        · exact Int.le_refl _
        · have := (later_iff t x).1 ((List.pairwise_cons.1 hsort).1 x hx); omega
      refine ⟨((okT_iff _ _ _).1 (h.times t (by simp))).2.1, h.ser, ?_, ?_, ?_, ?_, ?_⟩
      · have h1 := congrArg List.length ht
        have h2 := h.len
        simp only [List.length_append, List.length_map] at h1 h2 ⊢
        simp at h1 h2 ⊢
        omega
      · rw [ht]; exact h.tasks
      · rw [ht]; exact h.nodup
      · intro u hu
        dsimp only at hu
        have hm : u ∈ t :: l := (List.dropWhile_sublist _).subset hu
        have h1 := (okT_iff _ _ _).1 (h.times u hm)
        exact (okT_iff _ _ _).2 ⟨dropWhile_gt t.at_ (t :: l) hsort hge u hu, h1.2⟩
      · exact hsort.sublist (List.dropWhile_sublist _)
theorem fire_now {c : Ck} (h : Valid c) : c.now ≤ (fire c).now := by
  obtain ⟨now, ser, rs, ts⟩ := c
  cases rs with
  | cons n l => rw [fire_rs _ (by simp)]; exact Int.le_refl _
  | nil =>
    cases ts with
    | nil => exact Int.le_refl _
    | cons t l =>
      rw [fire_cons]
      have := ((okT_iff _ _ _).1 (h.times t (by simp))).1
      dsimp only at this ⊢; omega
theorem fire_empty {c : Ck} (h : (fire c).rs = []) : c.rs = [] ∧ c.ts = [] := by
  obtain ⟨now, ser, rs, ts⟩ := c
  cases rs with
  | cons n l => rw [fire_rs _ (by simp)] at h; cases h
  | nil =>
    cases ts with
    | nil => exact ⟨rfl, rfl⟩
    | cons t l => rw [fire_cons] at h; simp at h
theorem pop_valid {now ser n : Int} {l : List Int} {ts : List Tm} (h : Valid ⟨now, ser, n :: l, ts⟩) : Valid ⟨now, ser, l, ts⟩ := by
  refine ⟨h.now, h.ser, ?_, ?_, ?_, h.times, h.sorted⟩
  · have := h.len; simp at this ⊢; omega
  · intro x hx; exact h.tasks x (by simp at hx ⊢; rcases hx with h | h <;> simp [h])
  · have := h.nodup
    simp only [List.cons_append, List.nodup_cons] at this
    exact this.2
/-- What Next gives of a valid clock. -/
theorem next_spec {c : Ck} (h : Valid c) : (due c = [] ∧ nextM c = (⟨0, 0, [], []⟩, (0, (10, -1)))) ∨
    ∃ n a rest c', due c = (n, a) :: rest ∧ nextM c = (c', (n, (0, 0))) ∧ c'.now = a ∧ due c' = rest ∧ Valid c' ∧ c.now ≤ a := by
  have hn : nextM c = popM (fire c) := by unfold nextM; rw [if_pos ((valid_iff c).2 h)]
  have hf := fire_valid h
  have hd := due_fire c
  have hw := fire_now h
  cases hr : (fire c).rs with
  | nil =>
    obtain ⟨h1, h2⟩ := fire_empty hr
    left
    exact ⟨by simp [due, h1, h2], by rw [hn]; simp [popM, hr]⟩
  | cons n l =>
    right
    generalize fire c = d at *
    obtain ⟨now, ser, rs, ts⟩ := d
    dsimp only at hr hw
    subst hr
    exact ⟨n, now, due ⟨now, ser, l, ts⟩, ⟨now, ser, l, ts⟩, by rw [← hd]; rfl, by rw [hn]; rfl, rfl, rfl, pop_valid hf, hw⟩
end Go.Proofs.Ytgiebofmfkacgaa
namespace Go.Proofs.Ytgiebofmfkacgaa
open Go.RowKit

theorem cf_valid {c : Ck} (h : (clockFault c).1 = 0) : Valid c := (valid_iff c).1 (by rw [← fault_eq]; exact h)
end Go.Proofs.Ytgiebofmfkacgaa
namespace Go.Proofs.Ytgiebofmfkacgaa
open Go.RowKit

theorem slpA_placed (t : Tm) : ∀ (l acc : List Tm), l.foldl (slpS t) (acc, true) = (acc ++ l, true)
  | [], acc => by simp
  | x :: l, acc => by
    have : slpS t (acc, true) x = (acc ++ [x], true) := by simp [slpS]
    rw [List.foldl_cons, this, slpA_placed t l]; simp
theorem slpA_open (t : Tm) : ∀ (l acc : List Tm), l.foldl (slpS t) (acc, false) = (if l.any (fun x => laterB x t) then (acc ++ l.takeWhile (fun x => !laterB x t) ++ t :: l.dropWhile (fun x => !laterB x t), true) else (acc ++ l, false))
  | [], acc => by simp
  | x :: l, acc => by
    rw [List.foldl_cons]
    by_cases h : laterB x t
    · have : slpS t (acc, false) x = (acc ++ [t] ++ [x], true) := by simp [slpS, h]
      rw [this, slpA_placed]
      simp [h]
    · have : slpS t (acc, false) x = (acc ++ [x], false) := by simp [slpS, h]
      rw [this, slpA_open t l]
      simp [h]
theorem while_all {α : Type} {p : α → Bool} : ∀ {l : List α}, (∀ x ∈ l, p x = true) → l.takeWhile p = l ∧ l.dropWhile p = []
  | [], _ => by simp
  | x :: l, h => by
    have := while_all (l := l) fun y hy => h y (List.mem_cons_of_mem _ hy)
    simp [h x List.mem_cons_self, this.1, this.2]
theorem sleptT_eq (t : Tm) (ts : List Tm) : sleptT t ts = ts.takeWhile (fun x => !laterB x t) ++ t :: ts.dropWhile (fun x => !laterB x t) := by
  unfold sleptT slpA
  rw [slpA_open]
  by_cases h : ts.any (fun x => laterB x t)
  · simp [h]
  · have h' : ∀ x ∈ ts, (!laterB x t) = true := by simpa using h
    rw [if_neg h]
    simp only [Bool.false_eq_true, if_false, List.nil_append]
    obtain ⟨e1, e2⟩ := while_all h'
    rw [e1, e2]
theorem while_at {α : Type} {p : α → Bool} : ∀ {l : List α} {i : Nat}, i ≤ l.length → (∀ a (h : a < l.length), a < i → p l[a] = true) → (∀ (h : i < l.length), p l[i] = false) → l.takeWhile p = l.take i ∧ l.dropWhile p = l.drop i
  | [], i, hi, _, _ => by simp at hi; subst hi; simp
  | x :: l, 0, hi, _, h2 => by have := h2 (by simp); simp at this; simp [this]
  | x :: l, i + 1, hi, h1, h2 => by
    have hx := h1 0 (by simp) (by omega)
    simp only [List.getElem_cons_zero] at hx
    have := while_at (l := l) (i := i) (by simpa using hi) (fun a h ha => by have := h1 (a + 1) (by simpa using h) (by omega); simpa using this) (fun h => by have := h2 (by simpa using h); simpa using this)
    simp [hx, this.1, this.2]
theorem ins_slept {ts : List Tm} {t : Tm} (hs : ts.Pairwise Later) (ht : ∀ x ∈ ts, x.ser < t.ser) : insT ts (bsf ts t) t = sleptT t ts := by
  have hb : ∀ a (h : a < ts.length), before ts t a = !laterB ts[a] t := fun a h => by
    simp only [before, List.getElem?_eq_getElem h]
    have hx := ht ts[a] (List.getElem_mem h)
    generalize ts[a] = x at *
    obtain ⟨x1, x2, x3⟩ := x
    obtain ⟨t1, t2, t3⟩ := t
    simp only [orderI, orI, cmpI, laterB] at *
    by_cases h1 : x1 < t1
    · have : ¬ t1 < x1 := by omega
      have : ¬ x1 = t1 := by omega
      simp [*]
    · by_cases h2 : t1 < x1
      · simp [h1, h2]
      · have : x1 = t1 := by omega
        subst this
        have : ¬ t2 < x2 := by omega
        simp [*]
  have hmono : ∀ a b, a < b → b < ts.length → before ts t b = true → before ts t a = true := fun a b hab hbl h => by
    rw [hb b hbl] at h
    rw [hb a (by omega)]
    have hl : Later ts[a] ts[b] := List.pairwise_iff_getElem.1 hs a b (by omega) hbl hab
    have h' : laterB ts[b] t = false := by simpa using h
    cases hq : laterB ts[a] t
    · rfl
    · have : laterB ts[b] t = true := later_trans (a := t) (b := ts[a]) (c := ts[b]) hq hl
      rw [this] at h'; cases h'
  obtain ⟨q1, q2, q3, q4⟩ := bs_spec (before ts t) ts.length hmono (ts.length - 0) 0 ts.length (Nat.le_refl _) (Nat.zero_le _) (Nat.le_refl _)
  rw [sleptT_eq, insT]
  obtain ⟨w1, w2⟩ := while_at (p := fun x => !laterB x t) (l := ts) (i := bsf ts t) q2 (fun a h ha => by rw [← hb a h]; exact q3 a (Nat.zero_le _) ha) (fun h => by rw [← hb _ h]; exact q4 _ (Nat.le_refl _) h)
  rw [w1, w2]
theorem ready_small (c : Ck) (n : Int) : Small (readyM c n).1 := by
  unfold readyM
  split
  · rename_i h
    have := idle_small h
    exact ⟨by simp; omega, by dsimp only; omega⟩
  · exact ⟨by simp, by simp⟩
theorem sleep_small (c : Ck) (n d : Int) : Small (sleepM c n d).1 := by
  unfold sleepM
  split
  · rename_i h
    have := idle_small h
    split
    · exact ⟨by simp, by simp⟩
    · split
      · exact ready_small c n
      · split
        · refine ⟨by dsimp only; omega, ?_⟩
          dsimp only
          rw [insT_length _ _ _ (bsf_le _ _)]; omega
        · exact ⟨by simp, by simp⟩
  · exact ⟨by simp, by simp⟩
/-- What Ready and Sleep answer. -/
theorem idle_eq {c : Ck} {n : Int} (hv : (clockFault c).1 = 0) : idleF c n = if timeB n then (if busy c.rs c.ts n then (8, -2) else if c.rs.length + c.ts.length = 1000 then (2, -2) else (0, 0)) else (4, -2) := by
  rw [fault_eq] at hv
  have h : (has c.rs n || busyT c.ts n) = (busyT c.ts n || has c.rs n) := Bool.or_comm _ _
  unfold idleF busy
  rw [if_pos hv, h]
theorem timeB_iff (n : Int) : timeB n = true ↔ 0 ≤ n ∧ n ≤ 1000000000000000 := by simp [timeB]
theorem idle_ok {c : Ck} {n : Int} (hv : (clockFault c).1 = 0) (h : 0 ≤ n ∧ n ≤ 1000000000000000) (hb : busy c.rs c.ts n = false) (hl : ¬ (c.rs.length : Int) + (c.ts.length : Int) = 1000) : (idleF c n).1 = 0 := by
  rw [idle_eq hv, if_pos ((timeB_iff n).2 h), hb, if_neg (by simp), if_neg (by omega)]
theorem ready_ok {c : Ck} {n : Int} (hv : (clockFault c).1 = 0) (h : 0 ≤ n ∧ n ≤ 1000000000000000) (hb : busy c.rs c.ts n = false) (hl : ¬ (c.rs.length : Int) + (c.ts.length : Int) = 1000) : readyM c n = (enq c n, (0, 0)) := by
  simp [readyM, idle_ok hv h hb hl, enq]
theorem sleep_ok {c : Ck} {n d : Int} (hv : (clockFault c).1 = 0) (h : 0 ≤ n ∧ n ≤ 1000000000000000) (hb : busy c.rs c.ts n = false) (hl : ¬ (c.rs.length : Int) + (c.ts.length : Int) = 1000) (hd : 0 ≤ d ∧ d ≤ 1000000000) (hx : d = 0 ∨ c.now + d ≤ 1000000000000000 ∧ ¬ c.ser = 1000000000000000) : sleepM c n d = (sleptM c n d, (0, 0)) := by
  have hV := cf_valid hv
  have hnow := timeB_le hV.now
  have hser := timeB_le hV.ser
  have e1 : ¬ (d < 0 ∨ 1000000000 < d) := by omega
  by_cases e2 : d = 0
  · simp [sleepM, idle_ok hv h hb hl, e2, ready_ok hv h hb hl, sleptM]
  · have e3 : (timeB (c.now + d) && timeB (c.ser + 1)) = true := by
      rw [Bool.and_eq_true, timeB_iff, timeB_iff]; omega
    have e4 := ins_slept (ts := c.ts) (t := newT c n d) hV.sorted (fun x hx => by have := hV.times x hx; simp [okT] at this; simp [newT]; omega)
    simp only [sleepM, idle_ok hv h hb hl, if_true, if_neg e1, if_neg e2, if_pos e3, sleptM, e4]
    rfl
end Go.Proofs.Ytgiebofmfkacgaa
namespace Go.Proofs.Ytgiebofmfkacgaa
open Go.RowKit

theorem args1' {ρ : Rho} {G : FG} {w : World} {x : V} {vs : List Value} (h : ArgsAt ρ G w [.d (.u x)] vs) : ∃ v, vs = [v] ∧ DenV ⟨G, w⟩ x v := by
  obtain ⟨v, rfl, h1⟩ := args1 h
  cases h1 with | d h1 => cases h1 with | u h1 => exact ⟨v, rfl, h1⟩
theorem cloneI_T (k : Nat) (zs : List Int) (hl : zs.length ≤ 17592186043904) : CallsA Try.prog 50 [.d (.u (ivs zs))] [] (Iso (.d (.ow k zs.length)) [(k, .ar 3 1 (zs.map fun n => [V.int .i64 n]))]) :=
  callsA_own (cells := ints zs) ⟨_, _, Try.func50, rfl, rfl⟩ (by simp) (fun z => ints_den z zs) (by simp) fun ρ G w vs h => by
    obtain ⟨v, rfl, h1⟩ := args1' h
    obtain ⟨A, cc, rfl, q1, q2, q3⟩ := den_rows (g := fun n : Int => [V.int .i64 n]) (xs := zs) (cs := ints zs) h1 h.2.2 (fun z us h => den_ints h)
    exact clone_int A cc zs w q1 hl
theorem cloneT_T (k : Nat) (zs : List Tm) (hl : zs.length ≤ 1000000) : CallsA Try.prog 51 [.d (.u (tvs zs))] [] (Iso (.d (.ow k zs.length)) [(k, .ar 46 3 (zs.map Tm.v))]) :=
  callsA_own (cells := rows Tm.cells zs) ⟨_, _, Try.func51, rfl, rfl⟩ (by simp) (fun z => tms_den z zs) (by simp) fun ρ G w vs h => by
    obtain ⟨v, rfl, h1⟩ := args1' h
    obtain ⟨A, cc, rfl, q1, q2, q3⟩ := den_rows (g := Tm.v) (xs := zs) (cs := rows Tm.cells zs) h1 h.2.2 (fun z us h => den_tms h)
    exact clone_tm A cc zs w q1 (by omega) (by omega)
theorem time_T (n : Int) : CallsA Try.prog 35 [di n] [] (Is (db (timeB n))) :=
  callsA_flat ⟨_, _, Try.func35, rfl, rfl⟩ (fun _ _ => .d (.u (.bool _))) fun ρ G w vs h => by
    obtain ⟨v, rfl, h1⟩ := args1 h
    rw [den_int h1]
    exact (time_any n w).mono fun e w' ⟨h1, h2⟩ => ⟨h1, h2 ▸ Below.refl _ _⟩
theorem timer_T (c : Ck) (hs : Small c) (x : Int) : CallsA Try.prog 43 [.a c.d, di x] [] (Is (di (tidx c.ts x))) :=
  callsA_flat ⟨_, _, Try.func43, rfl, rfl⟩ (fun _ _ => .d (.u (.int _ _))) fun ρ G w vs h => by
    obtain ⟨v, u, rfl, h1, h2⟩ := args2 h
    rw [den_int h2]
    exact timer_any c v x w (den_ck h1 h.2.2 hs)
theorem timer_T' (now ser : Int) (rs : List Int) (ts : List Tm) (h1 : rs.length ≤ 1000000) (h2 : ts.length ≤ 1000000) (x y : Int) (e : tidx ts x = y) : CallsA Try.prog 43 [.a [.u (.int .i64 now), .u (.int .i64 ser), .u (ivs rs), .u (tvs ts)], di x] [] (Is (di y)) := e ▸ timer_T ⟨now, ser, rs, ts⟩ ⟨by dsimp only; omega, by dsimp only; omega⟩ x
/-- A copy of a clock: its arrays are its own. -/
theorem clone_T (now ser : Int) (rs : List Int) (ts : List Tm) (h1 : rs.length ≤ 1000000) (h2 : ts.length ≤ 1000000) : CallsA Try.prog 34 [.a [.u (.int .i64 now), .u (.int .i64 ser), .u (ivs rs), .u (tvs ts)]] [] (Iso (.a [.u (.int .i64 now), .u (.int .i64 ser), .ow 901 rs.length, .ow 902 ts.length]) [(901, .ar 3 1 (rs.map fun n => [V.int .i64 n])), (902, .ar 46 3 (ts.map Tm.v))]) := by
  refine callsA_of_vcO (T := tt) Try.func34 rfl rfl rfl rfl rfl ?_
  repeat' ((conv => whnf); first | refine Gs.id ?_ | refine Drw.of (T := tt) (i := 1) [7, 8, 9] [] [(0, true), (1, true), (3, true), (4, true), (2, false), (6, true), (5, false), (7, false), (8, false), (9, false)] (by kernel_rfl) ?_ | (refine CL.mk (Or.inr (RawK.callN [901] rfl rfl rfl rfl (cloneI_T 901 _ (by omega)) ?_)); rintro _ _ ⟨rfl, rfl⟩; refine Bk.mk rfl rfl ?_) | (refine CL.mk (Or.inr (RawK.callN [902] rfl rfl rfl rfl (cloneT_T 902 _ h2) ?_)); rintro _ _ ⟨rfl, rfl⟩; refine Bk.mk rfl rfl ?_))
  all_goals (conv => whnf)
  · refine RetO.mk ⟨[(901, .k 901), (902, .k 902)], _, _, (by exact LeS.a (by repeat (first | exact LeL.nil | refine LeL.cons (by first | exact LeD.u rfl | exact LeD.ow rfl rfl) ?_))), (by repeat (first | exact LeO.nil | refine LeO.ar rfl rfl (by rfl) ?_)), rfl, rfl⟩
theorem del_rows {α : Type} (rs z : List α) (i : Nat) (hi : i < rs.length) : (putR (putR rs ((rs.drop (i + 1)).take (rs.length - (i + 1))) i) z (i + (rs.length - (i + 1)))).take (rs.length - 1) = rs.eraseIdx i := by
  have e1 : (rs.drop (i + 1)).take (rs.length - (i + 1)) = rs.drop (i + 1) := List.take_of_length_le (by simp)
  have e2 : i + (rs.length - (i + 1)) = rs.length - 1 := by omega
  have e3 : putR rs (rs.drop (i + 1)) i = rs.eraseIdx i ++ rs.drop (i + (rs.length - (i + 1))) := by
    rw [putR, List.eraseIdx_eq_take_drop_succ]; simp
  have e4 : (rs.eraseIdx i).length = rs.length - 1 := List.length_eraseIdx_of_lt hi
  rw [e1, e3, e2, putR, List.append_assoc, List.take_append_of_le_length (by simp; omega), List.take_take, Nat.min_self, List.take_left' e4]
theorem deleteT_T (ts : List Tm) (i : Nat) (hi : i < ts.length) (hl : ts.length ≤ 1000000) : CallsA Try.prog 44 [.d (.ow 902 ts.length), di i, di (i + 1)] [(902, .ar 46 3 (ts.map Tm.v))] (Iso (.d (.ow 902 (ts.length - 1))) [(902, .ar 46 3 ((ts.eraseIdx i).map Tm.v))]) := by
  refine callsA_of_vcO (T := tt) Try.func44 rfl rfl rfl rfl rfl ?_
  repeat' ((conv => whnf); first | refine Gs.id ?_ | refine Brn.F (by (try simp only [smT]); first | rfl | omega) ?_ | (refine Bnd.mk (fun hm => ?_); (try simp only [smT] at hm)) | refine Raw.appendIn (T := tt) rfl rfl rfl rfl rfl rfl rfl rfl rfl rfl (by (try simp only [smT]); omega) (by (try simp only [smT]); omega) ?_ | refine Raw.clear (T := tt) rfl rfl rfl rfl rfl rfl rfl (by (try simp only [smT]); omega) ?_ | refine Slc.mk ⟨_, _, rfl, rfl, (by (try simp only [smT]); omega), (by (try simp only [smT]); omega), ?_⟩ | refine Slc3.mk ⟨_, _, _, rfl, rfl, rfl, (by (try simp only [smT]); omega), (by (try simp only [smT]); omega), (by (try simp only [smT]); omega)⟩ ?_ | refine Drw.of (T := tt) (i := 5) [6, 7] [] [(0, true), (1, true), (2, true), (3, true), (4, true), (5, true), (6, false), (7, false)] (by kernel_rfl) ?_)
  all_goals (conv => whnf)
  · have e : i + (ts.length - (i + 1)) = ts.length - 1 := by omega
    refine RetO.mk ⟨[(902, .k 902)], _, _, .d (.ow rfl e), LeO.tr (m := ts.length - 1) rfl rfl ?_ ?_ .nil, rfl, rfl⟩
    · simp only [smT]; omega
    · have := del_rows (ts.map Tm.v) (List.replicate (ts.length - (i + (ts.length - (i + 1)))) [V.int .i64 0, V.int .i64 0, V.int .i64 0]) i (by simpa using hi)
      simp only [List.length_map] at this
      rw [this]
      simp only [List.eraseIdx_eq_take_drop_succ, List.map_take, List.map_drop, List.map_append]
theorem contains_T (zs : List Int) (x : Int) (hl : zs.length ≤ 1000000) : CallsA Try.prog 42 [.d (.u (ivs zs)), di x] [] (Is (db (has zs x))) :=
  callsA_flat ⟨_, _, Try.func42, rfl, rfl⟩ (fun _ _ => .d (.u (.bool _))) fun ρ G w vs h => by
    obtain ⟨v, u, rfl, h1, h2⟩ := args2 h
    rw [den_int h2]
    cases h1 with | d h1 => cases h1 with | u h1 =>
    obtain ⟨A, cc, rfl, q1, q2, q3⟩ := den_rows (g := fun n : Int => [V.int .i64 n]) (xs := zs) (cs := ints zs) h1 h.2.2 (fun z us h => den_ints h)
    exact (contains_int A cc zs x w q1 (by unfold maxLen at q3; omega)).mono fun e w' ⟨h1, h2⟩ => ⟨h1, h2 ▸ Below.refl _ _⟩
/-- A timer is struck out. -/
def strike (ts : List Tm) (x : Int) : List Tm := if 0 ≤ tidx ts x then ts.eraseIdx (tidx ts x).toNat else ts
def wakeP (c : Ck) (n : Int) : Ck × (Int × Int) :=
  if (validate c).1 = 0 then (if timeB n then (if has c.rs n then (c, (0, 0)) else
    if c.rs.length + (strike c.ts n).length = 1000 then (⟨0, 0, [], []⟩, (2, -2)) else (⟨c.now, c.ser, c.rs ++ [n], strike c.ts n⟩, (0, 0))) else (⟨0, 0, [], []⟩, (4, -2))) else (⟨0, 0, [], []⟩, validate c)
theorem tidx_lt (ts : List Tm) (x : Int) : tidx ts x < ts.length := by
  unfold tidx
  split
  · rename_i i h
    have := (List.findIdx?_eq_some_iff_getElem.1 h).1
    omega
  · omega
theorem wakeP_rng {c : Ck} {n : Int} (hv : (validate c).1 = 0) (ht : timeB n = false) : wakeP c n = (⟨0, 0, [], []⟩, (4, -2)) := by simp [wakeP, hv, ht]
theorem wakeP_has {c : Ck} {n : Int} (hv : (validate c).1 = 0) (ht : timeB n = true) (hh : has c.rs n = true) : wakeP c n = (c, (0, 0)) := by simp [wakeP, hv, ht, hh]
theorem wakeP_full {c : Ck} {n : Int} (hv : (validate c).1 = 0) (ht : timeB n = true) (hh : has c.rs n = false) (hl : (c.rs.length : Int) + ((strike c.ts n).length : Int) = 1000) : wakeP c n = (⟨0, 0, [], []⟩, (2, -2)) := by
  have : c.rs.length + (strike c.ts n).length = 1000 := by omega
  simp [wakeP, hv, ht, hh, this]
theorem wakeP_ok {c : Ck} {n : Int} (hv : (validate c).1 = 0) (ht : timeB n = true) (hh : has c.rs n = false) (hl : ¬ (c.rs.length : Int) + ((strike c.ts n).length : Int) = 1000) : wakeP c n = (⟨c.now, c.ser, c.rs ++ [n], strike c.ts n⟩, (0, 0)) := by
  have : ¬ c.rs.length + (strike c.ts n).length = 1000 := by omega
  simp [wakeP, hv, ht, hh, this]
theorem wake_T (c : Ck) (hs : Small c) (n : Int) : CallsA Try.prog 25 [.a c.d, di n] [] (Is (.t [.a (wakeP c n).1.d, .a (fd (wakeP c n).2)])) := by
  by_cases hv : (validate c).1 = 0
  · have hsm := validate_small hv
    have hlt := tidx_lt c.ts n
    generalize hi : tidx c.ts n = ix at hlt
    obtain ⟨now, ser, rs, ts⟩ := c
    dsimp only [Ck.d] at hsm hlt hi ⊢
    by_cases hx : 0 ≤ ix
    · obtain ⟨i, rfl⟩ : ∃ i : Nat, ix = (i : Int) := ⟨ix.toNat, by omega⟩
      have hst : strike ts n = ts.eraseIdx i := by simp [strike, hi]
      have hel : (ts.eraseIdx i).length = ts.length - 1 := List.length_eraseIdx_of_lt (by omega)
      refine callsA_of_vc (T := tt) Try.func25 rfl rfl rfl rfl rfl ?_
      repeat' ((conv => whnf); first | refine Gs.id ?_ | with_reducible refine Brn.T rfl ?_ | refine Brn.F (by (try simp only [smT]); first | rfl | assumption | omega) ?_ | (refine Brn.mk (fun hb => ?_) (fun hb => ?_) <;> (try simp only [smT] at hb) <;> (try (exact absurd trivial hb)) <;> (try (exfalso; omega))) | (refine Bnd.mk (fun hm => ?_); (try simp only [smT] at hm)) | refine Rng.mk (by (try simp only [smT]); omega) ?_ | refine Len.mk (by first | rfl | (simp; done) | (simp only [smT]; assumption)) ?_ | refine Apd.mk (by first | rfl | simp) (by rfl) (by (try simp only [smT]); omega) (by unfold maxLen; first | (simp; omega)) ?_ | (refine CL.mk (Or.inl ?_); (conv => whnf); first | refine Cl.is (validate_T ⟨_, _, _, _⟩ hs) rfl (by exact fun _ => rfl) ?_ | refine Cl.is (time_T _) rfl (by exact fun _ => rfl) ?_) | (refine CL.mk (Or.inl ?_); (conv => whnf); refine ClO.mk (Or.inl ?_); (repeat ((conv => whnf); refine Len.mk (by first | rfl | (simp; done)) ?_)); (conv => whnf); first | refine Cl.is (contains_T _ _ (by omega)) rfl (by exact fun _ => rfl) ?_ | refine Cl.is (timer_T' _ _ rs ts (by omega) (by omega) _ _ hi) rfl (by exact fun _ => rfl) ?_) | (refine CL.mk (Or.inr (Raw.callI [] [901,902] rfl rfl rfl rfl rfl rfl rfl (clone_T _ _ rs ts (by omega) (by omega)) ?_)); rintro _ _ ⟨rfl, rfl⟩; refine Bk.mk rfl rfl ?_) | (refine CL.mk (Or.inr (Raw.callI [902] [902] rfl rfl rfl rfl rfl rfl rfl (deleteT_T ts i (by omega) (by omega)) ?_)); rintro _ _ ⟨rfl, rfl⟩; refine Bk.mk rfl rfl ?_))
      all_goals (conv => whnf)
      · rw [wakeP_rng hv (by assumption)]; exact Ret.nl (by repeat (first | exact NlL.nil | exact NlCs.nil | exact NlD.refl | exact NlD.u (NlV.nl (by rfl)) | refine NlL.cons ?_ ?_ | refine NlCs.cons ?_ ?_ | refine NlS.t ?_ | refine NlC.a ?_))
      · rw [wakeP_has hv (by assumption) (by assumption)]; exact Ret.is rfl
      · rw [wakeP_ok hv (by assumption) (by assumption) (by dsimp only; rw [hst, hel]; omega), hst]; exact Ret.is (by simp [tupT, SC.up, upT])
    · have hst : strike ts n = ts := by simp [strike, hi, hx]
      refine callsA_of_vc (T := tt) Try.func25 rfl rfl rfl rfl rfl ?_
      repeat' ((conv => whnf); first | refine Gs.id ?_ | refine Brn.F (by (try simp only [smT]); first | rfl | assumption | omega) ?_ | (refine Brn.mk (fun hb => ?_) (fun hb => ?_) <;> (try simp only [smT] at hb) <;> (try (exact absurd trivial hb)) <;> (try (exfalso; omega))) | (refine Bnd.mk (fun hm => ?_); (try simp only [smT] at hm)) | refine Rng.mk (by (try simp only [smT]); omega) ?_ | refine Len.mk (by first | rfl | (simp; done)) ?_ | refine Apd.mk (by first | rfl | simp) (by rfl) (by (try simp only [smT]); omega) (by unfold maxLen; first | (simp; omega)) ?_ | (refine CL.mk (Or.inl ?_); (conv => whnf); first | refine Cl.is (validate_T ⟨_, _, _, _⟩ hs) rfl (by exact fun _ => rfl) ?_ | refine Cl.is (time_T _) rfl (by exact fun _ => rfl) ?_) | (refine CL.mk (Or.inl ?_); (conv => whnf); refine ClO.mk (Or.inl ?_); (repeat ((conv => whnf); refine Len.mk (by first | rfl | (simp; done)) ?_)); (conv => whnf); first | refine Cl.is (contains_T _ _ (by omega)) rfl (by exact fun _ => rfl) ?_ | refine Cl.is (timer_T' _ _ rs ts (by omega) (by omega) _ _ hi) rfl (by exact fun _ => rfl) ?_) | (refine CL.mk (Or.inr (Raw.callI [] [901,902] rfl rfl rfl rfl rfl rfl rfl (clone_T _ _ rs ts (by omega) (by omega)) ?_)); rintro _ _ ⟨rfl, rfl⟩; refine Bk.mk rfl rfl ?_))
      all_goals (conv => whnf)
      · rw [wakeP_rng hv (by assumption)]; exact Ret.nl (by repeat (first | exact NlL.nil | exact NlCs.nil | exact NlD.refl | exact NlD.u (NlV.nl (by rfl)) | refine NlL.cons ?_ ?_ | refine NlCs.cons ?_ ?_ | refine NlS.t ?_ | refine NlC.a ?_))
      · rw [wakeP_has hv (by assumption) (by assumption)]; exact Ret.is rfl
      · rw [wakeP_full hv (by assumption) (by assumption) (by dsimp only; rw [hst]; omega)]; exact Ret.nl (by repeat (first | exact NlL.nil | exact NlCs.nil | exact NlD.refl | exact NlD.u (NlV.nl (by rfl)) | refine NlL.cons ?_ ?_ | refine NlCs.cons ?_ ?_ | refine NlS.t ?_ | refine NlC.a ?_))
      · rw [wakeP_ok hv (by assumption) (by assumption) (by dsimp only; rw [hst]; omega), hst]; exact Ret.is (by simp [tupT, SC.up, upT])
  · have e : wakeP c n = (⟨0, 0, [], []⟩, validate c) := by simp [wakeP, hv]
    rw [e]
    obtain ⟨now, ser, rs, ts⟩ := c
    dsimp only [Ck.d]
    refine callsA_of_vc (T := tt) Try.func25 rfl rfl rfl rfl rfl ?_
    repeat' ((conv => whnf); first | refine Gs.id ?_ | with_reducible refine And.intro ?_ ?_ | refine Brn.T (by (try simp only [smT]); first | rfl | assumption) ?_ | refine Drw.all (T := tt) (i := 3) (OT.alt 0 (OT.alt 1 (OT.alt 2 (OT.alt 3 OT.nil OT.nil) OT.nil) (OT.alt 2 (OT.alt 1 (OT.alt 3 OT.nil OT.nil) OT.nil) OT.nil)) (OT.alt 1 (OT.alt 0 (OT.alt 2 (OT.alt 3 OT.nil OT.nil) OT.nil) OT.nil) OT.nil)) (by kernel_rfl) ?_ | (refine CL.mk (Or.inl ?_); (conv => whnf); refine Cl.is (validate_T ⟨_, _, _, _⟩ hs) rfl (by exact fun _ => rfl) ?_))
    all_goals (conv => whnf)
    all_goals exact Ret.nl (by repeat (first | exact NlL.nil | exact NlCs.nil | exact NlD.refl | exact NlD.u (NlV.nl (by rfl)) | refine NlL.cons ?_ ?_ | refine NlCs.cons ?_ ?_ | refine NlS.t ?_ | refine NlC.a ?_))
end Go.Proofs.Ytgiebofmfkacgaa
namespace Go.Proofs.Ytgiebofmfkacgaa
open Go.RowKit

structure Rc where
  time : Int
  task : Int
  kind : Int
  n : Int
abbrev Rc.v (r : Rc) : List V := [.int .i64 r.time, .int .i64 r.task, .int .i64 r.kind, .int .i64 r.n]
structure Ac where
  kind : Int
  n : Int
abbrev Ac.v (a : Ac) : List V := [.int .i64 a.kind, .int .i64 a.n]
abbrev avs (l : List Ac) : V := .sl 2 (l.map Ac.v)
structure Jb where
  acts : List Ac
  guard : List Ac
abbrev Jb.v (j : Jb) : List V := [avs j.acts, avs j.guard]
abbrev jvs (l : List Jb) : V := .sl 2 (l.map Jb.v)
structure Tsk where
  job : Int
  begun : Bool
  guarding : Bool
  ended : Bool
  cancelled : Bool
  left : List Ac
  waiters : List Int
abbrev Tsk.row (t : Tsk) : List E := [.v (.int .i64 t.job), .v (.bool t.begun), .v (.bool t.guarding), .v (.bool t.ended), .v (.bool t.cancelled), .v (avs t.left), .os 3 1 (t.waiters.map fun n => [V.int .i64 n])]
abbrev ptrs (n : Nat) : List (List V) := (List.range n).map fun i => [V.m 2 i 0]
abbrev smRow (jobs : List Jb) (now ser : Int) (rs : List Int) (ts : List Tm) (n : Nat) (log : List Rc) : List E := [.v (jvs jobs), .v (.int .i64 now), .v (.int .i64 ser), .v (ivs rs), .v (tvs ts), .os 102 1 (ptrs n), .os 55 4 (log.map Rc.v)]
abbrev smOb (jobs : List Jb) (now ser : Int) (rs : List Int) (ts : List Tm) (tasks : List Tsk) (log : List Rc) : List (Nat × Ob) := [(1, .fm 80 [smRow jobs now ser rs ts tasks.length log]), (2, .fm 104 (tasks.map Tsk.row))]
abbrev smP : SV := .d (.u (.m 1 0 0))

theorem note_T (jobs : List Jb) (now ser : Int) (rs : List Int) (ts : List Tm) (tasks : List Tsk) (log : List Rc) (n k x : Int) (hl : log.length ≤ 1000000) : CallsA Try.prog 61 [smP, di n, di k, di x] (smOb jobs now ser rs ts tasks log) (Iso (.t []) (smOb jobs now ser rs ts tasks (log ++ [⟨now, n, k, x⟩]))) := by
  refine callsA_of_vcO (T := tt) Try.func61 rfl rfl rfl rfl rfl ?_
  repeat' ((conv => whnf); first | refine Rw.lit rfl ?_ | refine Len.mk (by rfl) ?_ | refine Apd.mk (by rfl) (by rfl) (by (try simp only [smT]); omega) (by unfold maxLen; first | (simp; omega)) ?_ | (refine Raw.appendR (T := tt) ?_; (conv => whnf); refine Rw.lit rfl ?_) | refine Drw.of (T := tt) (i := 0) [15, 16, 17, 18] [0] [(0, true), (1, true), (2, true), (3, true), (4, true), (5, true), (6, true), (7, true), (8, true), (9, true), (10, true), (11, true), (12, true), (13, true), (14, false), (15, false), (16, false), (17, false), (18, false)] (by kernel_rfl) ?_)
  all_goals (conv => whnf)
  · exact RetO.mk ⟨[], _, _, .ts .nil, LeO.fm rfl (by simp [Rc.v]) (LeO.fm rfl rfl .nil), rfl, rfl⟩
theorem ready_T' (now ser : Int) (rs : List Int) (ts : List Tm) (hs : Small ⟨now, ser, rs, ts⟩) (n y1 y2 : Int) (y3 : List Int) (y4 : List Tm) (f : Int × Int) (e : readyM ⟨now, ser, rs, ts⟩ n = (⟨y1, y2, y3, y4⟩, f)) : CallsA Try.prog 11 [.a [.u (.int .i64 now), .u (.int .i64 ser), .u (ivs rs), .u (tvs ts)], di n] [] (Is (.t [.a [.u (.int .i64 y1), .u (.int .i64 y2), .u (ivs y3), .u (tvs y4)], .a (fd f)])) := by
  have := ready_T ⟨now, ser, rs, ts⟩ hs n
  rw [e] at this
  exact this
theorem ptrs_succ (n : Nat) : ptrs n ++ [[V.m 2 n 0]] = ptrs (n + 1) := by simp [ptrs, List.range_succ]
theorem spawn_T (jobs : List Jb) (now ser : Int) (rs : List Int) (ts : List Tm) (tasks : List Tsk) (log : List Rc) (j : Nat) (hj : j < jobs.length) (hn : tasks.length < 60) (hs : Small ⟨now, ser, rs, ts⟩) (y1 y2 : Int) (y3 : List Int) (y4 : List Tm) (f : Int × Int) (e : readyM ⟨now, ser, rs, ts⟩ tasks.length = (⟨y1, y2, y3, y4⟩, f)) :
    CallsA Try.prog 46 [smP, di j] (smOb jobs now ser rs ts tasks log) (Iso (.t []) (smOb jobs y1 y2 y3 y4 (tasks ++ [⟨j, false, false, false, false, jobs[j].acts, []⟩]) log)) := by
  refine callsA_of_vcO (T := tt) Try.func46 rfl rfl rfl rfl rfl ?_
  repeat' ((conv => whnf); first | refine Gs.id ?_ | refine Brn.F (by (try simp only [smT]); first | rfl | omega) ?_ | (refine Bnd.mk (fun hm => ?_); (try simp only [smT] at hm)) | refine Rng.mk (by (try simp only [smT]); omega) ?_ | refine Ix.map rfl (by (try simp only [smT]); omega) ?_ | refine Rw.lit rfl ?_ | refine Len.mk (by rfl) ?_ | refine Apd.mk (by rfl) (by rfl) (by (try simp only [smT]); omega) (by unfold maxLen; first | (simp; omega)) ?_ | (refine Raw.appendR (T := tt) ?_; (conv => whnf); refine Rw.lit rfl ?_) | refine Drw.of (T := tt) (i := 1) [17, 18, 19, 20] [0] [(0, true), (1, true), (2, true), (3, true), (4, true), (5, true), (6, true), (7, true), (8, true), (9, true), (10, true), (11, true), (12, true), (13, true), (14, true), (15, false), (16, false), (17, false), (18, false), (19, false), (20, false)] (by kernel_rfl) ?_ | refine Drw.of (T := tt) (i := 2) [17] [14] [(0, true), (1, true), (2, true), (3, true), (4, true), (5, true), (6, true), (7, true), (8, true), (9, true), (10, true), (11, false), (12, true), (13, true), (14, true), (15, true), (16, true), (17, false)] (by kernel_rfl) ?_ | (refine CL.mk (Or.inl ?_); (conv => whnf); refine Cl.is (ready_T' _ _ _ _ hs _ y1 y2 y3 y4 f (by simpa using e)) rfl (by first | (intro e; cases e; done)) ?_) | refine Spc.mk ⟨[(6,(3,1))], ?_⟩)
  all_goals (conv => whnf)
  · exact RetO.mk ⟨[], _, _, .ts .nil, LeO.fm rfl (by simp [ptrs_succ]) (LeO.fm rfl (by simp; rfl) .nil), rfl, rfl⟩

theorem note_T' (jobs : List Jb) (now ser : Int) (rs : List Int) (ts : List Tm) (tasks : List Tsk) (log : List Rc) (n k x : Int) (hl : log.length ≤ 1000000) (r1 r2 : List (List E)) (e1 : r1 = [smRow jobs now ser rs ts tasks.length log]) (e2 : r2 = tasks.map Tsk.row) :
    CallsA Try.prog 61 [smP, di n, di k, di x] [(1, .fm 80 r1), (2, .fm 104 r2)] (Iso (.t []) (smOb jobs now ser rs ts tasks (log ++ [⟨now, n, k, x⟩]))) := by
  subst e1 e2
  exact note_T jobs now ser rs ts tasks log n k x hl
theorem Rw_ptrs {n m : Nat} {K : List V → Prop} (h : m < n) (k : K [V.m 2 m 0]) : Rw (ptrs n) m K := ⟨_, by simp [ptrs, h], k⟩
def wakes (c : Ck) : List Int → Ck
  | [] => c
  | w :: r => wakes (readyM c w).1 r
theorem wakes_step (c : Ck) (ws : List Int) (i : Nat) (h : i < ws.length) : wakes c (ws.drop i) = wakes (readyM c ws[i]).1 (ws.drop (i + 1)) := by
  rw [List.drop_eq_getElem_cons h]; rfl
theorem Rw_tsk {l : List Tsk} {n : Nat} {t : Tsk} {K : List E → Prop} (h : l[n]? = some t) (k : K t.row) : Rw (l.map Tsk.row) n K := ⟨_, by simp [h], k⟩
theorem Rw_mset {l : List Tsk} {n : Nat} {t : Tsk} {K : List E → Prop} (h : n < l.length) (k : K t.row) : Rw ((l.set n t).map Tsk.row) n K := ⟨_, by simp [h], k⟩
theorem lt_of_get {α : Type} {l : List α} {n : Nat} {t : α} (h : l[n]? = some t) : n < l.length := (List.getElem?_eq_some_iff.1 h).1
theorem end_T (jobs : List Jb) (now ser : Int) (rs : List Int) (ts : List Tm) (tasks : List Tsk) (log : List Rc) (n : Nat) (job : Int) (begun guarding ended cancelled : Bool) (left : List Ac) (ws : List Int) (ht : tasks[n]? = some ⟨job, begun, guarding, ended, cancelled, left, ws⟩) (hl : log.length ≤ 1000000) (hs : Small ⟨now, ser, rs, ts⟩) (y1 y2 : Int) (y3 : List Int) (y4 : List Tm) (e : wakes ⟨now, ser, rs, ts⟩ ws = ⟨y1, y2, y3, y4⟩) (r1 r2 : List (List E)) (e1 : r1 = [smRow jobs now ser rs ts tasks.length log]) (e2 : r2 = tasks.map Tsk.row) :
    CallsA Try.prog 62 [smP, di n] [(1, .fm 80 r1), (2, .fm 104 r2)] (Iso (.t []) (smOb jobs y1 y2 y3 y4 (tasks.set n ⟨job, begun, guarding, true, cancelled, left, []⟩) (log ++ [⟨now, n, 3, 0⟩]))) := by
  subst e1 e2
  have hn := lt_of_get ht
  refine callsA_of_vcO (T := tt) Try.func62 rfl rfl rfl rfl rfl ?_
  repeat' ((conv => whnf); first | refine Rw_ptrs (by omega) ?_ | refine Rw_tsk ht ?_ | refine Rw_mset hn ?_ | refine Gs.id ?_ | (refine Bnd.mk (fun hm => ?_); (try simp only [smT] at hm)) | refine Ixo.mk ⟨_, rfl, (by (try simp only [smT]); omega), ?_⟩ | refine Rw.lit rfl ?_ | (refine CL.mk (Or.inr (Raw.callI [1,2] [1,2] rfl rfl rfl rfl rfl rfl rfl (note_T' jobs now ser rs ts (tasks.set n ⟨job, begun, guarding, true, cancelled, left, ws⟩) log _ _ _ hl _ _ (by simp) (by simp [List.map_set])) ?_)); rintro _ _ ⟨rfl, rfl⟩; refine Bk.mk rfl rfl ?_))
  all_goals (conv => whnf)
  · refine ⟨⟨Nat × Ck, fun q => q.1 ≤ ws.length ∧ wakes q.2 (ws.drop q.1) = ⟨y1, y2, y3, y4⟩ ∧ Small q.2, fun q => ws.length - q.1, fun q => ⟨[(0, smP), (4, .d (.u (.m 2 n 0))), (23, .d (.r 2 n 6 1 ws.length)), (24, di ws.length), (25, di q.1)], smOb jobs q.2.now q.2.ser q.2.rs q.2.ts (tasks.set n ⟨job, begun, guarding, true, cancelled, left, ws⟩) (log ++ [⟨now, n, 3, 0⟩])⟩, (0, ⟨now, ser, rs, ts⟩), ⟨Nat.zero_le _, e, hs⟩, ⟨[(1, .k 1), (2, .k 2)], ⟨by (try dsimp only); (repeat (refine LeT.cons rfl (by exact LeS.d (by first | exact LeD.u rfl | exact LeD.u (by simp; done) | exact LeD.r (by simp; done))) ?_)); exact LeT.nil, by (try dsimp only); repeat (first | exact LeO.nil | refine LeO.fm rfl (by rfl) ?_)⟩⟩, fun ⟨i, c⟩ ⟨hi, he, hc⟩ => ?_⟩⟩
    obtain ⟨b1, b2, b3, b4⟩ := c
    dsimp only at hi he hc ⊢
    generalize hz : readyM ⟨b1, b2, b3, b4⟩ (ws.getD i 0) = z
    obtain ⟨⟨z1, z2, z3, z4⟩, zf⟩ := z
    repeat' ((conv => whnf); first | refine Rw_mset hn ?_ | refine Gs.id ?_ | (refine Brn.mk (fun hb => ?_) (fun hb => ?_) <;> (try simp only [smT] at hb) <;> (try (exact absurd trivial hb)) <;> (try (exfalso; omega))) | refine Rng.mk (by (try simp only [smT]); omega) ?_ | refine Ixo.mk ⟨_, rfl, (by (try simp only [smT]); omega), ?_⟩ | refine Rw.lit rfl ?_ | refine Rw.map (by (try simp only [smT]); omega) ?_ | (refine CL.mk (Or.inl ?_); (conv => whnf); refine Cl.is (ready_T' _ _ _ _ hc _ z1 z2 z3 z4 zf (by have h9 : i < ws.length := (by omega); simpa [h9] using hz)) rfl (by first | (intro e; cases e; done)) ?_))
    all_goals (conv => whnf)
    · have h9 : i < ws.length := by omega
      have hz' : readyM ⟨b1, b2, b3, b4⟩ ws[i] = (⟨z1, z2, z3, z4⟩, zf) := by simpa [h9] using hz
      have hq := ready_small ⟨b1, b2, b3, b4⟩ ws[i]
      rw [wakes_step _ _ _ h9] at he
      rw [hz'] at he hq
      exact ⟨(i + 1, ⟨z1, z2, z3, z4⟩), ⟨by dsimp only; omega, he, hq⟩, by dsimp only; omega, [(1, .k 1), (2, .k 2)], ⟨by (try dsimp only); (repeat (refine LeT.cons rfl (by exact LeS.d (by first | exact LeD.u rfl | exact LeD.r rfl)) ?_)); exact LeT.nil, by (try dsimp only); repeat (first | exact LeO.nil | refine LeO.fm rfl (by rfl) ?_)⟩⟩
    · have h9 : i = ws.length := by omega
      subst h9
      rw [List.drop_length] at he
      injection he with q1 q2 q3 q4
      subst q1 q2 q3 q4
      exact RetO.mk ⟨[], _, _, .ts .nil, LeO.fm rfl (by simp) (LeO.fm rfl (by simp [List.map_set, Tsk.row]) .nil), rfl, rfl⟩
end Go.Proofs.Ytgiebofmfkacgaa
namespace Go.Proofs.Ytgiebofmfkacgaa
open Go.RowKit
section
variable {P : Program} {T : List (Nat × Ty)} {nt : Nat} {Q : Exit → Act → World → Prop} {c : Cx} {st : St} {tm : List (Nat × Value)} {h : Hs} {ρ : Rho} {G : FG} {ty : TypeId} {pos : String} {af : Array Edge} {gd : Option (Nat × Bool)} {K : Kt}
def putD (d : Option Tmp) (v : Value) (tm : List (Nat × Value)) : List (Nat × Value) := match d with
  | some d => (d, v) :: tm
  | none => tm
/-- A call of a function value. -/
theorem OpS.callV {d : Option Tmp} {x : Operand} {f : FuncId} {fn : Func} {cd : Code} {xs : List Operand} {ts : Array TypeId} {vs us : List Value} {K : List (Nat × Value) → Hs → Prop} (M : Value → Hs → Prop) (hx0 : ev tm x = some (.func (.func f) #[] us.toArray)) (hf : P.funcs[f]? = some fn) (hb : fn.body = some cd) (hnm : (fn.name == "runtime.NumGoroutine") = false) (hx : ArgsL tm xs vs)
    (hd : (match d with | some d => Nat.blt d nt | none => true) = true)
    (hC : ∀ w, Hp h w → Calls P f (vs ++ us).toArray w fun e w' => ∃ v h', e = .returned v ∧ Hp h' w' ∧ M v h') (k : ∀ v h', M v h' → K (putD d v tm) h') : OpS P nt Q ⟨d, .call ⟨.value x, xs.toArray, ts⟩, ty, pos, af, gd⟩ tm h K :=
  ⟨fun a w ha hw => by
    have hargs : xs.toArray.map a.eval = vs.toArray := by rw [List.map_toArray, hx.eq ha]
    have hrun : (execOp a.eval ⟨d, .call ⟨.value x, xs.toArray, ts⟩, ty, pos, af, gd⟩).run P w = .ok (.enter f (vs ++ us).toArray) w := by
      have hnm' : ¬ fn.name = "runtime.NumGoroutine" := by simpa using hnm
      simp only [execOp, resolve, Sem.run_bind, hargs, Deferred.ofValue, ha.ev hx0, invoke, callFunc]
      simp [hf, hb, hnm']
    unfold Oper.wp
    rw [hrun]
    refine (hC w hw).mono ?_
    rintro e w' ⟨v, h', rfl, h1, h2⟩
    cases d with
    | some d => exact ⟨_, h', ha.put (by simpa using hd) v, h1, k v h' h2⟩
    | none => exact ⟨_, h', ha, h1, k v h' h2⟩⟩
/-- A function value: the function, what it holds. -/
def fnT : Option SV → Option (FuncId × List SV)
  | some (.d (.fn f ks)) => some (f, ks.map fun k => SV.d (.p k 0))
  | some (.d (.u (.fn f))) => some (f, [])
  | some (.d (.u (.cl f cs))) => some (f, cs.map fun c => SV.d (.q c 0))
  | _ => none
theorem fnT_ev (g : Gd c st tm h ρ G) {x : Operand} {f : FuncId} {ks : List SV} (hx : fnT (evT st.tm x) = some (f, ks)) : ∃ us : List Value, ev tm x = some (.func (.func f) #[] us.toArray) ∧ us.length = ks.length ∧ ∀ (j : Nat) s v, ks[j]? = some s → us[j]? = some v → DenS ρ ⟨G, h.w0⟩ s v := by
  unfold fnT at hx
  split at hx
  · rename_i f' ks' e
    injection hx with hx
    injection hx with e1 e2
    subst e1 e2
    obtain ⟨v, hv, hs⟩ := g.ev e
    cases hs with | d hs => cases hs with | fn us hl hd =>
    refine ⟨us, hv, by simp [hl], fun j s v h1 h2 => ?_⟩
    rw [List.getElem?_map] at h1
    cases hj : ks'[j]? with
    | none => rw [hj] at h1; cases h1
    | some k =>
      rw [hj] at h1
      simp only [Option.map_some, Option.some.injEq] at h1
      subst h1
      obtain ⟨b, cc, sz, q1, rfl⟩ := hd j k v hj h2
      exact .d (.p q1)
  · rename_i f' e
    injection hx with hx
    injection hx with e1 e2
    subst e1 e2
    obtain ⟨v, hv, hs⟩ := g.ev e
    cases hs with | d hs => cases hs with | u hs => cases hs with | fn =>
    exact ⟨[], hv, rfl, fun j s v h1 h2 => by simp at h2⟩
  · rename_i f' cs e
    injection hx with hx
    injection hx with e1 e2
    subst e1 e2
    obtain ⟨v, hv, hs⟩ := g.ev e
    cases hs with | d hs => cases hs with | u hs =>
    obtain ⟨us, rfl, q2, q3⟩ := DenV.cl_inv (ρ := ρ) hs
    refine ⟨us, hv, by simp [q2], fun j s v h1 h2 => ?_⟩
    rw [List.getElem?_map] at h1
    cases hj : cs[j]? with
    | none => rw [hj] at h1; cases h1
    | some k =>
      rw [hj] at h1
      simp only [Option.map_some, Option.some.injEq] at h1
      subst h1
      exact .d (q3 j k v hj h2)
  · cases hx
/-- A call of a function value that lends the objects ps; ns: the names that it may give anew. -/
theorem Raw.callF {x : Operand} {f : FuncId} {ks : List SV} {xs : Array Operand} {ts : Array TypeId} {d : Option Tmp} {tmT tmK : List (Nat × SV)} {ob obP obF : List (Nat × Ob)} (ps ns : List Nat) {ss : List SV} {QS : SV → List (Nat × Ob) → Prop} (hf : fnT (evT tmT x) = some (f, ks)) (hT : keepTm (fun k => !inN ns k) [] tmT = tmK) (hO : (splitOb ps ob).1 = obP) (hO' : cleanOb (fun k => !inN ns k) (splitOb ps ob).2 = obF) (hx : evLT tmT xs.toList = some ss)
    (h2 : okO (fun k => !inN ns k) obF = true) (h3 : okO (inN ns) obP = true) (hd : (match d with | some d => Nat.blt d nt | none => true) = true) (hc : CallsA P f (ss ++ ks) obP QS) (k : ∀ s ob', QS s ob' → Bk d ns tmK obF K s ob') : Raw P nt ⟨d, .call ⟨.value x, xs, ts⟩, ty, pos, af, gd⟩ tmT ob K := ⟨fun Q c tm h ρ G g => by
  obtain ⟨F, w0, hp⟩ := h
  obtain ⟨ha, hb, o1, o2, o3⟩ := splitOb_ok (ps := ps) g.ob
  rw [hO] at o1
  replace o2 := cleanOb_ok (p := fun k => !inN ns k) o2
  rw [hO'] at o2
  have g2 : Gd c ⟨tmT, obP ++ obF⟩ tm ⟨F, w0, ha ++ hb⟩ ρ G := ⟨g.fF, g.fw, g.gF, g.gx, g.fm, g.tm, o1.append o2⟩
  have hh : ∀ w, Hp ⟨F, w0, hp⟩ w → Hp ⟨F, w0, ha ++ hb⟩ w := fun w hw => hw.perm o3
  subst hT
  obtain ⟨us, u1, u2, u3⟩ := fnT_ev g2 hf
  obtain ⟨vs, a1, a2, a3⟩ := evLT_ev g2 hx
  have hlen : (vs ++ us).length = (ss ++ ks).length := by simp [a2, u2]
  have hden : ∀ (j : Nat) s v, (ss ++ ks)[j]? = some s → (vs ++ us)[j]? = some v → DenS ρ ⟨G, w0⟩ s v := by
    intro j s v h1 h2
    by_cases hj : j < ss.length
    · rw [List.getElem?_append_left hj] at h1
      rw [List.getElem?_append_left (by rw [a2]; exact hj)] at h2
      exact a3 j s v h1 h2
    · rw [List.getElem?_append_right (by omega)] at h1
      rw [List.getElem?_append_right (by rw [a2]; omega), a2] at h2
      exact u3 _ s v h1 h2
  have hcall := callO_vals (tmK := keepTm (fun k => !inN ns k) [] tmT) g2 hlen hden (fun k s h => (keepTm_get h).2) keepTm_ok h2 h3 hc
  obtain ⟨fn, cd, f1, f2, f3⟩ := hc.fn
  have hxs : xs = xs.toList.toArray := by simp
  rw [hxs]
  refine OpS.callV (P := P) (nt := nt) (Q := Q) (fun v h2 => Kd c K (putD d v tm) h2) u1 f1 f2 f3 a1 hd (fun w hw => (hcall w (hh w hw)).mono ?_) fun _ _ hk => hk
  rintro e w' ⟨v, h3, s, ob', ρ', G', rfl, hw3, hq, hg, _⟩
  obtain ⟨b1, b2, b3⟩ := k s ob' hq
  obtain ⟨q1, q2⟩ := hg b1 b2
  cases d with
  | some d => exact ⟨v, h3, rfl, hw3, .of (q2.put q1) b3⟩
  | none => exact ⟨v, h3, rfl, hw3, .of q2 b3⟩⟩
theorem Gd.slot {st : St} (g : Gd c st tm h ρ G) {t : Nat} {s : SV} {v : Value} (hv : lk t tm = some v) (hs : DenS ρ ⟨G, h.w0⟩ s v) : Gd c ⟨(t, s) :: st.tm, st.ob⟩ tm h ρ G :=
  ⟨g.fF, g.fw, g.gF, g.gx, g.fm, fun k u hk => by
    simp only [lk] at hk
    cases hb : Nat.beq k t
    · rw [hb] at hk; exact g.tm k u hk
    · rw [hb] at hk
      simp only [cond_true, Option.some.injEq] at hk
      subst hk
      rw [Nat.eq_of_beq_eq_true hb]
      exact ⟨v, hv, hs⟩, g.ob⟩
/-- An array that a cell of a member owns moves out and is an own array from here on. -/
theorem Gd.take {tmT : List (Nat × SV)} {ob : List (Nat × Ob)} {F : Nat → Prop} {w0 : World} {hp : List (Nat × Hb)} (g : Gd c ⟨tmT, ob⟩ tm ⟨F, w0, hp⟩ ρ G) {K0 t k0 m o sz n u e : Nat} {rs : List (List E)} {row : List E} {rr : List (List V)} (hx : lk t tmT = some (.d (D.r k0 m o sz n))) (hkf : lk k0 ob = some (.fm u rs)) (h1 : famOne k0 ob = true) (hrow : rs[m]? = some row) (ho : nth row o = some (.os e sz rr)) (hn : rr.length = n)
    (hnew : newN K0 (dropT k0 tmT) (dropO k0 (obu k0 (.fm u (rs.set m (row.set o .hl))) ob)) = true) :
    ∃ hq ρ', hp.Perm hq ∧ Gd c ⟨(t, .d (.ow K0 n)) :: dropT k0 tmT, (K0, .ar e sz rr) :: dropO k0 (obu k0 (.fm u (rs.set m (row.set o .hl))) ob)⟩ tm ⟨F, w0, hq⟩ ρ' G := by
  rw [nth_eq] at ho
  obtain ⟨vx, q1, q2⟩ := g.tm t _ hx
  have hmem : ∃ b, (G.fam k0)[m]? = some b := by
    obtain ⟨Y, f, ⟨a1, _⟩, _⟩ := g.ob.at_ hkf
    obtain ⟨b, _, _, _, a2, _⟩ := a1.split hrow
    exact ⟨b, a2⟩
  obtain ⟨b0, hb0⟩ := hmem
  cases q2 with | d q2 => cases q2 with | @r _ _ _ _ _ cc A x0 xA xc xm =>
  obtain ⟨b, us, Xe, rest, _, hlt, hone, ⟨u0, hu0, A', cc', us1, rfl, rfl, t3, t4, t5, t6⟩, p1, _, p3⟩ := g.famPut (e' := .hl) (v := .slice A n cc) (p := .pointer (some ⟨b0, o, none⟩)) hkf h1 (.m hb0) hrow ho
  rw [x0] at t3
  injection t3 with t3
  injection t3 with e1 e2 _
  subst e1 e2
  obtain ⟨hq, z1, z2⟩ := p3 (some ⟨A, cc, sz⟩) [] ⟨rfl, rfl⟩
  have hset : us.set o (.slice A n cc) = us := by
    rw [hn] at hu0
    apply List.ext_getElem?
    intro jj
    rw [List.getElem?_set]
    split
    · rename_i ej; subst ej
      first | (rw [if_pos hlt, hu0]; done) | exact hu0.symm | (simp only [hlt, if_true]; exact hu0.symm)
    · rfl
  rw [hset] at z1
  have pp : hp.Perm (hbA A e us1 cc sz ++ ((b, ⟨u, us, us.length⟩) :: rest)) := p1.trans List.perm_middle.symm
  have hob : ObOk (upd (updOs ρ k0 m o (some ⟨A, cc, sz⟩)) K0 ⟨A, cc, sz⟩) ⟨G, w0⟩ K0 (.ar e sz rr) (hbA A e us1 cc sz) := ⟨A, cc, us1, rfl, upd_self, t4, t5, t6⟩
  have g1 := (z2.new (st := ⟨dropT k0 tmT, _⟩) hnew hob).slot (t := t) (s := .d (.ow K0 n)) q1 (.d (.ow (l := ⟨A, cc, sz⟩) upd_self (fun hA0 => by
    rcases xA with ⟨_, e0⟩ | ⟨b, e0⟩
    · exact e0
    · dsimp only at hA0; rw [e0] at hA0; cases hA0) xc))
  exact ⟨_, _, pp.trans (z1.append_left _).symm, g1⟩
theorem Ghost.take {tmT : List (Nat × SV)} {ob : List (Nat × Ob)} (K0 t : Nat) {k0 m o sz n u e : Nat} {rs : List (List E)} {row : List E} {rr : List (List V)} (hx : lk t tmT = some (.d (D.r k0 m o sz n))) (hkf : lk k0 ob = some (.fm u rs)) (h1 : famOne k0 ob = true) (hrow : rs[m]? = some row) (ho : nth row o = some (.os e sz rr)) (hn : rr.length = n)
    (hnew : newN K0 (dropT k0 tmT) (dropO k0 (obu k0 (.fm u (rs.set m (row.set o .hl))) ob)) = true) : Ghost tmT ob ((t, .d (.ow K0 n)) :: dropT k0 tmT) ((K0, .ar e sz rr) :: dropO k0 (obu k0 (.fm u (rs.set m (row.set o .hl))) ob)) := ⟨fun c tm h ρ G w g hw => by
  obtain ⟨F, w0, hp⟩ := h
  obtain ⟨hq, ρ', q1, q2⟩ := g.take hx hkf h1 hrow ho hn hnew
  exact ⟨_, ρ', G, q2, hw.perm q1⟩⟩
/-- The same, ahead of an operation. -/
theorem Raw.take {op : Oper} {tmT : List (Nat × SV)} {ob : List (Nat × Ob)} (K0 t : Nat) {k0 m o sz n u e : Nat} {rs : List (List E)} {row : List E} {rr : List (List V)} (hx : lk t tmT = some (.d (D.r k0 m o sz n))) (hkf : lk k0 ob = some (.fm u rs)) (h1 : famOne k0 ob = true) (hrow : rs[m]? = some row) (ho : nth row o = some (.os e sz rr)) (hn : rr.length = n)
    (hnew : newN K0 (dropT k0 tmT) (dropO k0 (obu k0 (.fm u (rs.set m (row.set o .hl))) ob)) = true) (k : Raw P nt op ((t, .d (.ow K0 n)) :: dropT k0 tmT) ((K0, .ar e sz rr) :: dropO k0 (obu k0 (.fm u (rs.set m (row.set o .hl))) ob)) K) : Raw P nt op tmT ob K := ⟨fun Q c tm h ρ G g => by
  obtain ⟨F, w0, hp⟩ := h
  obtain ⟨hq, ρ', q1, q2⟩ := g.take hx hkf h1 hrow ho hn hnew
  exact OpS.wk (fun w hw => hw.perm q1) (k.out Q c tm _ ρ' G q2)⟩
end
/-- A box that is written no more is seen as frozen cells. -/
def qD (k : Nat) (ys : List V) : D → D
  | .p j o => bif Nat.beq j k then .q ys o else .p j o
  | d => d
def qL (k : Nat) (ys : List V) : List D → List D
  | [] => []
  | x :: r => qD k ys x :: qL k ys r
def qC (k : Nat) (ys : List V) : List SC → List SC
  | [] => []
  | .d x :: r => .d (qD k ys x) :: qC k ys r
  | .a xs :: r => .a (qL k ys xs) :: qC k ys r
def qS (k : Nat) (ys : List V) : SV → SV
  | .d x => .d (qD k ys x)
  | .a xs => .a (qL k ys xs)
  | .t vs => .t (qC k ys vs)
def qTm (k : Nat) (ys : List V) : List (Nat × SV) → List (Nat × SV)
  | [] => []
  | (j, s) :: r => (j, qS k ys s) :: qTm k ys r
def qOb (k : Nat) (ys : List V) : List (Nat × Ob) → List (Nat × Ob)
  | [] => []
  | (j, .bx t cs) :: r => (j, .bx t (qL k ys cs)) :: qOb k ys r
  | (j, .ar t m ss) :: r => (j, .ar t m ss) :: qOb k ys r
  | (j, .fm t ss) :: r => (j, .fm t ss) :: qOb k ys r
section
variable {ρ : Rho} {z : Fz} {k : Nat} {ys : List V}
theorem qD_den (fz : ∀ o v, Den ρ z (.p k o) v → Den ρ z (.q ys o) v) {d : D} {v : Value} (h : Den ρ z d v) : Den ρ z (qD k ys d) v := by
  cases d <;> simp only [qD] <;> first | exact h | skip
  rename_i j o
  cases hb : Nat.beq j k <;> simp only [cond_false, cond_true]
  · exact h
  · have := Nat.eq_of_beq_eq_true hb
    subst this
    exact fz o v h
theorem qL_den (fz : ∀ o v, Den ρ z (.p k o) v → Den ρ z (.q ys o) v) : ∀ {ds : List D} {us : List Value}, DenL ρ z ds us → DenL ρ z (qL k ys ds) us
  | [], us, h => h
  | d :: r, us, h => by
    have hl := h.len
    cases us with
    | nil => simp at hl
    | cons x us => exact (qL_den fz (ds := r) (us := us) ⟨by simpa using hl, by have := h.one; simp at this; simpa using this.2, fun j d v e1 e2 => h.den (j + 1) d v (by simpa using e1) (by simpa using e2)⟩).cons (qD_den fz (h.den 0 d x rfl rfl))
theorem qL_len : ∀ {ds : List D}, (qL k ys ds).length = ds.length
  | [] => rfl
  | _ :: r => by simp [qL, qL_len (ds := r)]
theorem qC_get : ∀ {ss : List SC} {j : Nat} {s' : SC}, (qC k ys ss)[j]? = some s' → ∃ s, ss[j]? = some s ∧ ((∃ x, s = .d x ∧ s' = .d (qD k ys x)) ∨ ∃ xs, s = .a xs ∧ s' = .a (qL k ys xs))
  | [], j, s', h => by simp [qC] at h
  | s :: r, 0, s', h => by
    cases s with
    | d x => simp [qC] at h; subst h; exact ⟨_, rfl, .inl ⟨x, rfl, rfl⟩⟩
    | a xs => simp [qC] at h; subst h; exact ⟨_, rfl, .inr ⟨xs, rfl, rfl⟩⟩
  | s :: r, j + 1, s', h => by
    have : (qC k ys r)[j]? = some s' := by cases s <;> simpa [qC] using h
    obtain ⟨s0, q1, q2⟩ := qC_get this
    exact ⟨s0, by simpa using q1, q2⟩
theorem qC_len : ∀ {ss : List SC}, (qC k ys ss).length = ss.length
  | [] => rfl
  | s :: r => by cases s <;> simp [qC, qC_len (ss := r)]
theorem qS_den (fz : ∀ o v, Den ρ z (.p k o) v → Den ρ z (.q ys o) v) {s : SV} {v : Value} (h : DenS ρ z s v) : DenS ρ z (qS k ys s) v := by
  cases h with
  | d h => exact .d (qD_den fz h)
  | a h => exact .a (qL_den fz h)
  | t hl hd =>
    refine .t (by rw [qC_len]; exact hl) fun j s v e1 e2 => ?_
    obtain ⟨s0, q1, q2⟩ := qC_get e1
    have h0 := hd j s0 v q1 e2
    rcases q2 with ⟨x, rfl, rfl⟩ | ⟨xs, rfl, rfl⟩
    · cases h0 with | d h0 => exact .d (qD_den fz h0)
    · cases h0 with | a h0 => exact .a (qL_den fz h0)
theorem qTm_lk : ∀ {tm : List (Nat × SV)} {j : Nat} {s' : SV}, lk j (qTm k ys tm) = some s' → ∃ s, lk j tm = some s ∧ s' = qS k ys s
  | [], j, s', h => by simp [qTm, lk] at h
  | (i, s) :: r, j, s', h => by
    simp only [qTm, lk] at h ⊢
    cases hb : Nat.beq j i <;> rw [hb] at h
    · exact qTm_lk (tm := r) h
    · simp only [cond_true, Option.some.injEq] at h
      exact ⟨s, rfl, h.symm⟩
theorem qOb_den (fz : ∀ o v, Den ρ z (.p k o) v → Den ρ z (.q ys o) v) : ∀ {ob : List (Nat × Ob)} {hp : List (Nat × Hb)}, ObsOk ρ z ob hp → ObsOk ρ z (qOb k ys ob) hp
  | [], _, h => h
  | (j, .bx t cs) :: r, hp, ⟨Y, hp', h1, ⟨b, us, h2, h3, h4⟩, h5⟩ => ⟨Y, hp', h1, ⟨b, us, by rw [qL_len]; exact h2, by rw [qL_len]; exact h3, qL_den fz h4⟩, qOb_den fz h5⟩
  | (j, .ar t m ss) :: r, hp, ⟨Y, hp', h1, h2, h5⟩ => ⟨Y, hp', h1, h2, qOb_den fz h5⟩
  | (j, .fm t ss) :: r, hp, ⟨Y, hp', h1, h2, h5⟩ => ⟨Y, hp', h1, h2, qOb_den fz h5⟩
end
/-- A box is frozen. -/
theorem Ghost.frzB {tmT : List (Nat × SV)} {ob : List (Nat × Ob)} (k : Nat) {t : TypeId} {cs : List D} {ys : List V} (hk : lk k ob = some (.bx t cs)) (hb : borL [] cs = some ys) : Ghost tmT ob (qTm k ys tmT) (qOb k ys (obr k ob)) := ⟨fun c tm h ρ G w g hw => by
  obtain ⟨F, w0, hp⟩ := h
  obtain ⟨Y, f, ⟨b, us, rfl, g2, g3⟩, g6, _, g8⟩ := g.ob.set hk
  have g4 := borL_nil_den hb g3
  have hperm : hp.Perm ([(b, ⟨t, us, cs.length⟩)] ++ f []) := by have := g6.perm [(b, (⟨t, us, cs.length⟩ : Hb))]; rwa [g6.eq] at this
  have hnd : (([(b, (⟨t, us, cs.length⟩ : Hb))] ++ f []).map Prod.fst).Nodup := (hperm.map _).nodup_iff.1 hw.nd
  have hmem : ∀ p, p ∈ hp ↔ p ∈ [(b, (⟨t, us, cs.length⟩ : Hb))] ∨ p ∈ f [] := fun p => by rw [hperm.mem_iff, List.mem_append]
  have hmb : (b, (⟨t, us, cs.length⟩ : Hb)) ∈ hp := (hmem _).2 (.inl (by simp))
  have hB : ¬ F b := hw.out b _ hmb
  have hz : Mz ⟨G, w0⟩ ⟨G.or (· = b), w⟩ := ⟨fun _ h => .inl h, fun b hb => hw.same.block b (g.gF b hb), fun _ _ _ h => h⟩
  have g4' := g4.mono hz
  have fz : ∀ o v, Den ρ ⟨G.or (· = b), w⟩ (.p k o) v → Den ρ ⟨G.or (· = b), w⟩ (.q ys o) v := fun o v h => by
    cases h with | @p _ _ b' _ _ h0 =>
    rw [g2] at h0
    injection h0 with h0
    injection h0 with e1 _ _
    injection e1 with e1
    injection e1 with e1 _ _
    subst e1
    have := Den.q (ρ := ρ) (z := ⟨G.or (· = b), w⟩) (cs := ys) (o := o) (b := b) (o' := 0) (us := us) (.inr rfl) (fun j u hj => by rw [Nat.zero_add]; exact (hw.blk b _ hmb).cell (x := ⟨t, us, _⟩) hj) g4'
    rwa [Nat.zero_add] at this
  refine ⟨⟨fun x => F x ∨ x = b, w, f []⟩, ρ, G.or (· = b), ⟨fun b hb => .inl (g.fF b hb), g.fw.trans (hw.same.mono g.fF), fun b hb => hb.imp (g.gF b) id, fun x hx => ?_, g.fm.or, fun j s' hj => ?_, qOb_den fz (g8.mono hz .refl)⟩, ⟨Same.refl _ _, fun x hx => ?_, fun x y hx => hw.blk x y ((hmem _).2 (.inr hx)), ?_, fun x y hx hb => ?_⟩⟩
  · rcases hx with hx | rfl
    · exact g.gx x hx
    · exact .inr fun h0 => hB (g.fF _ h0)
  · obtain ⟨s, e1, rfl⟩ := qTm_lk hj
    obtain ⟨v, v1, v2⟩ := g.tm j s e1
    exact ⟨v, v1, qS_den fz (v2.mono hz .refl)⟩
  · rcases hx with hx | rfl
    · exact hw.Flt hx
    · exact (hw.blk _ _ hmb).lt
  · rw [List.map_append, List.nodup_append] at hnd; exact hnd.2.1
  · rcases hb with hb | rfl
    · exact hw.out x y ((hmem _).2 (.inr hx)) hb
    · rw [List.map_append, List.nodup_append] at hnd
      exact hnd.2.2 x (by simp) x (List.mem_map_of_mem (f := Prod.fst) hx) rfl⟩
end Go.Proofs.Ytgiebofmfkacgaa

/-
  The layer of trees: a call that has families of its own. Of no program.
-/
namespace Go.Proofs.Ytgiebofmfkacgaa
open Go.RowKit
/-- No pointer into a family. -/
inductive Nm : V → Prop
  | int {k : IntKind} {n : Int} : Nm (.int k n)
  | bool {b : Bool} : Nm (.bool b)
  | str {s : ByteArray} : Nm (.str s)
  | nl : Nm .nl
  | pn : Nm .pn
  | fn {f : FuncId} : Nm (.fn f)
  | v {x : Value} : Nm (.v x)
  | cl {f : FuncId} {cs : List (List V)} (h : ∀ r ∈ cs, ∀ x ∈ r, Nm x) : Nm (.cl f cs)
  | sl {sz : Nat} {rs : List (List V)} (h : ∀ r ∈ rs, ∀ x ∈ r, Nm x) : Nm (.sl sz rs)
def NmD (d : D) : Prop := ∃ x, d = .u x ∧ Nm x
def NmC : SC → Prop
  | .d x => NmD x
  | .a xs => ∀ x ∈ xs, NmD x
def NmS : SV → Prop
  | .d x => NmD x
  | .a xs => ∀ x ∈ xs, NmD x
  | .t vs => ∀ s ∈ vs, NmC s
section
variable {ρ ρ' : Rho} {z z' : Fz}
theorem DenV.nm {d : V} {v : Value} (h : DenV z d v) (hG : z'.G.on = z.G.on) (hw : z'.w0 = z.w0) : Nm d → DenV z' d v := by
  induction h with
  | int k n => exact fun _ => .int k n
  | bool b => exact fun _ => .bool b
  | str s hs => exact fun _ => .str s hs
  | nl => exact fun _ => .nl
  | @sl sz rs A n c b o us hn hc hm hr hA hl hu h1 hd ih =>
    intro hN
    cases hN with | sl hN =>
    refine .sl (b := b) (o := o) us hn hc hm hr (fun h => ⟨(hA h).1, by rw [hG]; exact (hA h).2⟩) hl (fun j u h => by rw [hw]; exact hu j u h) h1 fun j d u e1 e2 => ih j d u e1 e2 ?_
    obtain ⟨r, hr1, hr2⟩ := List.mem_flatten.1 (List.mem_of_getElem? e1)
    exact hN r hr1 d hr2
  | pn => exact fun _ => .pn
  | fn => exact fun _ => .fn
  | v h1 => exact fun _ => .v h1
  | m h => exact fun hN => by cases hN
  | cl us B O X hl hu hG' hX h1 hc hd ih =>
    intro hN
    cases hN with | cl hN =>
    exact .cl us B O X hl hu (fun j hj => by rw [hG]; exact hG' j hj) hX h1 (fun j hj i x hx => by rw [hw]; exact hc j hj i x hx) fun j c i d x e1 e2 e3 => ih j c i d x e1 e2 e3 (hN c (List.mem_of_getElem? e1) d (List.mem_of_getElem? e2))
theorem Den.nm {d : D} {v : Value} (h : Den ρ z d v) (hG : z'.G.on = z.G.on) (hw : z'.w0 = z.w0) (hN : NmD d) : Den ρ' z' d v := by
  obtain ⟨x, rfl, hx⟩ := hN
  cases h with | u h => exact .u (h.nm hG hw hx)
theorem DenL.nm {cs : List D} {us : List Value} (h : DenL ρ z cs us) (hG : z'.G.on = z.G.on) (hw : z'.w0 = z.w0) (hN : ∀ x ∈ cs, NmD x) : DenL ρ' z' cs us :=
  ⟨h.len, h.one, fun j d u h1 h2 => (h.den j d u h1 h2).nm hG hw (hN d (List.mem_of_getElem? h1))⟩
theorem DenS.nm {s : SV} {v : Value} (h : DenS ρ z s v) (hG : z'.G.on = z.G.on) (hw : z'.w0 = z.w0) (hN : NmS s) : DenS ρ' z' s v := by
  cases h with
  | d h => exact .d (h.nm hG hw hN)
  | a h => exact .a (h.nm hG hw hN)
  | t hl hd =>
    refine .t hl fun j s v h1 h2 => ?_
    have hs := hN s (List.mem_of_getElem? h1)
    cases hd j s v h1 h2 with
    | d h => exact .d (h.nm hG hw hs)
    | a h => exact .a (h.nm hG hw hs)
end
theorem fams_ok {ρ : Rho} {z : Fz} : ∀ {fs : List (Nat × TypeId)}, (∀ p ∈ fs, z.G.fam p.1 = [] ∧ z.G.own p.1) → ObsOk ρ z (fs.map fun p => (p.1, Ob.fm p.2 [])) []
  | [], _ => rfl
  | p :: r, h => by
    have h1 := h p (by simp)
    refine ⟨[], [], rfl, ⟨?_, h1.2⟩, fams_ok fun q hq => h q (by simp [hq])⟩
    rw [h1.1]
    exact .nil
/-- What is given back: slices over own arrays, values without pointers into families. -/
def NoD (d : D) : Prop := NmD d ∨ ∃ k n, d = .ow k n
def NoC : SC → Prop
  | .d x => NoD x
  | .a xs => ∀ x ∈ xs, NoD x
def NoS : SV → Prop
  | .d x => NoD x
  | .a xs => ∀ x ∈ xs, NoD x
  | .t vs => ∀ s ∈ vs, NoC s
def NoOb (ob : List (Nat × Ob)) : Prop := ∀ p ∈ ob, ∃ t sz rs, p.2 = .ar t sz rs ∧ ∀ r ∈ rs, ∀ x ∈ r, Nm x
section
variable {ρ : Rho} {z z' : Fz}
theorem Den.no {d : D} {v : Value} (h : Den ρ z d v) (hG : z'.G.on = z.G.on) (hw : z'.w0 = z.w0) (hN : NoD d) : Den ρ z' d v := by
  rcases hN with hN | ⟨k, n, rfl⟩
  · exact h.nm hG hw hN
  · cases h with | ow h hA hc => exact .ow h hA hc
theorem DenL.no {cs : List D} {us : List Value} (h : DenL ρ z cs us) (hG : z'.G.on = z.G.on) (hw : z'.w0 = z.w0) (hN : ∀ x ∈ cs, NoD x) : DenL ρ z' cs us :=
  ⟨h.len, h.one, fun j d u h1 h2 => (h.den j d u h1 h2).no hG hw (hN d (List.mem_of_getElem? h1))⟩
theorem DenS.no {s : SV} {v : Value} (h : DenS ρ z s v) (hG : z'.G.on = z.G.on) (hw : z'.w0 = z.w0) (hN : NoS s) : DenS ρ z' s v := by
  cases h with
  | d h => exact .d (h.no hG hw hN)
  | a h => exact .a (h.no hG hw hN)
  | t hl hd =>
    refine .t hl fun j s v h1 h2 => ?_
    have hs := hN s (List.mem_of_getElem? h1)
    cases hd j s v h1 h2 with
    | d h => exact .d (h.no hG hw hs)
    | a h => exact .a (h.no hG hw hs)
theorem ObsOk.no (hG : z'.G.on = z.G.on) (hw : z'.w0 = z.w0) : ∀ {ob : List (Nat × Ob)} {hp : List (Nat × Hb)}, NoOb ob → ObsOk ρ z ob hp → ObsOk ρ z' ob hp
  | [], _, _, h => h
  | (k, o) :: r, _, hN, ⟨X, hp', h1, h2, h3⟩ => by
    obtain ⟨t, sz, rs, rfl, hn⟩ := hN (k, o) (by simp)
    refine ⟨X, hp', h1, ?_, h3.no hG hw fun p hp => hN p (by simp [hp])⟩
    obtain ⟨A, c, us, e1, e2, e3, e4, e5⟩ := h2
    exact ⟨A, c, us, e1, e2, e3, ⟨e4.len, e4.one, fun j d u f1 f2 => (e4.den j d u f1 f2).nm hG hw (by
      obtain ⟨r', hr1, hr2⟩ := List.mem_flatten.1 (List.mem_of_getElem? f1)
      exact hn r' hr1 d hr2)⟩, e5⟩
end
/-- A call whose families no one else sees. -/
theorem CallsA.hide {P : Program} {f : FuncId} {ss : List SV} (fs : List (Nat × TypeId)) {Q : SV → List (Nat × Ob) → Prop} (hn : ∀ s ∈ ss, NmS s) (hq : ∀ s ob, Q s ob → NmS s) (h : CallsA P f ss (fs.map fun p => (p.1, Ob.fm p.2 [])) Q) : CallsA P f ss [] fun s ob => ob = [] ∧ ∃ ob0, Q s ob0 :=
  ⟨h.fn, fun c ρ hp vs w hw hv g => by
    have hp0 : hp = [] := g.ob
    subst hp0
    have g' : Gd ⟨c.F, c.w, ⟨c.G.on, fun k => if k ∈ fs.map Prod.fst then [] else c.G.fam k, fun k => k ∈ fs.map Prod.fst⟩⟩ ⟨slT 0 ss, fs.map fun p => (p.1, Ob.fm p.2 [])⟩ (slots 0 vs) ⟨c.F, c.w, []⟩ ρ ⟨c.G.on, fun k => if k ∈ fs.map Prod.fst then [] else c.G.fam k, fun k => k ∈ fs.map Prod.fst⟩ := by
      refine ⟨g.fF, g.fw, g.gF, g.gx, .refl _, fun k s hk => ?_, fams_ok fun p hp => ⟨?_, ?_⟩⟩
      · obtain ⟨v, q1, q2⟩ := g.tm k s hk
        exact ⟨v, q1, DenS.nm q2 rfl rfl (hn s (List.mem_of_getElem? (lk_slT hk).2))⟩
      · show (if p.1 ∈ fs.map Prod.fst then [] else c.G.fam p.1) = []
        rw [if_pos (List.mem_map_of_mem hp)]
      · exact List.mem_map_of_mem hp
    refine (h.out ⟨c.F, c.w, ⟨c.G.on, fun k => if k ∈ fs.map Prod.fst then [] else c.G.fam k, fun k => k ∈ fs.map Prod.fst⟩⟩ ρ [] vs w hw hv g').mono ?_
    rintro e w' ⟨v, h', s, ob', ρ', G', rfl, hw', g2, q⟩
    obtain ⟨F, w0, hp2⟩ := h'
    obtain ⟨u, u1, u2⟩ := g2.tm 0 s rfl
    refine ⟨v, ⟨F, w0, []⟩, s, [], ρ', ⟨G'.on, c.G.fam, c.G.own⟩, rfl, hw'.sub (List.nil_sublist _), ⟨g2.fF, g2.fw, g2.gF, g2.gx, ⟨rfl, fun _ _ => rfl, fun _ _ _ h => h⟩, fun k s0 hk => ?_, rfl⟩, rfl, ob', q⟩
    obtain ⟨v0, q1, q2⟩ := g2.tm k s0 hk
    refine ⟨v0, q1, DenS.nm q2 rfl rfl ?_⟩
    simp only [lk] at hk
    cases hb : Nat.beq k 0 <;> rw [hb] at hk
    · cases hk
    · injection hk with hk
      subst hk
      exact hq s ob' q⟩
end Go.Proofs.Ytgiebofmfkacgaa

/-
  The layer of trees: rows of zeros: append(nil, make(..)), make. Of no program.
-/
namespace Go.Proofs.Ytgiebofmfkacgaa
open Go.RowKit
/-- Nil slices in cells of families are slices without elements. -/
inductive NlE : E → E → Prop
  | refl {e : E} : NlE e e
  | v {x y : V} : NlV x y → NlE (.v x) (.v y)
inductive NlEs : List E → List E → Prop
  | nil : NlEs [] []
  | cons {x y : E} {r s : List E} : NlE x y → NlEs r s → NlEs (x :: r) (y :: s)
inductive NlRs : List (List E) → List (List E) → Prop
  | nil : NlRs [] []
  | cons {x y : List E} {r s : List (List E)} : NlEs x y → NlRs r s → NlRs (x :: r) (y :: s)
inductive NlO : List (Nat × Ob) → List (Nat × Ob) → Prop
  | nil : NlO [] []
  | keep {p : Nat × Ob} {r s : List (Nat × Ob)} : NlO r s → NlO (p :: r) (p :: s)
  | fm {k : Nat} {t : TypeId} {rs ss : List (List E)} {r s : List (Nat × Ob)} : NlRs rs ss → NlO r s → NlO ((k, .fm t rs) :: r) ((k, .fm t ss) :: s)
section
variable {ρ : Rho} {z : Fz}
theorem NlE.ok {k i o : Nat} {e e' : E} {u : Value} {X : List (Nat × Hb)} (l : NlE e e') (h : CellOk ρ z k i o e u X) : CellOk ρ z k i o e' u X := by
  cases l with
  | refl => exact h
  | v l => exact ⟨h.1, l.den h.2⟩
theorem NlEs.ok {k i : Nat} {es es' : List E} (l : NlEs es es') : ∀ {o : Nat} {us : List Value} {X : List (Nat × Hb)}, CellsOk ρ z k i o es us X → CellsOk ρ z k i o es' us X := by
  induction l with
  | nil => exact fun h => h
  | cons l _ ih => intro o us X h; cases h with | cons h1 h2 => exact .cons (l.ok h1) (ih h2)
theorem NlRs.ok {k : Nat} {ty : TypeId} {rs rs' : List (List E)} (l : NlRs rs rs') : ∀ {i : Nat} {bs : List Nat} {X : List (Nat × Hb)}, FamOk ρ z k ty i bs rs X → FamOk ρ z k ty i bs rs' X := by
  induction l with
  | nil => exact fun h => h
  | cons l _ ih => intro i bs X h; cases h with | cons h1 h2 => exact .cons (l.ok h1) (ih h2)
theorem NlO.ok {ob ob' : List (Nat × Ob)} (l : NlO ob ob') : ∀ {hp : List (Nat × Hb)}, ObsOk ρ z ob hp → ObsOk ρ z ob' hp := by
  induction l with
  | nil => exact fun h => h
  | keep _ ih => intro hp ⟨X, hp', h1, h2, h3⟩; exact ⟨X, hp', h1, h2, ih h3⟩
  | fm l _ ih => intro hp ⟨X, hp', h1, h2, h3⟩; exact ⟨X, hp', h1, ⟨l.ok h2.1, h2.2⟩, ih h3⟩
end
theorem Ghost.nl {tm : List (Nat × SV)} {ob ob' : List (Nat × Ob)} (l : NlO ob ob') : Ghost tm ob tm ob' := ⟨fun c tmv h ρ G w g hw => ⟨h, ρ, G, ⟨g.fF, g.fw, g.gF, g.gx, g.fm, g.tm, l.ok g.ob⟩, hw⟩⟩
section
variable {P : Program} {T : List (Nat × Ty)} [hT : Tys P T] {nt : Nat} {Q : Exit → Act → World → Prop} {c : Cx} {tm : List (Nat × Value)} {h : Hs} {ρ : Rho} {G : FG} {ty : TypeId} {pos : String} {af : Array Edge} {gd : Option (Nat × Bool)} {K : Kt}
omit hT in
theorem rep_den {z : Fz} {zs : List V} {jz : List Value} (hz : vzT jz = some zs) : ∀ n, DenVL z (List.replicate n zs).flatten (zrepT jz n) := fun n => by
  induction n with
  | zero => exact .nil
  | succ n ih => simp only [List.replicate_succ, List.flatten_cons, zrepT]; exact (vzT_den hz).app ih
omit hT in
/-- A new own array. -/
theorem Kd.newAr {tmT : List (Nat × SV)} {ob : List (Nat × Ob)} {F : Nat → Prop} {w0 w w' : World} {hp : List (Nat × Hb)} (g : Gd c ⟨tmT, ob⟩ tm ⟨F, w0, hp⟩ ρ G) (hw : Hp ⟨F, w0, hp⟩ w) {d e sz n cc : Nat} {zs : List V} {jz : List Value} {A : Option Addr} (hz : vzT jz = some zs) (hl : jz.length = sz) (hnew : newN d tmT ob = true) (hb : Below w.heap.size w w') (ho : w'.ownsRow w.heap.size e sz (.slice A n cc) n (zrepT jz n)) (k : K ((d, .d (.ow d n)) :: tmT) ((d, .ar e sz (List.replicate n zs)) :: ob)) :
    ∃ h', Hp h' w' ∧ Kd c K ((d, .slice A n cc) :: tm) h' := by
  have hw' := hw.addRow hb (Nat.le_refl _) ho
  have hok := OkA.of_own ho
  have hzl : zs.length = sz := by rw [← (vzT_den (z := ⟨G, w0⟩) hz).len]; exact hl
  have hob : ObOk (upd ρ d ⟨A, cc, sz⟩) ⟨G, w0⟩ d (.ar e sz (List.replicate n zs)) (hbA A e (zrepT jz n) cc sz) := ⟨A, cc, _, rfl, upd_self, by rw [List.length_replicate]; exact hok, rep_den hz n, fun r hr => by rw [List.eq_of_mem_replicate hr]; exact hzl⟩
  refine ⟨_, hw', .of ((g.new (st := ⟨tmT, ob⟩) hnew hob).put (d := d) (s := .d (.ow d n)) (v := .slice A n cc) (.d (.ow (l := ⟨A, cc, sz⟩) upd_self (fun hA0 => ?_) hok.cap))) k⟩
  rcases hok.form with ⟨_, e0, _⟩ | ⟨b, e0⟩
  · exact e0
  · dsimp only at hA0; rw [e0] at hA0; cases hA0
theorem Raw.appendZ {x y : Operand} {t tn d e sz : Nat} (n : Nat) {kn kq : IntKind} {m : Int} {tmT : List (Nat × SV)} {ob : List (Nat × Ob)} {zs : List V} {i i2 : Ty} {jk : Tk} {jb : Nat} {jz : List Value} (hx : evT tmT x = some (.d (.u .nl))) (hy : evT tmT y = some (.d (.u (.int kq m)))) (hm : m = (n : Int)) (ht : lk t T = some i) (hi : i.k = .sl e) (htn : lk tn T = some i2) (hi2 : i2.k = .in_ kn) (hj : lk e T = some ⟨jk, sz, jb, jz⟩) (hz : vzT jz = some zs)
    (hl : (Nat.beq jz.length sz && Nat.blt 0 sz) = true) (hd : Nat.blt d nt = true) (hnew : newN d tmT ob = true) (h0 : 0 < n) (h1 : n ≤ 1000000) (hb : n * jb ≤ 281474976710656) (k : K ((d, .d (.ow d n)) :: tmT) ((d, .ar e sz (List.replicate n zs)) :: ob)) : Raw P nt ⟨some d, .call ⟨.builtin .append, #[x, y], #[t, tn]⟩, ty, pos, af, gd⟩ tmT ob K := ⟨fun Q c tm h ρ G g => by
  subst hm
  simp only [Bool.and_eq_true] at hl
  have hl1 := Nat.eq_of_beq_eq_true hl.1
  have hl2 : 0 < sz := by simpa [Nat.blt_eq] using hl.2
  obtain ⟨vx, x1, x2⟩ := g.ev hx
  cases x2 with | d x2 => cases x2 with | u x2 => cases x2 with | nl =>
  have y1 := evT_int g hy
  obtain ⟨f, z, q1, q2, q3, q4, q5⟩ := (hT.ok e _ hj).info
  dsimp only at q2 q3 q5
  have ku := (hT.ok t i ht).kind
  rw [hi] at ku
  have ku : P.underlying t = some (.slice e) := ku
  have ku2 := (hT.ok tn i2 htn).kind
  rw [hi2] at ku2
  have ku2 : P.underlying tn = some (.int kn) := ku2
  obtain ⟨F, w0, hp⟩ := h
  refine OpS.of_run hd fun a w ha hw => ?_
  have hrun := Go.Lib.run_append_nil_zeros w t tn ty e f z kq kn ku ku2 q1 q4 n h0 (by rw [q2]; exact hl2) (by omega) (by rw [q3]; exact hb)
  have hzc : ∀ n, (Builtin.zeroCells z.cells n).toList = zrepT jz n := fun n => by
    have e1 : z.cells = jz.toArray := by rw [← q5]
    rw [zrepT_eq]
    simp [Builtin.zeroCells, e1, Array.toList_map, Array.toList_range]
  have hcap := grownCap_ge w n 0 e
  have hcm := grownCap_le_maxLen w n 0 e (by unfold maxLen; omega)
  have hzl : ∀ n, (zrepT jz n).length = n * sz := fun n => by rw [zrepT_len, hl1]
  have hbel : Below w.heap.size w (w.drew.alloc (.cells (Builtin.zeroCells z.cells n ++ Builtin.zeroCells z.cells (grownCap w n 0 e - n)) e)) := (Below.refl _ _).drew.alloc (Nat.le_refl _) _
  have ho : (w.drew.alloc (.cells (Builtin.zeroCells z.cells n ++ Builtin.zeroCells z.cells (grownCap w n 0 e - n)) e)).ownsRow w.heap.size e sz (.slice (some ⟨w.heap.size, 0, none⟩) n (grownCap w n 0 e)) n (zrepT jz n) := by
    refine ⟨hzl n, .inr ⟨w.heap.size, _, _, rfl, Nat.le_refl _, heap_alloc_new w.drew _, hcap, hcm, ?_, ?_⟩⟩
    · rw [← Array.length_toList, Array.toList_append, hzc, hzc, List.length_append, hzl, hzl, ← Nat.add_mul, Nat.add_sub_cancel' hcap]
    · rw [Array.toList_append, hzc, hzc, List.take_left' (hzl n)]
  obtain ⟨h', r1, r2⟩ := Kd.newAr g hw hz hl1 hnew hbel ho k
  exact ⟨_, _, h', by simp [execOp, resolve, invoke, builtin, ha.ev x1, ha.ev y1, hrun], r1, r2⟩⟩
theorem Raw.capNil {x : Operand} {t e d : Nat} {i : Ty} {tmT : List (Nat × SV)} {ob : List (Nat × Ob)} (hx : evT tmT x = some (.d (.u .nl))) (ht : lk t T = some i) (hi : i.k = .sl e) (hd : Nat.blt d nt = true) (k : K ((d, .d (.u (.int .i64 0))) :: tmT) ob) : Raw P nt ⟨some d, .call ⟨.builtin .cap, #[x], #[t]⟩, ty, pos, af, gd⟩ tmT ob K := ⟨fun Q c tm h ρ G g => by
  obtain ⟨vx, x1, x2⟩ := g.ev hx
  cases x2 with | d x2 => cases x2 with | u x2 => cases x2 with | nl =>
  have ku := (hT.ok t i ht).kind
  rw [hi] at ku
  have ku : P.underlying t = some (.slice e) := ku
  exact OpS.yd (v := .int .i64 0) ⟨fun a w ha hw => by simp [execOp, resolve, invoke, builtin, ha.ev x1, Builtin.cap_, goInt, run_underlying ku]⟩ hd (.of (g.put (.d (.u (.int _ _)))) k)⟩
theorem Raw.sliceNil {x y : Operand} {t d e : Nat} {kq : IntKind} {m : Int} {tmT : List (Nat × SV)} {ob : List (Nat × Ob)} {i : Ty} {jk : Tk} {js jb : Nat} {jz : List Value} (hx : evT tmT x = some (.d (.u .nl))) (hy : evT tmT y = some (.d (.u (.int kq m)))) (hm : m = 0) (ht : lk t T = some i) (hi : i.k = .sl e) (hj : lk e T = some ⟨jk, js, jb, jz⟩) (hd : Nat.blt d nt = true) (k : K ((d, .d (.u .nl)) :: tmT) ob) : Raw P nt ⟨some d, .slice t x none (some y) none, ty, pos, af, gd⟩ tmT ob K := ⟨fun Q c tm h ρ G g => by
  subst hm
  obtain ⟨vx, x1, x2⟩ := g.ev hx
  cases x2 with | d x2 => cases x2 with | u x2 => cases x2 with | nl =>
  have y1 := evT_int g hy
  have hyd := Yd.sliceG (P := P) (T := T) (nt := nt) (h := h) (d := some d) (ty := ty) (pos := pos) (af := af) (gd := gd) (lo := none) (hi := some y) (l := 0) (m := 0) x1 ht hi hj (.inl ⟨rfl, rfl⟩) (.inr ⟨y, kq, rfl, y1⟩) (Nat.le_refl _) (Nat.le_refl _)
  exact OpS.yd hyd hd (.of (g.put (.d (.u .nl))) k)⟩
end
end Go.Proofs.Ytgiebofmfkacgaa

/-
  The layer of trees: own arrays are frozen anywhere; nil slices inside of rows. Of no program.
-/
namespace Go.Proofs.Ytgiebofmfkacgaa
open Go.RowKit
/-- An own array is frozen. -/
theorem Ghost.frzA {tmT : List (Nat × SV)} {ob : List (Nat × Ob)} (k : Nat) {u sz : Nat} {rs : List (List V)} (hk : lk k ob = some (.ar u sz rs)) (hn : frNeedT k rs (frNeedO k rs True (obr k ob)) tmT) : Ghost tmT ob (frTm k sz rs tmT) (frOb k sz rs (obr k ob)) := ⟨fun c tm h ρ G w g hw => by
  obtain ⟨_, h', G', q1, q2, _⟩ := Gd.freeze (st := ⟨tmT, ob⟩) (X := True) g hw hk hn
  exact ⟨h', ρ, G', q1, q2⟩⟩
/-- A nil slice is a slice without elements, also inside of rows. -/
inductive NvV : V → V → Prop
  | refl {x : V} : NvV x x
  | nl {sz : Nat} {rs : List (List V)} : rs = [] → NvV .nl (.sl sz rs)
  | sl {sz : Nat} {rs rs' : List (List V)} : rs.length = rs'.length → (∀ (i : Nat) r r', rs[i]? = some r → rs'[i]? = some r' → r.length = r'.length) → (∀ (i : Nat) r r' (j : Nat) x y, rs[i]? = some r → rs'[i]? = some r' → r[j]? = some x → r'[j]? = some y → NvV x y) → NvV (.sl sz rs) (.sl sz rs')
theorem flat_split {α : Type} {sz : Nat} : ∀ {rs : List (List α)} {k : Nat} {d : α}, (∀ r ∈ rs, r.length = sz) → rs.flatten[k]? = some d → ∃ (i j : Nat) (r : List α), k = i * sz + j ∧ rs[i]? = some r ∧ r[j]? = some d
  | [], k, d, _, h => by simp at h
  | r :: rs, k, d, hr, h => by
    have h0 := hr r (by simp)
    rw [List.flatten_cons] at h
    by_cases hk : k < r.length
    · rw [List.getElem?_append_left hk] at h
      exact ⟨0, k, r, by simp, rfl, h⟩
    · rw [List.getElem?_append_right (by omega)] at h
      obtain ⟨i, j, r', e1, e2, e3⟩ := flat_split (fun r' h' => hr r' (by simp [h'])) h
      exact ⟨i + 1, j, r', by rw [Nat.add_mul, Nat.one_mul]; omega, by simpa using e2, e3⟩
theorem NvV.den {z : Fz} {x y : V} (l : NvV x y) : ∀ {v : Value}, DenV z x v → DenV z y v := by
  induction l with
  | refl => exact fun h => h
  | nl e => subst e; exact fun h => (NlV.nl rfl).den h
  | @sl sz rs rs' hl hr hx ih =>
    intro v h
    cases h with | @sl _ _ A n c b o us hn hc hm hrs hA hlu hu h1 hd =>
    have hrs' : ∀ r ∈ rs', r.length = sz := fun r' hr' => by
      obtain ⟨i, hi⟩ := List.getElem?_of_mem hr'
      have hlt : i < rs.length := by rw [hl]; exact (List.getElem?_eq_some_iff.1 hi).1
      rw [← hr i _ r' (List.getElem?_eq_getElem hlt) hi]
      exact hrs _ (List.getElem_mem hlt)
    refine .sl us (by rw [← hl]; exact hn) hc hm hrs' (fun h => hA fun e => h (List.eq_nil_of_length_eq_zero (by rw [← hl, e]; rfl))) (by rw [hlu, flat_len hrs, flat_len hrs', hl]) hu h1 fun k d u e1 e2 => ?_
    obtain ⟨i, j, r', q1, q2, q3⟩ := flat_split hrs' e1
    have hlt : i < rs.length := by rw [hl]; exact (List.getElem?_eq_some_iff.1 q2).1
    have hi := List.getElem?_eq_getElem hlt
    have hle := hr i _ r' hi q2
    have hj : j < (rs[i]).length := by rw [hle]; exact (List.getElem?_eq_some_iff.1 q3).1
    have hjj := List.getElem?_eq_getElem hj
    refine ih i _ r' j _ d hi q2 hjj q3 (hd k _ u ?_ e2)
    rw [q1]
    exact flat_get hrs hi j _ hjj
def NvR (rs rs' : List (List V)) : Prop := rs.length = rs'.length ∧ (∀ (i : Nat) r r', rs[i]? = some r → rs'[i]? = some r' → r.length = r'.length) ∧ (∀ (i : Nat) r r' (j : Nat) x y, rs[i]? = some r → rs'[i]? = some r' → r[j]? = some x → r'[j]? = some y → NvV x y)
def NvC (r r' : List V) : Prop := r.length = r'.length ∧ ∀ (j : Nat) x y, r[j]? = some x → r'[j]? = some y → NvV x y
theorem NvC.nil : NvC [] [] := ⟨rfl, fun _ _ _ h => by simp at h⟩
theorem NvC.cons {x y : V} {r s : List V} (h : NvV x y) (h' : NvC r s) : NvC (x :: r) (y :: s) := ⟨by simp [h'.1], fun j a b e1 e2 => by
  cases j with
  | zero => simp at e1 e2; subst e1 e2; exact h
  | succ j => exact h'.2 j a b (by simpa using e1) (by simpa using e2)⟩
theorem NvR.nil : NvR [] [] := ⟨rfl, fun _ _ _ h => by simp at h, fun _ _ _ _ _ _ h => by simp at h⟩
theorem NvR.cons {x y : List V} {r s : List (List V)} (h : NvC x y) (h' : NvR r s) : NvR (x :: r) (y :: s) := ⟨by simp [h'.1], fun i a b e1 e2 => by
  cases i with
  | zero => simp at e1 e2; subst e1 e2; exact h.1
  | succ i => exact h'.2.1 i a b (by simpa using e1) (by simpa using e2), fun i a b j u v e1 e2 e3 e4 => by
  cases i with
  | zero => simp at e1 e2; subst e1 e2; exact h.2 j u v e3 e4
  | succ i => exact h'.2.2 i a b j u v (by simpa using e1) (by simpa using e2) e3 e4⟩
theorem NvV.rows {sz : Nat} {rs rs' : List (List V)} (h : NvR rs rs') : NvV (.sl sz rs) (.sl sz rs') := .sl h.1 h.2.1 h.2.2
/-- Arguments with nil slices inside. -/
theorem CallsA.nv {P : Program} {f : FuncId} {xs ys : List V} {ob : List (Nat × Ob)} {Q : SV → List (Nat × Ob) → Prop} (h : CallsA P f (ys.map fun y => .d (.u y)) ob Q) (l : NvC xs ys) : CallsA P f (xs.map fun x => .d (.u x)) ob Q :=
  ⟨h.fn, fun c ρ hp vs w hw hv g => h.out c ρ hp vs w hw (by rw [hv]; simp [l.1]) ⟨g.fF, g.fw, g.gF, g.gx, g.fm, fun k s hk => by
    obtain ⟨q1, q2⟩ := lk_slT hk
    rw [List.getElem?_map] at q2
    cases hy : ys[k - 0]? with
    | none => rw [hy] at q2; cases q2
    | some y =>
      rw [hy] at q2
      injection q2 with q2
      subst q2
      have hlt : k - 0 < xs.length := by rw [l.1]; exact (List.getElem?_eq_some_iff.1 hy).1
      have hx := List.getElem?_eq_getElem hlt
      obtain ⟨v, v1, v2⟩ := g.tm k (.d (.u xs[k - 0])) (slT_lk q1 (by rw [List.getElem?_map, hx]; rfl))
      refine ⟨v, v1, ?_⟩
      cases v2 with | d v2 => cases v2 with | u v2 => exact .d (.u ((l.2 (k - 0) _ y hx hy).den v2)), g.ob⟩⟩
end Go.Proofs.Ytgiebofmfkacgaa
namespace Go.Proofs.Ytgiebofmfkacgaa
open Go.RowKit
section
variable {P : Program} {ops : Array Oper} {Q : Exit → Act → World → Prop} {md : Region.Mode} {S S' S1 S1' : World → Prop} {late free : List Nat}
/-- Whatever order is picked; S holds behind operations that are neither late nor free; S1 behind all. -/
def wpAnyX (P : Program) (md : Region.Mode) (ops : Array Oper) (Q : Exit → Act → World → Prop) (S S1 : World → Prop) (late free : List Nat) : Nat → Array Bool → Act → World → Prop
  | 0, listed, a, w => Region.ready md ops listed = [] ∧ Q .normal a w
  | fuel + 1, listed, a, w =>
    (Region.ready md ops listed = [] → Q .normal a w) ∧
    ∀ i ∈ Region.ready md ops listed, wpOp P ops Q i (fun a' w' => (((free.contains i = true → w' = w) ∧ (late.contains i = false → free.contains i = false → S w')) ∧ S1 w') ∧ wpAnyX P md ops Q S S1 late free fuel (listed.setIfInBounds i true) a' w') a w
theorem wpAny_of_X : ∀ (fuel : Nat) (listed : Array Bool) (a : Act) (w : World), wpAnyX P md ops Q S S1 late free fuel listed a w → wpAny P md ops Q fuel listed a w
  | 0, _, _, _, h => h
  | fuel + 1, _, _, _, h => ⟨h.1, fun i hi => wpOp_mono (fun a' w' h' => wpAny_of_X fuel _ a' w' h'.2) (h.2 i hi)⟩
theorem wpAnyX_mono (hS : ∀ w, S' w → S w) (hS1 : ∀ w, S1' w → S1 w) : ∀ (fuel : Nat) (listed : Array Bool) (a : Act) (w : World), wpAnyX P md ops Q S' S1' late free fuel listed a w → wpAnyX P md ops Q S S1 late free fuel listed a w
  | 0, _, _, _, h => h
  | fuel + 1, _, _, _, h => ⟨h.1, fun i hi => wpOp_mono (fun a' w' h' => ⟨⟨⟨h'.1.1.1, fun hl hf => hS w' (h'.1.1.2 hl hf)⟩, hS1 w' h'.1.2⟩, wpAnyX_mono hS hS1 fuel _ a' w' h'.2⟩) (h.2 i hi)⟩
theorem wpAnyX_first {i : Nat} {oi : Oper} {v : Value} (hi : ops[i]? = some oi) (hsel : ∀ (j : Nat) (o : Oper) cs b, ops[j]? = some o → o.op ≠ .select cs b)
    (hQ : ∀ c a w, Q (.panic c) (a.put oi.dst v) w → Q (.panic c) a w) {n : Nat} (hlate : ∀ j, late.contains j = true → waits md ops n j i = true) :
    ∀ (fuel : Nat) (listed : Array Bool) (a : Act) (w : World), DC md ops listed →
      (∀ j oj, ops[j]? = some oj → j ≠ i → listed.getD j true = false → (∀ e ∈ oj.after, Region.binds md e = true → e.on ≠ i) → oi.apart ops oj = true) →
      i ∈ Region.ready md ops listed → YieldsIf P ops S oi v a → S w → S1 w →
      wpAnyX P md ops Q S S1 late free fuel (listed.setIfInBounds i true) (a.put oi.dst v) w → wpAnyX P md ops Q S S1 late free (fuel + 1) listed a w := by
  intro fuel
  induction fuel with
  | zero =>
    intro listed a w _ _ hr hy hS hS1 H
    refine ⟨fun h => (by rw [h] at hr; cases hr), fun j hj => ?_⟩
    by_cases hji : j = i
    · subst hji; exact hy.wpOp hi hS ⟨⟨⟨fun _ => rfl, fun _ _ => hS⟩, hS1⟩, H⟩
    · have := ready_mono hj hji
      rw [H.1] at this
      cases this
  | succ fuel ih =>
    intro listed a w hdc hfree hr hy hS hS1 H
    refine ⟨fun h => (by rw [h] at hr; cases hr), fun j hj => ?_⟩
    by_cases hji : j = i
    · subst hji; exact hy.wpOp hi hS ⟨⟨⟨fun _ => rfl, fun _ _ => hS⟩, hS1⟩, H⟩
    · have h1 := H.2 j (ready_mono hj hji)
      obtain ⟨hjun, oj, hoj, hall⟩ := mem_ready.1 hj
      have hiun : listed.getD i false ≠ true := fun h' => by
        have h0 := (mem_ready.1 hr).1
        rcases Nat.lt_or_ge i listed.size with h2 | h2
        · simp [h2] at h0 h'; rw [h0] at h'; cases h'
        · simp [Array.getElem?_eq_none h2] at h'
      have hnl : late.contains j = false := by
        cases hc : late.contains j
        · rfl
        · exact absurd (waits_listed hdc n j oj hoj hall (hlate j hc)) hiun
      have hnot : ∀ e ∈ oj.after, Region.binds md e = true → e.on ≠ i := fun e he hb heq => hiun (heq ▸ hall e he hb)
      have h2 := wpOp_putIf hoj (hfree j oj hoj hji hjun hnot) (fun cs b => hsel i oi cs b hi) (fun cs b => hsel j oj cs b hoj) hQ hy h1
      have hfree' : ∀ k ok, ops[k]? = some ok → k ≠ i → (listed.setIfInBounds j true).getD k true = false →
          (∀ e ∈ ok.after, Region.binds md e = true → e.on ≠ i) → oi.apart ops ok = true := fun k ok hk hki hun hno => by
        refine hfree k ok hk hki ?_ hno
        by_cases hjk : j = k
        · subst hjk; exact hjun
        · rw [getD_set_ne true hjk] at hun; exact hun
      have hSw : ∀ w', ((free.contains j = true → w' = w) ∧ (late.contains j = false → free.contains j = false → S w')) → S w' := fun w' hg => by
        cases hfr : free.contains j
        · exact hg.2 hnl hfr
        · rw [hg.1 hfr]; exact hS
      refine wpOp_mono (fun a' w' h3 => ⟨h3.2.1, ih (listed.setIfInBounds j true) a' w' (hdc.set hoj hall) hfree' (ready_mono hr (Ne.symm hji)) h3.1 (hSw w' h3.2.1.1) h3.2.1.2 ?_⟩) h2
      rw [Array.setIfInBounds_comm _ _ hji]
      exact h3.2.2
theorem wpAnyX_free {i : Nat} {oi : Oper} {v : Value} (hi : ops[i]? = some oi) (hsel : ∀ (j : Nat) (o : Oper) cs b, ops[j]? = some o → o.op ≠ .select cs b)
    (hQ : ∀ c a w, Q (.panic c) (a.put oi.dst v) w → Q (.panic c) a w) (hfi : free.contains i = true) :
    ∀ (fuel : Nat) (listed : Array Bool) (a : Act) (w : World), DC md ops listed →
      (∀ j oj, ops[j]? = some oj → j ≠ i → listed.getD j true = false → (∀ e ∈ oj.after, Region.binds md e = true → e.on ≠ i) → oi.apart ops oj = true) →
      i ∈ Region.ready md ops listed → YieldsIf P ops S1 oi v a → S1 w →
      wpAnyX P md ops Q S S1 late free fuel (listed.setIfInBounds i true) (a.put oi.dst v) w → wpAnyX P md ops Q S S1 late free (fuel + 1) listed a w := by
  intro fuel
  induction fuel with
  | zero =>
    intro listed a w _ _ hr hy hS1 H
    refine ⟨fun h => (by rw [h] at hr; cases hr), fun j hj => ?_⟩
    by_cases hji : j = i
    · subst hji; exact hy.wpOp hi hS1 ⟨⟨⟨fun _ => rfl, fun _ hf => by rw [hfi] at hf; cases hf⟩, hS1⟩, H⟩
    · have := ready_mono hj hji
      rw [H.1] at this
      cases this
  | succ fuel ih =>
    intro listed a w hdc hfree hr hy hS1 H
    refine ⟨fun h => (by rw [h] at hr; cases hr), fun j hj => ?_⟩
    by_cases hji : j = i
    · subst hji; exact hy.wpOp hi hS1 ⟨⟨⟨fun _ => rfl, fun _ hf => by rw [hfi] at hf; cases hf⟩, hS1⟩, H⟩
    · have h1 := H.2 j (ready_mono hj hji)
      obtain ⟨hjun, oj, hoj, hall⟩ := mem_ready.1 hj
      have hiun : listed.getD i false ≠ true := fun h' => by
        have h0 := (mem_ready.1 hr).1
        rcases Nat.lt_or_ge i listed.size with h2 | h2
        · simp [h2] at h0 h'; rw [h0] at h'; cases h'
        · simp [Array.getElem?_eq_none h2] at h'
      have hnot : ∀ e ∈ oj.after, Region.binds md e = true → e.on ≠ i := fun e he hb heq => hiun (heq ▸ hall e he hb)
      have h2 := wpOp_putIf hoj (hfree j oj hoj hji hjun hnot) (fun cs b => hsel i oi cs b hi) (fun cs b => hsel j oj cs b hoj) hQ hy h1
      have hfree' : ∀ k ok, ops[k]? = some ok → k ≠ i → (listed.setIfInBounds j true).getD k true = false →
          (∀ e ∈ ok.after, Region.binds md e = true → e.on ≠ i) → oi.apart ops ok = true := fun k ok hk hki hun hno => by
        refine hfree k ok hk hki ?_ hno
        by_cases hjk : j = k
        · subst hjk; exact hjun
        · rw [getD_set_ne true hjk] at hun; exact hun
      refine wpOp_mono (fun a' w' h3 => ⟨h3.2.1, ih (listed.setIfInBounds j true) a' w' (hdc.set hoj hall) hfree' (ready_mono hr (Ne.symm hji)) h3.1 h3.2.1.2 ?_⟩) h2
      rw [Array.setIfInBounds_comm _ _ hji]
      exact h3.2.2
end
section
variable (P : Program) (T : List (Nat × Ty)) (nt : Nat)
/-- An operation that yields whatever becomes of own objects. -/
def vcYF (o : Oper) (tm : List (Nat × SV)) (ob : List (Nat × Ob)) (K : Kt) : Prop := match vcY P T o.op tm [] (fun s => putT nt o.dst s tm ob K) with
  | some p => p
  | none => False
def vcYS (fr : Bool) (o : Oper) (tm : List (Nat × SV)) (ob : List (Nat × Ob)) (K : Kt) : Prop := match fr with
  | true => vcYF P T nt o tm ob K
  | false => vcYP P T nt o tm ob K
def vcRF (late free : List Nat) (ops : Array Oper) (K : Kt) : List (Nat × Bool) → Kt
  | [], tm, ob => K tm ob
  | (i, y) :: r, tm, ob => match nth ops.toList i with
    | none => False
    | some o => match o.guard with
      | none => match y with
        | true => vcYS P T nt (free.contains i) o tm ob (vcRF late free ops K r)
        | false => vcOpK P T nt (!late.contains i) o tm ob (vcRF late free ops K r)
      | some (j, want) => match gdT ops j with
        | none => False
        | some t => match lk t tm with
          | some (.d (.u (.bool b))) => match y with
            | true => match want with
              | true => Brn b (vcYS P T nt (free.contains i) o tm ob (vcRF late free ops K r)) (skipT nt o.dst tm ob (vcRF late free ops K r))
              | false => Brn b (skipT nt o.dst tm ob (vcRF late free ops K r)) (vcYS P T nt (free.contains i) o tm ob (vcRF late free ops K r))
            | false => match want with
              | true => Brn b (vcOpK P T nt (!late.contains i) o tm ob (vcRF late free ops K r)) (skipT nt o.dst tm ob (vcRF late free ops K r))
              | false => Brn b (skipT nt o.dst tm ob (vcRF late free ops K r)) (vcOpK P T nt (!late.contains i) o tm ob (vcRF late free ops K r))
          | some (.t []) => skipT nt o.dst tm ob (vcRF late free ops K r)
          | _ => False
end
def ordOkF (ops : Array Oper) (late free : List Nat) : Array Bool → List (Nat × Bool) → Bool
  | listed, [] => Region.ready .any ops listed == []
  | listed, (i, true) :: r => (bif free.contains i then regOk ops listed [] i else regOk ops listed late i) && (dstAt ops i && ordOkF ops late free (listed.setIfInBounds i true) r)
  | listed, (i, false) :: r => (Region.ready .any ops listed == [i]) && ((bif late.contains i then allLate late r && (List.range ops.size).all (fun j => listed.getD j true || (late.contains j && !free.contains j)) else keepAt ops i && !free.contains i) && ordOkF ops late free (listed.setIfInBounds i true) r)
section
variable {P : Program} {T : List (Nat × Ty)} [hT : Tys P T] {nt : Nat} {ops : Array Oper} {Q : Exit → Act → World → Prop} {late free : List Nat} {c : Cx} {K : Kt}
/-- What stays in a step, seen from the step's own start. -/
theorem Gd.recx {st : St} {tm : List (Nat × Value)} {h : Hs} {ρ : Rho} {G : FG} (g : Gd c st tm h ρ G) : Gd ⟨h.F, h.w0, G⟩ st tm h ρ G := ⟨fun _ h => h, Same.refl _ _, g.gF, fun _ h => .inl h, .refl _, g.tm, g.ob⟩
theorem Gd.back {st st' : St} {tm tm' : List (Nat × Value)} {h h' : Hs} {ρ ρ' : Rho} {G G' : FG} (g : Gd c st tm h ρ G) (g' : Gd ⟨h.F, h.w0, G⟩ st' tm' h' ρ' G') : Gd c st' tm' h' ρ' G' :=
  ⟨fun b hb => g'.fF b (g.fF b hb), g.fw.trans (g'.fw.mono g.fF), g'.gF, fun b hb => (g'.gx b hb).elim (g.gx b) fun q => .inr fun h0 => q (g.fF b h0), g.fm.trans g'.fm, g'.tm, g'.ob⟩
abbrev Frn (h : Hs) (w : World) : Prop := Hp ⟨h.F, h.w0, []⟩ w
theorem Hp.frn {h : Hs} {w : World} (hw : Hp h w) : Frn h w := ⟨hw.same, hw.inF, fun b x hx => (by cases hx), (by simp), fun b x hx => (by cases hx)⟩
theorem Frn.back {st' : St} {tm' : List (Nat × Value)} {h h' : Hs} {ρ' : Rho} {G G' : FG} {w0 w : World} (h0 : Hp h w0) (g' : Gd ⟨h.F, h.w0, G⟩ st' tm' h' ρ' G') (hw : Frn h' w) : Frn h w :=
  ⟨g'.fw.trans (hw.same.mono g'.fF), h0.inF, fun b x hx => (by cases hx), (by simp), fun b x hx => (by cases hx)⟩
omit hT in
theorem vcRF_split {i : Nat} {y : Bool} {r : List (Nat × Bool)} {o : Oper} {tm : List (Nat × SV)} {ob : List (Nat × Ob)} (ho : ops[i]? = some o) (k : vcRF P T nt late free ops K ((i, y) :: r) tm ob) :
    (match o.guard with
      | none => (match y with | true => vcYS P T nt (free.contains i) o tm ob (vcRF P T nt late free ops K r) | false => vcOpK P T nt (!late.contains i) o tm ob (vcRF P T nt late free ops K r))
      | some (j, want) => match gdT ops j with
        | none => False
        | some t => match lk t tm with
          | some (.d (.u (.bool b))) => match want with
            | true => Brn b (match y with | true => vcYS P T nt (free.contains i) o tm ob (vcRF P T nt late free ops K r) | false => vcOpK P T nt (!late.contains i) o tm ob (vcRF P T nt late free ops K r)) (skipT nt o.dst tm ob (vcRF P T nt late free ops K r))
            | false => Brn b (skipT nt o.dst tm ob (vcRF P T nt late free ops K r)) (match y with | true => vcYS P T nt (free.contains i) o tm ob (vcRF P T nt late free ops K r) | false => vcOpK P T nt (!late.contains i) o tm ob (vcRF P T nt late free ops K r))
          | some (.t []) => skipT nt o.dst tm ob (vcRF P T nt late free ops K r)
          | _ => False) := by
  have hn : nth ops.toList i = some o := by rw [nth_eq]; simpa using ho
  simp only [vcRF, hn] at k
  cases y <;> exact k
theorem vcRF_tail (hK : ∀ st tm h ρ G, Gd c st tm h ρ G → K st.tm st.ob → AWq nt Q .normal tm h) : ∀ (r : List (Nat × Bool)) (listed : Array Bool) (fuel : Nat) (S : World → Prop) (st : St) (tm : List (Nat × Value)) (h : Hs) (ρ : Rho) (G : FG), r.length ≤ fuel → allLate late r = true → ordOkF ops late free listed r = true → (∀ j, listed.getD j true = false → late.contains j = true ∧ free.contains j = false) → Gd c st tm h ρ G → vcRF P T nt late free ops K r st.tm st.ob →
    ∀ (a : Act) (w : World), Slt nt tm a → Hp h w → wpAnyX P .any ops Q S (Frn h) late free fuel listed a w
  | [], listed, fuel, S, st, tm, h, ρ, G, _, _, ho, _, g, k, a, w, ha, hw => by
    have hr : Region.ready .any ops listed = [] := by simpa [ordOkF] using ho
    have hq := (hK st tm h ρ G g k).out a w ha hw
    cases fuel with
    | zero => exact ⟨hr, hq⟩
    | succ n => exact ⟨fun _ => hq, by rw [hr]; simp⟩
  | (i, true) :: r, listed, fuel, S, st, tm, h, ρ, G, _, hl, ho, _, g, k, a, w, ha, hw => by simp [allLate] at hl
  | (i, false) :: r, listed, 0, S, st, tm, h, ρ, G, hf, hl, ho, _, g, k, a, w, ha, hw => by simp at hf
  | (i, false) :: r, listed, fuel + 1, S, st, tm, h, ρ, G, hf, hl, ho, hlt, g, k, a, w, ha, hw => by
    simp only [ordOkF, Bool.and_eq_true] at ho
    simp only [allLate, Bool.and_eq_true] at hl
    have hr : Region.ready .any ops listed = [i] := eq_of_beq ho.1
    refine ⟨fun h' => (by rw [hr] at h'; cases h'), fun j hj => ?_⟩
    have hj' := hj
    rw [hr] at hj
    obtain rfl : j = i := by simpa using hj
    obtain ⟨hun, o, hoj, _⟩ := mem_ready.1 hj'
    obtain ⟨lt1, lt2⟩ := hlt j hun
    have hlt' : ∀ q, (listed.setIfInBounds j true).getD q true = false → late.contains q = true ∧ free.contains q = false := fun q hq => hlt q (by
      by_cases hjq : j = q
      · subst hjq; exact hun
      · rw [getD_set_ne true hjq] at hq; exact hq)
    have ih : ∀ tm' h', Kd ⟨h.F, h.w0, G⟩ (vcRF P T nt late free ops K r) tm' h' → ∀ (a : Act) (w' : World), Slt nt tm' a → Hp h' w' → (((free.contains j = true → w' = w) ∧ (late.contains j = false → free.contains j = false → S w')) ∧ Frn h w') ∧ wpAnyX P .any ops Q S (Frn h) late free fuel (listed.setIfInBounds j true) a w' :=
      fun tm' h' ⟨st', ρ', G', h2, hh, g', k'⟩ a w' ha hw' => ⟨⟨⟨fun hn => (by rw [lt2] at hn; cases hn), fun hn => (by rw [lt1] at hn; cases hn)⟩, Frn.back hw g' (hh w' hw').frn⟩, wpAnyX_mono (fun _ h => h) (fun w2 hw2 => Frn.back hw g' hw2) _ _ _ _ (vcRF_tail hK r _ fuel S st' tm' h2 ρ' G' (by simp at hf; omega) hl.2 ho.2.2 hlt' (g.back g') k' a w' ha (hh w' hw'))⟩
    unfold wpOp
    simp only [hoj]
    obtain ⟨d, op, ty, pos, af, gu⟩ := o
    rcases vcR_guard (X := vcRF P T nt late free ops K r) (i := j) g a ha (vcRF_split hoj k) with ⟨hw1, k1⟩ | ⟨hw1, k1⟩
    · rw [if_pos hw1]
      refine .inl (Oper.wp_mono ?_ ((vcOpK_sound (P := P) (T := T) (Q := Q) g.recx k1).out a w ha hw))
      rintro a' w' ⟨tm', h', h1, h2, h3⟩
      exact ih tm' h' h3 a' w' h1 h2
    · rw [if_neg (by rw [hw1]; simp)]
      cases d with
      | none =>
        have q := ih tm h (.of g.recx k1) a w ha hw
        exact ⟨⟨⟨fun _ => trivial, q.1.1.2⟩, q.1.2⟩, q.2⟩
      | some d =>
        simp only [skipT] at k1
        cases hd : Nat.blt d nt
        · rw [hd] at k1; exact k1.elim
        · rw [hd] at k1
          have q := ih _ h (.of (g.recx.put (.t (vs := []) rfl (by simp))) k1) _ w (ha.put (by simpa using hd) undef) hw
          exact ⟨⟨⟨fun _ => trivial, q.1.1.2⟩, q.1.2⟩, q.2⟩
theorem vcRF_sound [q : PanicOk Q] (hK : ∀ st tm h ρ G, Gd c st tm h ρ G → K st.tm st.ob → AWq nt Q .normal tm h) : ∀ (r : List (Nat × Bool)) (listed : Array Bool) (fuel : Nat) (st : St) (tm : List (Nat × Value)) (h : Hs) (ρ : Rho) (G : FG), r.length ≤ fuel → ordOkF ops late free listed r = true → DC .any ops listed → listed.size = ops.size → Gd c st tm h ρ G → vcRF P T nt late free ops K r st.tm st.ob →
    ∀ (a : Act) (w : World), Slt nt tm a → Hp h w → wpAnyX P .any ops Q (Hp h) (Frn h) late free fuel listed a w
  | [], listed, fuel, st, tm, h, ρ, G, _, ho, _, _, g, k, a, w, ha, hw => by
    have hr : Region.ready .any ops listed = [] := by simpa [ordOkF] using ho
    have hq := (hK st tm h ρ G g k).out a w ha hw
    cases fuel with
    | zero => exact ⟨hr, hq⟩
    | succ n => exact ⟨fun _ => hq, by rw [hr]; simp⟩
  | (i, y) :: r, listed, 0, st, tm, h, ρ, G, hf, ho, _, _, g, k, a, w, ha, hw => by simp at hf
  | (i, true) :: r, listed, fuel + 1, st, tm, h, ρ, G, hf, ho, hdc, hsz, g, k, a, w, ha, hw => by
    simp only [ordOkF, Bool.and_eq_true] at ho
    obtain ⟨hB, hds, ho⟩ := ho
    have hB' : Region.noSelect ops = true ∧ Region.free .any ops listed i = true ∧ (Region.ready .any ops listed).contains i = true ∧ (free.contains i = true ∨ (free.contains i = false ∧ ∀ j, late.contains j = true → waits .any ops ops.size j i = true)) := by
      cases hfr : free.contains i
      · rw [hfr] at hB
        simp only [cond_false, regOk, Bool.and_eq_true] at hB
        obtain ⟨b1, b2, b3, b4⟩ := hB
        exact ⟨b1, b2, b3, .inr ⟨rfl, fun j hj => List.all_eq_true.1 b4 j (by simpa using hj)⟩⟩
      · rw [hfr] at hB
        simp only [cond_true, regOk, Bool.and_eq_true] at hB
        exact ⟨hB.1, hB.2.1, hB.2.2.1, .inl rfl⟩
    obtain ⟨b1, b2, b3, b4⟩ := hB'
    have hr' : i ∈ Region.ready .any ops listed := by simpa using b3
    obtain ⟨_, o, hoj, hdep⟩ := mem_ready.1 hr'
    have hdc' := hdc.set hoj hdep
    have hsz' : (listed.setIfInBounds i true).size = ops.size := by simp [hsz]
    have hdd : ∃ d, o.dst = some d := by
      simp only [dstAt, hoj] at hds
      exact Option.isSome_iff_exists.1 hds
    obtain ⟨d0, hd0⟩ := hdd
    have hf' : r.length ≤ fuel := by simp at hf; omega
    obtain ⟨d, op, ty, pos, af, gu⟩ := o
    simp only at hd0
    subst hd0
    rcases vcR_guard (X := vcRF P T nt late free ops K r) (i := i) g a ha (vcRF_split hoj k) with ⟨hw1, k1⟩ | ⟨hw1, k1⟩
    · rcases b4 with hfr | ⟨hfr, hlate⟩
      · rw [hfr] at k1
        simp only [vcYS, vcYF] at k1
        cases hy : vcY P T op st.tm [] (fun s => putT nt (some d0) s st.tm st.ob (vcRF P T nt late free ops K r)) with
        | none => simp only [hy] at k1
        | some p =>
          simp only [hy] at k1
          have g0 : Gd c ⟨st.tm, []⟩ tm ⟨h.F, h.w0, []⟩ ρ G := ⟨g.fF, g.fw, g.gF, g.gx, g.fm, g.tm, rfl⟩
          obtain ⟨s, v, q1, q2, q3⟩ := vcY_sound g0 hy k1 (P := P) (nt := nt) (ty := ty) (pos := pos) (af := af) (gd := gu) (d := some d0)
          simp only [putT] at q3
          cases hd : Nat.blt d0 nt
          · rw [hd] at q3; exact q3.elim
          · rw [hd] at q3
            have hrest := vcRF_sound hK r _ fuel _ _ h ρ G hf' ho hdc' hsz' (g.put (d := d0) q2) q3 _ w (ha.put (by simpa using hd) v) hw
            exact wpAnyX_free hoj (Region.noSelect_spec b1) (fun c a w hq => q.ok c a _ _ w hq) hfr fuel listed a w hdc (Region.free_spec hoj b2) hr' (.inl ⟨hw1, fun w' hw' => q1.out a w' ha hw'⟩) hw.frn hrest
      · rw [hfr] at k1
        simp only [vcYS, vcYP] at k1
        cases hy : vcY P T op st.tm st.ob (fun s => putT nt (some d0) s st.tm st.ob (vcRF P T nt late free ops K r)) with
        | none => simp only [hy] at k1
        | some p =>
          simp only [hy] at k1
          obtain ⟨s, v, q1, q2, q3⟩ := vcY_sound g hy k1 (P := P) (nt := nt) (ty := ty) (pos := pos) (af := af) (gd := gu) (d := some d0)
          simp only [putT] at q3
          cases hd : Nat.blt d0 nt
          · rw [hd] at q3; exact q3.elim
          · rw [hd] at q3
            have hrest := vcRF_sound hK r _ fuel _ _ h ρ G hf' ho hdc' hsz' (g.put (d := d0) q2) q3 _ w (ha.put (by simpa using hd) v) hw
            exact wpAnyX_first hoj (Region.noSelect_spec b1) (fun c a w hq => q.ok c a _ _ w hq) (n := ops.size) hlate fuel listed a w hdc (Region.free_spec hoj b2) hr' (.inl ⟨hw1, fun w hw => q1.out a w ha hw⟩) hw hw.frn hrest
    · simp only [skipT] at k1
      cases hd : Nat.blt d0 nt
      · rw [hd] at k1; exact k1.elim
      · rw [hd] at k1
        have hrest := vcRF_sound hK r _ fuel _ _ h ρ G hf' ho hdc' hsz' (g.put (d := d0) (.t (vs := []) rfl (by simp))) k1 _ w (ha.put (by simpa using hd) undef) hw
        rcases b4 with hfr | ⟨_, hlate⟩
        · exact wpAnyX_free hoj (Region.noSelect_spec b1) (fun c a w hq => q.ok c a _ _ w hq) hfr fuel listed a w hdc (Region.free_spec hoj b2) hr' (.inr ⟨hw1, rfl⟩) hw.frn hrest
        · exact wpAnyX_first hoj (Region.noSelect_spec b1) (fun c a w hq => q.ok c a _ _ w hq) (n := ops.size) hlate fuel listed a w hdc (Region.free_spec hoj b2) hr' (.inr ⟨hw1, rfl⟩) hw hw.frn hrest
  | (i, false) :: r, listed, fuel + 1, st, tm, h, ρ, G, hf, ho, hdc, hsz, g, k, a, w, ha, hw => by
    have ho0 := ho
    simp only [ordOkF, Bool.and_eq_true] at ho
    have hr : Region.ready .any ops listed = [i] := eq_of_beq ho.1
    have hf' : r.length ≤ fuel := by simp at hf; omega
    cases hc : late.contains i
    · rw [hc] at ho
      simp only [cond_false] at ho
      refine ⟨fun h' => (by rw [hr] at h'; cases h'), fun j hj => ?_⟩
      have hj' := hj
      rw [hr] at hj
      obtain rfl : j = i := by simpa using hj
      obtain ⟨_, o, hoj, hdep⟩ := mem_ready.1 hj'
      simp only [Bool.and_eq_true, Bool.not_eq_true'] at ho
      have hkp : keepT o.op = true := by have := ho.2.1.1; simpa only [keepAt, hoj] using this
      have hnf : free.contains j = false := ho.2.1.2
      have hg : ∀ w', Hp h w' → ((free.contains j = true → w' = w) ∧ (late.contains j = false → free.contains j = false → Hp h w')) ∧ Frn h w' := fun w' hw' => ⟨⟨fun hf => absurd hf (by rw [hnf]; simp), fun _ _ => hw'⟩, hw'.frn⟩
      have hdc' := hdc.set hoj hdep
      have hsz' : (listed.setIfInBounds j true).size = ops.size := by simp [hsz]
      unfold wpOp
      simp only [hoj]
      obtain ⟨d, op, ty, pos, af, gu⟩ := o
      rcases vcR_guard (X := vcRF P T nt late free ops K r) (i := j) g a ha (vcRF_split hoj k) with ⟨hw1, k1⟩ | ⟨hw1, k1⟩
      · rw [if_pos hw1]
        refine .inl (Oper.wp_mono ?_ ((vcOpK_keep (P := P) (T := T) (Q := Q) hkp g.recx (by simp only [hc, Bool.not_false] at k1; exact k1)).out a w ha hw))
        rintro a' w' ⟨tm', h', h1, h2, st', ρ', G', h3, hh, hkeep, g', k'⟩
        exact ⟨hg w' (hkeep w' (hh w' h2)), wpAnyX_mono hkeep (fun w2 hw2 => Frn.back hw g' hw2) _ _ _ _ (vcRF_sound hK r _ fuel st' tm' h3 ρ' G' hf' ho.2.2 hdc' hsz' (g.back g') k' a' w' h1 (hh w' h2))⟩
      · rw [if_neg (by rw [hw1]; simp)]
        cases d with
        | none => exact ⟨⟨⟨fun _ => trivial, (hg w hw).1.2⟩, (hg w hw).2⟩, vcRF_sound hK r _ fuel st tm h ρ G hf' ho.2.2 hdc' hsz' g k1 a w ha hw⟩
        | some d =>
          simp only [skipT] at k1
          cases hd : Nat.blt d nt
          · rw [hd] at k1; exact k1.elim
          · rw [hd] at k1
            exact ⟨⟨⟨fun _ => trivial, (hg w hw).1.2⟩, (hg w hw).2⟩, vcRF_sound hK r _ fuel _ _ h ρ G hf' ho.2.2 hdc' hsz' (g.put (d := d) (.t (vs := []) rfl (by simp))) k1 _ w (ha.put (by simpa using hd) undef) hw⟩
    · rw [hc] at ho
      simp only [cond_true, Bool.and_eq_true] at ho
      refine vcRF_tail hK _ listed (fuel + 1) _ st tm h ρ G hf (by simp only [allLate, Bool.and_eq_true]; exact ⟨⟨rfl, hc⟩, ho.2.1.1⟩) ho0 (fun j hj => ?_) g k a w ha hw
      have hjs : j < ops.size := by
        rcases Nat.lt_or_ge j listed.size with h' | h'
        · omega
        · simp [Array.getElem?_eq_none h'] at hj
      have := List.all_eq_true.1 ho.2.1.2 j (List.mem_range.2 hjs)
      simp only [hj, Bool.false_or, Bool.and_eq_true, Bool.not_eq_true'] at this
      exact this
/-- A region that draws, by an order; the free ones read frozen memory alone. -/
theorem Drw.ofF {i : Nat} {tmT : List (Nat × SV)} {ob : List (Nat × Ob)} (late free : List Nat) (r : List (Nat × Bool)) (ho : (Nat.ble r.length ops.size && ordOkF ops late free (Array.replicate ops.size false) r) = true) (k : vcRF P T nt late free ops K r tmT ob) : Drw P nt i ops K tmT ob :=
  ⟨fun c tm h ρ G g Q q hK => ⟨fun a w ha hw => wp_region_any hT.mo (wpAny_of_X (S := Hp h) (S1 := Frn h) (late := late) (free := free) _ _ _ _ (by
    simp only [Bool.and_eq_true, Nat.ble_eq] at ho
    exact vcRF_sound hK r _ _ ⟨tmT, ob⟩ tm h ρ G ho.1 ho.2 DC.start (by simp) g k a { w with drawn := w.drawn + 1 } ha (hw.drawn _)))⟩⟩
end
end Go.Proofs.Ytgiebofmfkacgaa

/-
  The layer of trees: regions that draw their order: first what reads frozen memory alone, then all orders of the rest. Of no program.
-/
namespace Go.Proofs.Ytgiebofmfkacgaa
open Go.RowKit
section
variable (P : Program) (T : List (Nat × Ty)) (nt : Nat)
def vcPf (ops : Array Oper) (K : Kt) (t : OT) : List Nat → Kt
  | [], tm, ob => vcOT P T nt ops K t tm ob
  | i :: r, tm, ob => match nth ops.toList i with
    | none => False
    | some o => match o.guard with
      | none => vcYF P T nt o tm ob (vcPf ops K t r)
      | some _ => False
end
def ordOkP (ops : Array Oper) (late free : List Nat) (t : OT) : Array Bool → List Nat → Bool
  | listed, [] => t.chk ops true listed && (List.range ops.size).all (fun j => listed.getD j true || (late.contains j && !free.contains j))
  | listed, i :: r => (free.contains i && regOk ops listed [] i) && (dstAt ops i && ordOkP ops late free t (listed.setIfInBounds i true) r)
section
variable {P : Program} {T : List (Nat × Ty)} [hT : Tys P T] {nt : Nat} {ops : Array Oper} {Q : Exit → Act → World → Prop} {late free : List Nat} {c : Cx} {K : Kt}
theorem vcOTX_sound (hK : ∀ st tm h ρ G, Gd c st tm h ρ G → K st.tm st.ob → AWq nt Q .normal tm h) : ∀ (t : OT) (listed : Array Bool) (fuel : Nat) (S : World → Prop) (st : St) (tm : List (Nat × Value)) (h : Hs) (ρ : Rho) (G : FG), t.depth ≤ fuel → (∀ j, listed.getD j true = false → late.contains j = true ∧ free.contains j = false) → Gd c st tm h ρ G → vcOT P T nt ops K t st.tm st.ob → ∀ (a : Act) (w : World), Slt nt tm a → Hp h w →
    (t.chk ops true listed = true → wpAnyX P .any ops Q S (Frn h) late free fuel listed a w) ∧ (∀ f, fuel = f + 1 → t.chk ops false listed = true → ∀ i ∈ t.heads, listed.getD i true = false → wpOp P ops Q i (fun a' w' => (((free.contains i = true → w' = w) ∧ (late.contains i = false → free.contains i = false → S w')) ∧ Frn h w') ∧ wpAnyX P .any ops Q S (Frn h) late free f (listed.setIfInBounds i true) a' w') a w)
  | .nil, listed, fuel, S, st, tm, h, ρ, G, hf, hlt, g, k, a, w, ha, hw => by
    refine ⟨fun hc => ?_, fun f _ _ i hi => by cases hi⟩
    have hr : Region.ready .any ops listed = [] := by simpa [OT.chk] using hc
    have hq := (hK st tm h ρ G g k).out a w ha hw
    cases fuel with
    | zero => exact ⟨hr, hq⟩
    | succ n => exact ⟨fun _ => hq, by rw [hr]; simp⟩
  | .alt i s r, listed, fuel, S, st, tm, h, ρ, G, hf, hlt, g, k, a, w, ha, hw => by
    obtain ⟨k1, k2⟩ := vcOT_alt k
    simp only [OT.depth] at hf
    have two : ∀ f, fuel = f + 1 → (OT.alt i s r).chk ops false listed = true → ∀ j ∈ (OT.alt i s r).heads, listed.getD j true = false → wpOp P ops Q j (fun a' w' => (((free.contains j = true → w' = w) ∧ (late.contains j = false → free.contains j = false → S w')) ∧ Frn h w') ∧ wpAnyX P .any ops Q S (Frn h) late free f (listed.setIfInBounds j true) a' w') a w := by
      intro f hfu hc j hj hun
      simp only [OT.chk, cond_false, Bool.true_and, Bool.and_eq_true] at hc
      rcases List.mem_cons.1 hj with rfl | hj
      · obtain ⟨lt1, lt2⟩ := hlt j hun
        have hlt' : ∀ q, (listed.setIfInBounds j true).getD q true = false → late.contains q = true ∧ free.contains q = false := fun q hq => hlt q (by
          by_cases hjq : j = q
          · subst hjq; exact hun
          · rw [getD_set_ne true hjq] at hq; exact hq)
        exact vcG_sound g.recx k1 (fun tm' h' ⟨st', ρ', G', h2, hh, g', k'⟩ a' w' ha' hw' => ⟨⟨⟨fun hn => (by rw [lt2] at hn; cases hn), fun hn => (by rw [lt1] at hn; cases hn)⟩, Frn.back hw g' (hh w' hw').frn⟩,
          wpAnyX_mono (fun _ h => h) (fun w2 hw2 => Frn.back hw g' hw2) _ _ _ _ ((vcOTX_sound hK s _ f S st' tm' h2 ρ' G' (by omega) hlt' (g.back g') k' a' w' ha' (hh w' hw')).1 hc.1)⟩) a w ha hw
      · have hne : r ≠ .nil := fun e => by subst e; cases hj
        exact (vcOTX_sound hK r listed fuel S st tm h ρ G (by omega) hlt g (k2 hne) a w ha hw).2 f hfu hc.2 j hj hun
    refine ⟨fun hc => ?_, two⟩
    simp only [OT.chk, cond_true, Bool.and_eq_true] at hc
    have hr : Region.ready .any ops listed = (OT.alt i s r).heads := eq_of_beq hc.1
    cases fuel with
    | zero => omega
    | succ n =>
      refine ⟨fun h' => (by rw [hr] at h'; cases h'), fun j hj => ?_⟩
      have hun := (mem_ready.1 hj).1
      rw [hr] at hj
      exact two n rfl (by simp only [OT.chk, cond_false, Bool.true_and, Bool.and_eq_true]; exact hc.2) j hj hun
theorem vcPf_sound [q : PanicOk Q] (hK : ∀ st tm h ρ G, Gd c st tm h ρ G → K st.tm st.ob → AWq nt Q .normal tm h) (t : OT) : ∀ (r : List Nat) (listed : Array Bool) (fuel : Nat) (st : St) (tm : List (Nat × Value)) (h : Hs) (ρ : Rho) (G : FG), r.length + t.depth ≤ fuel → ordOkP ops late free t listed r = true → DC .any ops listed → listed.size = ops.size → Gd c st tm h ρ G → vcPf P T nt ops K t r st.tm st.ob →
    ∀ (a : Act) (w : World), Slt nt tm a → Hp h w → wpAnyX P .any ops Q (Hp h) (Frn h) late free fuel listed a w
  | [], listed, fuel, st, tm, h, ρ, G, hf, ho, hdc, hsz, g, k, a, w, ha, hw => by
    simp only [ordOkP, Bool.and_eq_true] at ho
    refine (vcOTX_sound hK t listed fuel _ st tm h ρ G (by simpa using hf) (fun j hj => ?_) g k a w ha hw).1 ho.1
    have hjs : j < ops.size := by
      rcases Nat.lt_or_ge j listed.size with h' | h'
      · omega
      · simp [Array.getElem?_eq_none h'] at hj
    have := List.all_eq_true.1 ho.2 j (List.mem_range.2 hjs)
    simp only [hj, Bool.false_or, Bool.and_eq_true, Bool.not_eq_true'] at this
    exact this
  | i :: r, listed, 0, st, tm, h, ρ, G, hf, ho, _, _, g, k, a, w, ha, hw => by simp at hf
  | i :: r, listed, fuel + 1, st, tm, h, ρ, G, hf, ho, hdc, hsz, g, k, a, w, ha, hw => by
    simp only [ordOkP, Bool.and_eq_true, regOk] at ho
    obtain ⟨⟨hfr, b1, b2, b3, _⟩, hds, ho⟩ := ho
    have hr' : i ∈ Region.ready .any ops listed := by simpa using b3
    obtain ⟨_, o, hoj, hdep⟩ := mem_ready.1 hr'
    have hdc' := hdc.set hoj hdep
    have hsz' : (listed.setIfInBounds i true).size = ops.size := by simp [hsz]
    have hdd : ∃ d, o.dst = some d := by
      simp only [dstAt, hoj] at hds
      exact Option.isSome_iff_exists.1 hds
    obtain ⟨d0, hd0⟩ := hdd
    have hf' : r.length + t.depth ≤ fuel := by simp at hf; omega
    have hn : nth ops.toList i = some o := by rw [nth_eq]; simpa using hoj
    simp only [vcPf, hn] at k
    obtain ⟨d, op, ty, pos, af, gu⟩ := o
    simp only at hd0
    subst hd0
    cases gu with
    | some x => exact k.elim
    | none =>
      simp only [vcYF] at k
      cases hy : vcY P T op st.tm [] (fun s => putT nt (some d0) s st.tm st.ob (vcPf P T nt ops K t r)) with
      | none => simp only [hy] at k
      | some p =>
        simp only [hy] at k
        have g0 : Gd c ⟨st.tm, []⟩ tm ⟨h.F, h.w0, []⟩ ρ G := ⟨g.fF, g.fw, g.gF, g.gx, g.fm, g.tm, rfl⟩
        obtain ⟨s, v, q1, q2, q3⟩ := vcY_sound g0 hy k (P := P) (nt := nt) (ty := ty) (pos := pos) (af := af) (gd := none) (d := some d0)
        simp only [putT] at q3
        cases hd : Nat.blt d0 nt
        · rw [hd] at q3; exact q3.elim
        · rw [hd] at q3
          have hrest := vcPf_sound hK t r _ fuel _ _ h ρ G hf' ho hdc' hsz' (g.put (d := d0) q2) q3 _ w (ha.put (by simpa using hd) v) hw
          exact wpAnyX_free hoj (Region.noSelect_spec b1) (fun c a w hq => q.ok c a _ _ w hq) hfr fuel listed a w hdc (Region.free_spec hoj b2) hr' (.inl ⟨rfl, fun w' hw' => q1.out a w' ha hw'⟩) hw.frn hrest
/-- A region that draws: first what reads frozen memory alone, then all orders of the rest. -/
theorem Drw.ofP {i : Nat} {tmT : List (Nat × SV)} {ob : List (Nat × Ob)} (late free : List Nat) (r : List Nat) (t : OT) (ho : (Nat.ble (r.length + t.depth) ops.size && ordOkP ops late free t (Array.replicate ops.size false) r) = true) (k : vcPf P T nt ops K t r tmT ob) : Drw P nt i ops K tmT ob :=
  ⟨fun c tm h ρ G g Q q hK => ⟨fun a w ha hw => wp_region_any hT.mo (wpAny_of_X (S := Hp h) (S1 := Frn h) (late := late) (free := free) _ _ _ _ (by
    simp only [Bool.and_eq_true, Nat.ble_eq] at ho
    exact vcPf_sound hK t r _ _ ⟨tmT, ob⟩ tm h ρ G ho.1 ho.2 DC.start (by simp) g k a { w with drawn := w.drawn + 1 } ha (hw.drawn _)))⟩⟩
end
end Go.Proofs.Ytgiebofmfkacgaa
namespace Go.Proofs.Ytgiebofmfkacgaa
open Go.RowKit
/-- A task of the reference. -/
structure Tk6 where
  job : Int
  at_ : Int
  begun : Bool
  guarding : Bool
  ended : Bool
  cancelled : Bool
  due : Int
  stamp : Int
  waits : Int
  since : Int
abbrev Tk6.v (t : Tk6) : List V := [.int .i64 t.job, .int .i64 t.at_, .bool t.begun, .bool t.guarding, .bool t.ended, .bool t.cancelled, .int .i64 t.due, .int .i64 t.stamp, .int .i64 t.waits, .int .i64 t.since]
structure Sg where
  tasks : List Tk6
  now : Int
  next : Int
  log : List Rc
abbrev sgA (jobs : List Jb) (g : Sg) : SV := .a [.u (jvs jobs), .ow 901 g.tasks.length, .u (.int .i64 g.now), .u (.int .i64 g.next), .ow 902 g.log.length]
abbrev sgO (g : Sg) : List (Nat × Ob) := [(901, .ar 85 10 (g.tasks.map Tk6.v)), (902, .ar 55 4 (g.log.map Rc.v))]
def readyG (g : Sg) (n : Nat) : Sg := ⟨g.tasks.modify n fun t => { t with due := g.now, stamp := g.next }, g.now, g.next + 1, g.log⟩
def recG (g : Sg) (n : Int) (kind value : Int) : Sg := ⟨g.tasks, g.now, g.next, g.log ++ [⟨g.now, n, kind, value⟩]⟩
theorem modify_set {α : Type} (l : List α) (n : Nat) (f : α → α) (h : n < l.length) : l.modify n f = l.set n (f l[n]) := by
  apply List.ext_getElem?
  intro j
  rw [List.getElem?_modify, List.getElem?_set]
  by_cases hj : n = j
  · subst hj; simp [h]
  · simp [hj]
set_option maxHeartbeats 1000000 in
theorem ready_R (jobs : List Jb) (g : Sg) (n : Nat) (hn : n < g.tasks.length) (hb : g.next ≤ 1000000000) (h0 : 0 ≤ g.next) : CallsA Try.prog 48 [sgA jobs g, di n] (sgO g) (Iso (sgA jobs (readyG g n)) (sgO (readyG g n))) := by
  obtain ⟨ts, now, nx, log⟩ := g
  dsimp only at hn hb h0
  have hm := modify_set ts n (fun t => { t with due := now, stamp := nx }) hn
  have hrw : ∀ {K : List V → Prop}, K (ts[n]).v → Rw (ts.map Tk6.v) n K := fun k => Rw.map hn k
  simp only [readyG, hm]
  generalize ts[n] = t at hrw
  obtain ⟨t1, t2, t3, t4, t5, t6, t7, t8, t9, t10⟩ := t
  refine callsA_of_vcO (T := tt) Try.func48 rfl rfl rfl rfl rfl ?_
  repeat' ((conv => whnf); first | refine Ixo.mk ⟨n, rfl, hn, ?_⟩ | refine hrw ?_ | refine Rw.self (by simp [hn]) ?_ | refine Gs.id ?_ | refine Rng.mk (by (try simp only [smT]); omega) ?_)
  all_goals (conv => whnf)
  · refine RetO.mk ⟨[(901, .k 901), (902, .k 902)], _, _, (by exact LeS.a (by repeat (first | exact LeL.nil | refine LeL.cons (by first | exact LeD.u rfl | exact LeD.ow rfl rfl | exact LeD.ow rfl (by simp)) ?_))), (by repeat (first | exact LeO.nil | refine LeO.ar rfl rfl (by first | rfl | simp) ?_)), rfl, rfl⟩
set_option maxHeartbeats 1000000 in
theorem record_R (jobs : List Jb) (g : Sg) (n kind value : Int) (hl : g.log.length ≤ 1000000) : CallsA Try.prog 64 [sgA jobs g, di n, di kind, di value] (sgO g) (Iso (sgA jobs (recG g n kind value)) (sgO (recG g n kind value))) := by
  obtain ⟨ts, now, nx, log⟩ := g
  dsimp only at hl
  simp only [recG]
  refine callsA_of_vcO (T := tt) Try.func64 rfl rfl rfl rfl rfl ?_
  repeat' ((conv => whnf); first | refine Gs.id ?_ | refine Apd.mk (by first | rfl | simp) (by rfl) (by (try simp only [smT]); omega) (by unfold maxLen; first | (simp; omega)) ?_)
  all_goals (conv => whnf)
  · refine RetO.mk ⟨[(901, .k 901), (902, .k 18)], _, _, (by exact LeS.a (by repeat (first | exact LeL.nil | refine LeL.cons (by first | exact LeD.u rfl | exact LeD.ow rfl rfl | exact LeD.ow rfl (by simp)) ?_))), (by repeat (first | exact LeO.nil | refine LeO.ar rfl rfl (by first | rfl | simp) ?_)), rfl, rfl⟩
theorem r0_R (n b : Int) : CallsA Try.prog 66 [di n, di b] [] (Is (di (if n < b then n else 0))) := by
  by_cases h : n < b
  · rw [if_pos h]
    refine callsA_of_vc (T := tt) Try.func66 rfl rfl rfl rfl rfl ?_
    repeat' ((conv => whnf); first | refine Gs.id ?_ | refine Brn.T (by (try simp only [smT]); first | rfl | assumption) ?_)
    all_goals (conv => whnf)
    all_goals exact Ret.is rfl
  · rw [if_neg h]
    refine callsA_of_vc (T := tt) Try.func66 rfl rfl rfl rfl rfl ?_
    repeat' ((conv => whnf); first | refine Gs.id ?_ | refine Brn.F (by (try simp only [smT]); first | rfl | omega) ?_)
    all_goals (conv => whnf)
    all_goals exact Ret.is rfl
theorem record_R' (jobs : List Jb) (ts : List Tk6) (now nx : Int) (log : List Rc) (n kind value : Int) (N M : Nat) (hN : N = ts.length) (hM : M = log.length) (r1 r2 : List (List V)) (e1 : r1 = ts.map Tk6.v) (e2 : r2 = log.map Rc.v) (hl : log.length ≤ 1000000) : CallsA Try.prog 64 [.a [.u (jvs jobs), .ow 901 N, .u (.int .i64 now), .u (.int .i64 nx), .ow 902 M], di n, di kind, di value] [(901, .ar 85 10 r1), (902, .ar 55 4 r2)] (Iso (sgA jobs ⟨ts, now, nx, log ++ [⟨now, n, kind, value⟩]⟩) (sgO ⟨ts, now, nx, log ++ [⟨now, n, kind, value⟩]⟩)) := by
  subst hN hM e1 e2
  exact record_R jobs ⟨ts, now, nx, log⟩ n kind value hl
theorem ready_R' (jobs : List Jb) (ts : List Tk6) (now nx : Int) (log : List Rc) (n : Nat) (hn : n < ts.length) (hb : nx ≤ 1000000000) (h0 : 0 ≤ nx) (N M : Nat) (hN : N = ts.length) (hM : M = log.length) (r1 r2 : List (List V)) (e1 : r1 = ts.map Tk6.v) (e2 : r2 = log.map Rc.v) : CallsA Try.prog 48 [.a [.u (jvs jobs), .ow 901 N, .u (.int .i64 now), .u (.int .i64 nx), .ow 902 M], di n] [(901, .ar 85 10 r1), (902, .ar 55 4 r2)] (Iso (sgA jobs (readyG ⟨ts, now, nx, log⟩ n)) (sgO (readyG ⟨ts, now, nx, log⟩ n))) := by
  subst hN hM e1 e2
  exact ready_R jobs ⟨ts, now, nx, log⟩ n hn hb h0
end Go.Proofs.Ytgiebofmfkacgaa
