/-
  Part 4 of the proof of scale_holds: laws and contracts that it needs.
-/
import Derived.Test.YtgiebofmfkacgaaQb3
namespace Go.Proofs.Ytgiebofmfkacgaa
open Go.RowKit

def cfOk (now ser : Int) (t : Tm) : Bool := inB t.task 0 1000000000000000 && (inB t.at_ (now + 1) 1000000000000000 && inB t.ser 0 (ser - 1))
def cfCode (now ser : Int) (rs : List Int) (pre : List Tm) (prev : Option Tm) (t : Tm) : Int :=
  if cfOk now ser t then (if busy rs pre t.task then 8 else (match prev with | none => 0 | some p => if laterB t p then 0 else 11)) else 4
def cfT (now ser : Int) (rs : List Int) (all : List Tm) : List Tm → Nat → Int × Int
  | [], _ => (0, 0)
  | t :: l, k => if cfCode now ser rs (all.take k) (prevT all k) t = 0 then cfT now ser rs all l (k + 1) else (cfCode now ser rs (all.take k) (prevT all k) t, 1000 + k)
def cfN (n : Int) (seen : List Int) : Int := if inB n 0 1000000000000000 then (if has seen n then 8 else 0) else 4
def cfR (now ser : Int) (ts : List Tm) (rs : List Int) : List Int → Nat → Int × Int
  | [], _ => cfT now ser rs ts ts 0
  | n :: l, k => if cfN n (rs.take k) = 0 then cfR now ser ts rs l (k + 1) else (cfN n (rs.take k), k)
def clockFault (c : Ck) : Int × Int :=
  if inB c.now 0 1000000000000000 && inB c.ser 0 1000000000000000 then (if 1000 < c.rs.length + c.ts.length then (2, -1) else cfR c.now c.ser c.ts c.rs c.rs 0) else (4, -1)
theorem cfR_step (now ser : Int) (ts : List Tm) (rs : List Int) (k : Nat) (h : k < rs.length) :
    cfR now ser ts rs (rs.drop k) k = if cfN rs[k] (rs.take k) = 0 then cfR now ser ts rs (rs.drop (k + 1)) (k + 1) else (cfN rs[k] (rs.take k), (k : Int)) := by
  rw [List.drop_eq_getElem_cons h]; rfl
theorem cfT_step (now ser : Int) (ts : List Tm) (rs : List Int) (k : Nat) (h : k < ts.length) :
    cfT now ser rs ts (ts.drop k) k = if cfCode now ser rs (ts.take k) (prevT ts k) ts[k] = 0 then cfT now ser rs ts (ts.drop (k + 1)) (k + 1) else (cfCode now ser rs (ts.take k) (prevT ts k) ts[k], 1000 + (k : Int)) := by
  rw [List.drop_eq_getElem_cons h]; rfl
end Go.Proofs.Ytgiebofmfkacgaa
namespace Go.Proofs.Ytgiebofmfkacgaa
open Go.RowKit

def idleF (c : Ck) (n : Int) : Int × Int :=
  if (validate c).1 = 0 then (if timeB n then (if has c.rs n || busyT c.ts n then (8, -2) else if c.rs.length + c.ts.length = 1000 then (2, -2) else (0, 0)) else (4, -2)) else validate c

theorem validate_small {c : Ck} (h : (validate c).1 = 0) : c.rs.length + c.ts.length ≤ 1000 := by
  unfold validate at h
  split at h
  · split at h
    · simp at h
    · omega
  · simp at h

set_option maxHeartbeats 2000000 in
theorem idle_any (c : Ck) (v : Value) (n : Int) (w : World) (hv : CkAt w c v) :
    Calls Try.prog 33 #[v, .int .i64 n] w fun e w' => e = .returned (flt (idleF c n)) ∧ Below w.heap.size w w' := by
  have hv0 := hv
  obtain ⟨now, ser, rs, ts⟩ := c
  obtain ⟨RA, rc, TA, tc, rfl, hr, ht, hrc, htc, hrl, htl⟩ := hv
  dsimp only at hr ht hrc htc hrl htl ⊢
  have Hv := Lib.hid hv0; clear hv0
  go_enter Try.func33, Try.ntmps33
  go_wp2_with fail
  refine (validate_any _ _ _ (Hv.out.below (by repeat (first | (with_reducible exact Below.refl _ _) | (with_reducible apply Below.drew) | (with_reducible apply below_drewN) | ((with_reducible refine Below.setCell ?_ ?_ _); rotate_left; (focus (first | (simp; done) | (simp; omega) | omega))) | ((with_reducible refine Below.alloc ?_ ?_ _); rotate_left; (focus (first | (simp; done) | (simp; omega) | omega))))))).mono ?_
  rintro e w1 ⟨rfl, hb1⟩
  obtain ⟨k1, k2, hz1⟩ := box2 (w := w) hb1 rfl (by simp)
  have hy1 : w.heap.size < w1.heap.size := by omega
  have hB1 : Below w.heap.size w w1 := Below.trans (by repeat (first | (with_reducible exact Below.refl _ _) | (with_reducible apply Below.drew) | (with_reducible apply below_drewN) | ((with_reducible refine Below.setCell ?_ ?_ _); rotate_left; (focus (first | (simp; done) | (simp; omega) | omega))) | ((with_reducible refine Below.alloc ?_ ?_ _); rotate_left; (focus (first | (simp; done) | (simp; omega) | omega))))) (hb1.mono (by simp; omega))
  obtain ⟨p0, p1, p2, p3, p4, p5, p6, p7⟩ := Blk.four k1
  obtain ⟨r0, r1, r2, r3⟩ := Blk.two k2
  have K1 := Lib.hid k1; have K2 := Lib.hid k2
  clear k1 k2 hb1
  have hvs := @validate_small ⟨now, ser, rs, ts⟩
  generalize hf : validate ⟨now, ser, rs, ts⟩ = f at hvs ⊢
  obtain ⟨f1, f2⟩ := f
  dsimp only at hvs
  by_cases hc : f1 = 0
  rotate_left
  · have hq : (f1 != 0) = true := by simpa using hc
    have HF := Lib.hid (show (f1, f2) = idleF ⟨now, ser, rs, ts⟩ n by simp [idleF, hf, hc])
    clear hc hf hvs
    go_wp2
    refine bodyPost_ret (v := .agg #[.int .i64 f1, .int .i64 f2]) (by simp [results, Try.results33, go_sem, r0, r1, hz1]) rfl ⟨ret_flt HF.out, ?_⟩
    exact (by repeat (first | (with_reducible exact hB1) | (with_reducible exact Below.refl _ _) | (with_reducible apply Below.drew) | (with_reducible apply below_drewN) | ((with_reducible refine Below.setCell ?_ ?_ _); rotate_left; (focus (first | (simp; done) | (simp; omega) | omega))) | ((with_reducible refine Below.alloc ?_ ?_ _); rotate_left; (focus (first | (simp; done) | (simp; omega) | omega)))))
  have hlen := hvs hc
  subst hc
  cases g1 : timeB n
  · have HF := Lib.hid (show (4, -2) = idleF ⟨now, ser, rs, ts⟩ n by simp [idleF, hf, g1])
    clear hf hvs
    go_wp2_with (go_at_call 35; refine (time_any _ _).mono ?_; rintro e w' ⟨rfl, rfl⟩)
    refine bodyPost_ret (v := .agg #[.int .i64 4, .int .i64 (-2)]) (by simp [results, Try.results33, go_sem, r0, r1, hz1]) rfl ⟨ret_flt HF.out, ?_⟩
    exact (by repeat (first | (with_reducible exact hB1) | (with_reducible exact Below.refl _ _) | (with_reducible apply Below.drew) | (with_reducible apply below_drewN) | ((with_reducible refine Below.setCell ?_ ?_ _); rotate_left; (focus (first | (simp; done) | (simp; omega) | omega))) | ((with_reducible refine Below.alloc ?_ ?_ _); rotate_left; (focus (first | (simp; done) | (simp; omega) | omega)))))
  have HC := Lib.hid (fun o : Obj => contains_int RA rc rs n (w1.alloc o) ((hr.below hB1).alloc o) (by omega))
  cases g2 : has rs n
  rotate_left
  · have HF := Lib.hid (show (8, -2) = idleF ⟨now, ser, rs, ts⟩ n by simp [idleF, hf, g1, g2])
    clear hf hvs
    go_wp2_with (first | (go_at_call 35; refine (time_any _ _).mono ?_; rintro e w' ⟨rfl, rfl⟩) | (go_at_call 42; refine (HC.out _).mono ?_; rintro e w' ⟨rfl, rfl⟩))
    refine bodyPost_ret (v := .agg #[.int .i64 8, .int .i64 (-2)]) (by simp [results, Try.results33, go_sem, r0, r1, hz1]) rfl ⟨ret_flt HF.out, ?_⟩
    exact (by repeat (first | (with_reducible exact hB1) | (with_reducible exact Below.refl _ _) | (with_reducible apply Below.drew) | (with_reducible apply below_drewN) | ((with_reducible refine Below.setCell ?_ ?_ _); rotate_left; (focus (first | (simp; done) | (simp; omega) | omega))) | ((with_reducible refine Below.alloc ?_ ?_ _); rotate_left; (focus (first | (simp; done) | (simp; omega) | omega)))))
  have HT := Lib.hid (fun o : Obj => timer_any ⟨now, ser, rs, ts⟩ _ n (w1.alloc o) ((Hv.out.below hB1).below ((Below.refl _ _).alloc (Nat.le_refl _) o)))
  have HX := Lib.hid (tidx_busy ts n)
  go_wp2_with (first | (go_at_call 35; refine (time_any _ _).mono ?_; rintro e w' ⟨rfl, rfl⟩) | (go_at_call 42; refine (HC.out _).mono ?_; rintro e w' ⟨rfl, rfl⟩))
  refine (HT.out _).mono ?_
  rintro e w2 ⟨rfl, hb2⟩
  dsimp only
  obtain ⟨q0, q1, q2, q3, q4, q5, q6, q7⟩ := Blk.four ((hb2.block w.heap.size (by simp; omega)).trans ((Below.heap_alloc _ _ _ (by omega)).trans K1.out))
  obtain ⟨s0, s1, s2, s3⟩ := Blk.two ((hb2.block (w.heap.size + 1) (by simp; omega)).trans ((Below.heap_alloc _ _ _ (by omega)).trans K2.out))
  have hB2 : Below w.heap.size w w2 := Below.trans (by repeat (first | (with_reducible exact hB1) | (with_reducible exact Below.refl _ _) | (with_reducible apply Below.drew) | (with_reducible apply below_drewN) | ((with_reducible refine Below.setCell ?_ ?_ _); rotate_left; (focus (first | (simp; done) | (simp; omega) | omega))) | ((with_reducible refine Below.alloc ?_ ?_ _); rotate_left; (focus (first | (simp; done) | (simp; omega) | omega))))) (hb2.mono (by simp; omega))
  clear p0 p1 p2 p3 p4 p5 p6 p7 r0 r1 r2 r3 hb2
  cases g3 : busyT ts n
  rotate_left
  · have hq : decide (0 ≤ tidx ts n) = true := by rw [HX.out]; exact g3
    have HF := Lib.hid (show (8, -2) = idleF ⟨now, ser, rs, ts⟩ n by simp [idleF, hf, g1, g3])
    clear hf hvs
    have hq' : 0 ≤ tidx ts n := by simpa using hq
    clear hq
    go_wp2
    refine bodyPost_ret (v := .agg #[.int .i64 8, .int .i64 (-2)]) (by simp [results, Try.results33, go_sem, s0, s1]) rfl ⟨ret_flt HF.out, ?_⟩
    exact (by repeat (first | (with_reducible exact hB2) | (with_reducible exact Below.refl _ _) | (with_reducible apply Below.drew) | (with_reducible apply below_drewN) | ((with_reducible refine Below.setCell ?_ ?_ _); rotate_left; (focus (first | (simp; done) | (simp; omega) | omega))) | ((with_reducible refine Below.alloc ?_ ?_ _); rotate_left; (focus (first | (simp; done) | (simp; omega) | omega)))))
  have hq : decide (0 ≤ tidx ts n) = false := by rw [HX.out]; exact g3
  by_cases g4 : rs.length + ts.length = 1000
  · have HF := Lib.hid (show (2, -2) = idleF ⟨now, ser, rs, ts⟩ n by simp [idleF, hf, g1, g2, g3, g4])
    have hq2 : (((rs.length : Int) + (ts.length : Int)) == 1000) = true := by rw [beq_iff_eq]; omega
    clear hf hvs g4
    go_wp2
    refine bodyPost_ret (v := .agg #[.int .i64 2, .int .i64 (-2)]) (by simp [results, Try.results33, go_sem, s0, s1]) rfl ⟨ret_flt HF.out, ?_⟩
    exact (by repeat (first | (with_reducible exact hB2) | (with_reducible exact Below.refl _ _) | (with_reducible apply Below.drew) | (with_reducible apply below_drewN) | ((with_reducible refine Below.setCell ?_ ?_ _); rotate_left; (focus (first | (simp; done) | (simp; omega) | omega))) | ((with_reducible refine Below.alloc ?_ ?_ _); rotate_left; (focus (first | (simp; done) | (simp; omega) | omega)))))
  · have HF := Lib.hid (show (0, 0) = idleF ⟨now, ser, rs, ts⟩ n by simp [idleF, hf, g1, g2, g3, g4])
    have hq2 : (((rs.length : Int) + (ts.length : Int)) == 1000) = false := by rw [beq_eq_false_iff_ne]; omega
    clear hf hvs g4
    go_wp2
    refine bodyPost_ret (v := .agg #[.int .i64 0, .int .i64 0]) (by simp [results, Try.results33, go_sem, s0, s1]) rfl ⟨ret_flt HF.out, ?_⟩
    exact (by repeat (first | (with_reducible exact hB2) | (with_reducible exact Below.refl _ _) | (with_reducible apply Below.drew) | (with_reducible apply below_drewN) | ((with_reducible refine Below.setCell ?_ ?_ _); rotate_left; (focus (first | (simp; done) | (simp; omega) | omega))) | ((with_reducible refine Below.alloc ?_ ?_ _); rotate_left; (focus (first | (simp; done) | (simp; omega) | omega)))))
end Go.Proofs.Ytgiebofmfkacgaa
namespace Go.Proofs.Ytgiebofmfkacgaa
open Go.RowKit

def readyM (c : Ck) (n : Int) : Ck × (Int × Int) := if (idleF c n).1 = 0 then (⟨c.now, c.ser, c.rs ++ [n], c.ts⟩, (0, 0)) else (⟨0, 0, [], []⟩, idleF c n)
theorem idle_small {c : Ck} {n : Int} (h : (idleF c n).1 = 0) : c.rs.length + c.ts.length < 1000 := by
  unfold idleF at h
  split at h
  · rename_i h0
    have := validate_small h0
    split at h
    · split at h
      · simp at h
      · split at h
        · simp at h
        · omega
    · simp at h
  · omega
theorem zero_ckat (w : World) (ok : Nat → Prop) : CkIn w ok ⟨0, 0, [], []⟩ (.agg #[.int .i64 0, .int .i64 0, .slice none 0 0, .slice none 0 0]) :=
  ⟨none, 0, none, 0, rfl, RdIn.nil, RdIn.nil, by simp, by simp, by simp, by simp⟩
theorem ckin_of_own {w : World} {b1 b2 base c1 c2 : Nat} {A1 A2 : Option Addr} {now ser : Int} {rs : List Int} {ts : List Tm} (h1 : w.ownsRow b1 3 1 (.slice A1 rs.length c1) rs.length (ints rs)) (h2 : w.ownsRow b2 46 3 (.slice A2 ts.length c2) ts.length (rows Tm.cells ts))
    (hr : rs.length ≤ 17592186043904) (ht : ts.length ≤ 17592186043904) (hb1 : base ≤ b1) (hb2 : base ≤ b2) : CkIn w (base ≤ ·) ⟨now, ser, rs, ts⟩ (.agg #[.int .i64 now, .int .i64 ser, .slice A1 rs.length c1, .slice A2 ts.length c2]) := by
  obtain ⟨A', c', ev, hc1, _⟩ := own_form h1
  injection ev with e1 e2 e3
  subst e1 e3
  obtain ⟨A', c', ev, hc3, _⟩ := own_form h2
  injection ev with e1 e2 e3
  subst e1 e3
  exact ⟨A1, c1, A2, c2, rfl, RdIn.of_own (own_mono h1 hb1), RdIn.of_own (own_mono h2 hb2), hc1, hc3, hr, ht⟩
/-- A post that is kept whole. -/
def RetCk (m : Ck × (Int × Int)) (w : World) (e : Ending) (w' : World) : Prop := ∃ v, e = .returned (.tuple #[v, flt m.2]) ∧ CkIn w' (w.heap.size ≤ ·) m.1 v ∧ Below w.heap.size w w'

set_option maxHeartbeats 400000 in
theorem ready_any (c : Ck) (v : Value) (n : Int) (w : World) (hv : CkAt w c v) :
    Calls Try.prog 11 #[v, .int .i64 n] w (RetCk (readyM c n) w) := by
  have hv0 := hv
  obtain ⟨now, ser, rs, ts⟩ := c
  obtain ⟨RA, rc, TA, tc, rfl, hr, ht, hrc, htc, hrl, htl⟩ := hv
  dsimp only at hr ht hrc htc hrl htl ⊢
  have Hv := Lib.hid hv0; clear hv0
  go_enter Try.func11, Try.ntmps11
  go_wp2_with fail
  refine (idle_any _ _ n _ (Hv.out.below (by repeat (first | (with_reducible exact Below.refl _ _) | (with_reducible apply Below.drew) | (with_reducible apply below_drewN) | ((with_reducible refine Below.setCell ?_ ?_ _); rotate_left; (focus (first | (simp; done) | (simp; omega) | omega))) | ((with_reducible refine Below.alloc ?_ ?_ _); rotate_left; (focus (first | (simp; done) | (simp; omega) | omega))))))).mono ?_
  rintro e w1 ⟨rfl, hb1⟩
  obtain ⟨k1, k2, k3, hz1⟩ := box3 (w := w) hb1 rfl (by simp)
  have hy1 : w.heap.size < w1.heap.size := by omega
  have hx1 : w.heap.size + 1 < w1.heap.size := by omega
  have hB1 : Below w.heap.size w w1 := Below.trans (by repeat (first | (with_reducible exact Below.refl _ _) | (with_reducible apply Below.drew) | (with_reducible apply below_drewN) | ((with_reducible refine Below.setCell ?_ ?_ _); rotate_left; (focus (first | (simp; done) | (simp; omega) | omega))) | ((with_reducible refine Below.alloc ?_ ?_ _); rotate_left; (focus (first | (simp; done) | (simp; omega) | omega))))) (hb1.mono (by simp; omega))
  clear hb1
  have hsm := @idle_small ⟨now, ser, rs, ts⟩ n
  generalize hf : idleF ⟨now, ser, rs, ts⟩ n = f at hsm ⊢
  obtain ⟨f1, f2⟩ := f
  dsimp only at hsm
  by_cases hc : f1 = 0
  rotate_left
  · have hq : (f1 != 0) = true := by simpa using hc
    have HF := Lib.hid (show readyM ⟨now, ser, rs, ts⟩ n = (⟨0, 0, [], []⟩, (f1, f2)) by simp [readyM, hf, hc])
    obtain ⟨p0, p1, p2, p3, p4, p5, p6, p7⟩ := Blk.four k1
    obtain ⟨q0, q1, q2, q3, q4, q5, q6, q7⟩ := Blk.four k2
    obtain ⟨r0, r1, r2, r3⟩ := Blk.two k3
    clear hc hf hsm k1 k2 k3
    go_wp2
    go_region
    go_wp2
    refine bodyPost_ret (v := .tuple #[.agg #[.int .i64 0, .int .i64 0, .slice none 0 0, .slice none 0 0], .agg #[.int .i64 f1, .int .i64 f2]]) (by simp [results, Try.results11, go_sem, q0, q1, q2, q3, r0, r1, hz1, hx1]) rfl ?_
    rw [HF.out]
    exact ⟨_, rfl, zero_ckat _ _, (by repeat (first | (with_reducible exact hB1) | (with_reducible exact Below.refl _ _) | (with_reducible apply Below.drew) | (with_reducible apply below_drewN) | ((with_reducible refine Below.setCell ?_ ?_ _); rotate_left; (focus (first | (simp; done) | (simp; omega) | omega))) | ((with_reducible refine Below.alloc ?_ ?_ _); rotate_left; (focus (first | (simp; done) | (simp; omega) | omega)))))⟩
  have hlen := hsm hc
  subst hc
  have HF := Lib.hid (show readyM ⟨now, ser, rs, ts⟩ n = (⟨now, ser, rs ++ [n], ts⟩, (0, 0)) by simp [readyM, hf])
  clear hf hsm
  obtain ⟨p0, p1, p2, p3, p4, p5, p6, p7⟩ := Blk.four k1
  have HC := Lib.hid (fun o : Obj => clone_any ⟨now, ser, rs, ts⟩ _ (w1.alloc o) ((Hv.out.below hB1).below ((Below.refl _ _).alloc (Nat.le_refl _) o)) (by dsimp only; omega))
  have K1 := Lib.hid k1; have K2 := Lib.hid k2; have K3 := Lib.hid k3
  clear k1 k2 k3
  go_wp2_with fail
  refine (HC.out _).mono ?_
  rintro e w2 ⟨A1, c1, A2, c2, rfl, ho1, ho2, hb2⟩
  have hbB : Below (w.heap.size + 3) w1 w2 := Below.trans (by repeat (first | (with_reducible exact Below.refl _ _) | (with_reducible apply Below.drew) | (with_reducible apply below_drewN) | ((with_reducible refine Below.setCell ?_ ?_ _); rotate_left; (focus (first | (simp; done) | (simp; omega) | omega))) | ((with_reducible refine Below.alloc ?_ ?_ _); rotate_left; (focus (first | (simp; done) | (simp; omega) | omega))))) (hb2.mono (by simp; omega))
  have hB2 : Below w.heap.size w w2 := hB1.trans (hbB.mono (by omega))
  have l1 : Blk w2 w.heap.size 25 _ := (hbB.block w.heap.size (by omega)).trans K1.out
  have l2 : Blk w2 (w.heap.size + 1) 25 _ := (hbB.block (w.heap.size + 1) (by omega)).trans K2.out
  have l3 : Blk w2 (w.heap.size + 2) 27 _ := (hbB.block (w.heap.size + 2) (by omega)).trans K3.out
  obtain ⟨q0, q1, q2, q3, q4, q5, q6, q7⟩ := l1.four
  replace ho1 := own_mono (base' := w.heap.size + 3) ho1 (by simp; omega)
  replace ho2 := own_mono (base' := w.heap.size + 3) ho2 (by simp; omega)
  have hz2 : w.heap.size + 2 < w2.heap.size := Nat.lt_of_lt_of_le hz1 hbB.size
  have hy2 : w.heap.size < w2.heap.size := by omega
  clear p0 p1 p2 p3 p4 p5 p6 p7 hb2 hbB HC
  have m1 := Lib.hid (fun o => (l1.set4 (.int .i64 now) (.int .i64 ser) (.slice A1 rs.length c1) (.slice A2 ts.length c2)).alloc o)
  have m2 := Lib.hid (fun o => (l2.far4 (g' := w.heap.size) (by omega) (.int .i64 now) (.int .i64 ser) (.slice A1 rs.length c1) (.slice A2 ts.length c2)).alloc o)
  have m3 := Lib.hid (fun o => (l3.far4 (g' := w.heap.size) (by omega) (.int .i64 now) (.int .i64 ser) (.slice A1 rs.length c1) (.slice A2 ts.length c2)).alloc o)
  have O1 := Lib.hid (fun o => (own_box4 (g := w.heap.size) ho1 (by omega) (.int .i64 now) (.int .i64 ser) (.slice A1 rs.length c1) (.slice A2 ts.length c2)).alloc o)
  have O2 := Lib.hid (fun o => (own_box4 (g := w.heap.size) ho2 (by omega) (.int .i64 now) (.int .i64 ser) (.slice A1 rs.length c1) (.slice A2 ts.length c2)).alloc o)
  have BB := Lib.hid (fun o => (below_box4 (g := w.heap.size) hB2 (Nat.le_refl _) (.int .i64 now) (.int .i64 ser) (.slice A1 rs.length c1) (.slice A2 ts.length c2)).alloc (by simp [World.setCell]; omega) o)
  have RN := Lib.hid (show Rd (((((w2.setCell ⟨w.heap.size, 0, none⟩ (.int .i64 now)).setCell ⟨w.heap.size, 1, none⟩ (.int .i64 ser)).setCell ⟨w.heap.size, 2, none⟩ (.slice A1 rs.length c1)).setCell ⟨w.heap.size, 3, none⟩ (.slice A2 ts.length c2)).alloc (.cells #[.int .i64 n] 3)) (some ⟨w2.heap.size, 0, none⟩) [.int .i64 n] by
    have := Rd.new ((((w2.setCell ⟨w.heap.size, 0, none⟩ (.int .i64 now)).setCell ⟨w.heap.size, 1, none⟩ (.int .i64 ser)).setCell ⟨w.heap.size, 2, none⟩ (.slice A1 rs.length c1)).setCell ⟨w.heap.size, 3, none⟩ (.slice A2 ts.length c2)) 3 #[.int .i64 n]
    rw [show ((((w2.setCell ⟨w.heap.size, 0, none⟩ (.int .i64 now)).setCell ⟨w.heap.size, 1, none⟩ (.int .i64 ser)).setCell ⟨w.heap.size, 2, none⟩ (.slice A1 rs.length c1)).setCell ⟨w.heap.size, 3, none⟩ (.slice A2 ts.length c2)).heap.size = w2.heap.size by simp [World.setCell]] at this
    exact this)
  clear l1 l2 l3 K1 K2 K3
  go_wp2_with (at_builtin; refine wpList_app (base := w.heap.size + 3) (xs := ints rs) (news := [.int .i64 n]) rfl st_int (.tmp 18) (.tmp 20) rfl rfl (O1.out _) rfl RN.out rfl (by simp [Value.oneCell']) (by unfold maxLen; omega) (by omega) (by simp [World.setCell]; omega) ?_; intro A3 c3 w3 hown hg hat; obtain ⟨s0, s1, s2, s3, s4, s5, s6, s7⟩ := Blk.four ((hg.block w.heap.size (by simp [World.setCell]; omega) (own_ne ho1 (by omega))).trans (m1.out _)); obtain ⟨t0, t1, t2, t3, t4, t5, t6, t7⟩ := Blk.four ((hg.block (w.heap.size + 1) (by simp [World.setCell]; omega) (own_ne ho1 (by omega))).trans (m2.out _)); obtain ⟨u0, u1, u2, u3⟩ := Blk.two ((hg.block (w.heap.size + 2) (by simp [World.setCell]; omega) (own_ne ho1 (by omega))).trans (m3.out _)); have oo2 := own_other (O2.out _) (O1.out _) (by decide) hg; have hB3 := Below.app (BB.out _) (O1.out _) hg (by omega) (by simp [World.setCell]; omega))
  refine bodyPost_ret (v := .tuple #[.agg #[.int .i64 now, .int .i64 ser, .slice A3 (rs.length + 1) c3, .slice A2 ts.length c2], .agg #[.int .i64 0, .int .i64 0]]) (by simp [results, Try.results11, go_sem, t0, t1, t2, t3, u0, u1]) rfl ?_
  rw [HF.out]
  have hl1 : (rs ++ [n]).length = rs.length + 1 := by simp
  rw [show ints rs ++ [Value.int .i64 n] = ints (rs ++ [n]) by simp [ints], ← hl1] at hown
  refine ⟨_, by rw [← hl1], ckin_of_own (b1 := w.heap.size + 3) (b2 := w.heap.size + 3) ?_ ?_ (by simp; omega) (by omega) (by omega) (by omega), (by repeat (first | (with_reducible exact hB3) | (with_reducible exact Below.refl _ _) | (with_reducible apply Below.drew) | (with_reducible apply below_drewN) | ((with_reducible refine Below.setCell ?_ ?_ _); rotate_left; (focus (first | (simp; done) | (simp; omega) | omega))) | ((with_reducible refine Below.alloc ?_ ?_ _); rotate_left; (focus (first | (simp; done) | (simp; omega) | omega)))))⟩
  · repeat (refine ownsRow_setCell_below ?_ (by simp; try omega) _)
    exact hown
  · repeat (refine ownsRow_setCell_below ?_ (by simp; try omega) _)
    exact oo2
end Go.Proofs.Ytgiebofmfkacgaa
namespace Go.Proofs.Ytgiebofmfkacgaa
open Go.RowKit

def enq (c : Ck) (n : Int) : Ck := ⟨c.now, c.ser, c.rs ++ [n], c.ts⟩
/-- A clock handed back. -/
def RetC (m : Ck) (w : World) (e : Ending) (w' : World) : Prop := ∃ v, e = .returned v ∧ CkAt w' m v ∧ Below w.heap.size w w'

end Go.Proofs.Ytgiebofmfkacgaa
namespace Go.Proofs.Ytgiebofmfkacgaa
open Go.RowKit

def bsGo (p : Nat → Bool) : Nat → Nat → Nat → Nat
  | 0, i, _ => i
  | f + 1, i, j => if i < j then (if p ((i + j) / 2) then bsGo p f ((i + j) / 2 + 1) j else bsGo p f i ((i + j) / 2)) else i
theorem bsGo_fuel (p : Nat → Bool) : ∀ f f' i j, j - i ≤ f → j - i ≤ f' → bsGo p f i j = bsGo p f' i j
  | 0, 0, i, j, _, _ => rfl
  | 0, f' + 1, i, j, h, _ => by simp [bsGo, show ¬ i < j by omega]
  | f + 1, 0, i, j, _, h => by simp [bsGo, show ¬ i < j by omega]
  | f + 1, f' + 1, i, j, h, h' => by
    simp only [bsGo]
    by_cases hij : i < j
    · rw [if_pos hij, if_pos hij, bsGo_fuel p f f' ((i + j) / 2 + 1) j (by omega) (by omega), bsGo_fuel p f f' i ((i + j) / 2) (by omega) (by omega)]
    · rw [if_neg hij, if_neg hij]
def bs (p : Nat → Bool) (i j : Nat) : Nat := bsGo p (j - i) i j
theorem bs_step (p : Nat → Bool) (i j : Nat) (h : i < j) : bs p i j = if p ((i + j) / 2) then bs p ((i + j) / 2 + 1) j else bs p i ((i + j) / 2) := by
  unfold bs
  rw [show j - i = (j - i - 1) + 1 by omega]
  simp only [bsGo, if_pos h]
  rw [bsGo_fuel p (j - i - 1) (j - ((i + j) / 2 + 1)) _ _ (by omega) (by omega), bsGo_fuel p (j - i - 1) ((i + j) / 2 - i) _ _ (by omega) (by omega)]
theorem bs_end (p : Nat → Bool) (i j : Nat) (h : j ≤ i) : bs p i j = i := by
  unfold bs
  rw [show j - i = 0 by omega]; rfl
theorem bs_spec (p : Nat → Bool) (n : Nat) (hp : ∀ a b, a < b → b < n → p b = true → p a = true) : ∀ (f i j : Nat), j - i ≤ f → i ≤ j → j ≤ n → i ≤ bs p i j ∧ bs p i j ≤ j ∧ (∀ a, i ≤ a → a < bs p i j → p a = true) ∧ (∀ a, bs p i j ≤ a → a < j → p a = false)
  | 0, i, j, h, hij, _ => by
    have : i = j := by omega
    subst this
    rw [bs_end p i i (Nat.le_refl _)]
    exact ⟨Nat.le_refl _, Nat.le_refl _, fun a _ _ => by omega, fun a _ _ => by omega⟩
  | f + 1, i, j, h, hij, hj => by
    by_cases hlt : i < j
    · rw [bs_step p i j hlt]
      cases hm : p ((i + j) / 2)
      · obtain ⟨h1, h2, h3, h4⟩ := bs_spec p n hp f i ((i + j) / 2) (by omega) (by omega) (by omega)
        simp only [Bool.false_eq_true, if_false]
        refine ⟨h1, by omega, h3, fun a ha haj => ?_⟩
        rcases Nat.lt_or_ge a ((i + j) / 2) with hc | hc
        · exact h4 a ha hc
        · cases hpa : p a
          · rfl
          · rcases Nat.eq_or_lt_of_le hc with e | e
            · rw [← e, hm] at hpa; cases hpa
            · rw [hp _ _ e (by omega) hpa] at hm; cases hm
      · obtain ⟨h1, h2, h3, h4⟩ := bs_spec p n hp f ((i + j) / 2 + 1) j (by omega) (by omega) hj
        simp only [if_true]
        refine ⟨by omega, h2, fun a ha har => ?_, h4⟩
        rcases Nat.lt_or_ge a ((i + j) / 2 + 1) with hc | hc
        · rcases Nat.eq_or_lt_of_le (show a ≤ (i + j) / 2 by omega) with e | e
          · rw [e]; exact hm
          · exact hp _ _ e (by omega) hm
        · exact h3 a hc har
    · have : i = j := by omega
      subst this
      rw [bs_end p i i (Nat.le_refl _)]
      exact ⟨Nat.le_refl _, Nat.le_refl _, fun a _ _ => by omega, fun a _ _ => by omega⟩

def before (ts : List Tm) (t : Tm) (i : Nat) : Bool := match ts[i]? with | some x => decide (orderI x t < 0) | none => false
def bsf (ts : List Tm) (t : Tm) : Nat := bs (before ts t) 0 ts.length
def RetIB (n : Int) (w : World) (e : Ending) (w' : World) : Prop := ∃ b : Bool, e = .returned (.tuple #[.int .i64 n, .bool b]) ∧ Below w.heap.size w w'

set_option maxHeartbeats 2000000 in
theorem bsearch_any (A : Option Addr) (c : Nat) (ts : List Tm) (t : Tm) (w : World) (ht : Rd w A (rows Tm.cells ts)) (hl : ts.length ≤ 17592186043904) :
    Calls Try.prog 36 #[.slice A ts.length c, t.val, .func (.func 37) #[] #[]] w (RetIB (bsf ts t) w) := by
  obtain ⟨t1, t2, t3⟩ := t
  unfold Tm.val
  dsimp only
  generalize hF : bsf ts ⟨t1, t2, t3⟩ = F
  have H0 := Lib.hid (show F = bs (before ts ⟨t1, t2, t3⟩) 0 ts.length from hF.symm)
  clear hF
  go_enter Try.func36, Try.ntmps36
  go_wp2
  go_loopw [9, 10] (fun x y wr => ∃ i j : Nat, i ≤ j ∧ j ≤ ts.length ∧ x = .int .i64 i ∧ y = .int .i64 j ∧ F = bs (before ts ⟨t1, t2, t3⟩) i j ∧ Below (w.heap.size + 1) (w.alloc (.cells #[.int .i64 t1, .int .i64 t2, .int .i64 t3] 46)) wr) (fun x y _ => (intOf y).toNat - (intOf x).toNat)
  case atStart => exact ⟨0, ts.length, Nat.zero_le _, Nat.le_refl _, rfl, rfl, H0.out, Below.refl _ _⟩
  case round =>
    obtain ⟨i, j, hij, hj, rfl, rfl, hs, hbl⟩ := hrel
    have H := Lib.hid hs; clear hs
    obtain ⟨k1, hz⟩ := box1 (w := w) hbl rfl (by omega)
    have hB : Below w.heap.size w wr := Below.trans (by repeat (first | (with_reducible exact Below.refl _ _) | (with_reducible apply Below.drew) | (with_reducible apply below_drewN) | ((with_reducible refine Below.setCell ?_ ?_ _); rotate_left; (focus (first | (simp; done) | (simp; omega) | omega))) | ((with_reducible refine Below.alloc ?_ ?_ _); rotate_left; (focus (first | (simp; done) | (simp; omega) | omega))))) (hbl.mono (by omega))
    obtain ⟨p0, p1, p2, _, _, _⟩ := Blk.three k1
    have K1 := Lib.hid k1; clear k1
    by_cases hlt : i < j
    · have HS := Lib.hid (bs_step (before ts ⟨t1, t2, t3⟩) i j hlt)
      have hm : (i + j) / 2 < ts.length := by omega
      have i0 : (i : Int) < (j : Int) := by omega
      go_wp2_with fail
      obtain ⟨m, em⟩ : ∃ m, m = (i + j) / 2 := ⟨_, rfl⟩
      have e2 : ((i : Int) + (j : Int)) / 2 = (m : Int) := by omega
      rw [← em] at HS hm
      have hmj : m < j := by omega
      have him : i ≤ m := by omega
      rw [e2]
      clear em e2
      obtain ⟨b, o, rfl, hb, hc0, hc1, hc2⟩ := (ht.below hB).tm hm
      have i1 : (0 : Int) ≤ (m : Int) := by omega
      have i2 : (m : Int) < (ts.length : Int) := by omega
      have HP := Lib.hid (show before ts ⟨t1, t2, t3⟩ m = decide (orderI ts[m] ⟨t1, t2, t3⟩ < 0) by simp [before, hm])
      go_region_held3 (fun w' => w'.cell? ⟨b, o + m * 3, none⟩ = some (.int .i64 ts[m].at_) ∧ w'.cell? ⟨b, o + m * 3 + 1, none⟩ = some (.int .i64 ts[m].ser) ∧ w'.cell? ⟨b, o + m * 3 + 2, none⟩ = some (.int .i64 ts[m].task) ∧ w'.cell? ⟨w.heap.size, 0, none⟩ = some (.int .i64 t1) ∧ w'.cell? ⟨w.heap.size, 1, none⟩ = some (.int .i64 t2) ∧ w'.cell? ⟨w.heap.size, 2, none⟩ = some (.int .i64 t3))
        (first | exact ⟨hc0, hc1, hc2, p0, p1, p2⟩ | exact ⟨(hb2.cell (p := ⟨b, o + m * 3, none⟩) (by simp; omega)).trans hc0, (hb2.cell (p := ⟨b, o + m * 3 + 1, none⟩) (by simp; omega)).trans hc1, (hb2.cell (p := ⟨b, o + m * 3 + 2, none⟩) (by simp; omega)).trans hc2, (hb2.cell (p := ⟨w.heap.size, 0, none⟩) (by simp; omega)).trans p0, (hb2.cell (p := ⟨w.heap.size, 1, none⟩) (by simp; omega)).trans p1, (hb2.cell (p := ⟨w.heap.size, 2, none⟩) (by simp; omega)).trans p2⟩)
        (first | (go_at_call 37; refine (order_any ts[m] ⟨t1, t2, t3⟩ _).mono ?_; rintro e w2 ⟨rfl, hb2⟩))
      have hbl2 := hbl.drew.trans (hb2.mono (show w.heap.size + 1 ≤ wr.heap.size by omega))
      clear i1 i2
      by_cases hO : orderI ts[m] ⟨t1, t2, t3⟩ < 0
      · go_wp2
        go_roundw
        case rel => exact ⟨m + 1, j, by omega, hj, by go_num, rfl, by rw [H.out, HS.out, HP.out, if_pos (by simpa using hO)], hbl2⟩
        case measure => simp [intOf]; omega
      · go_wp2
        go_roundw
        case rel => exact ⟨i, m, by omega, by omega, rfl, rfl, by rw [H.out, HS.out, HP.out, if_neg (by simpa using hO)], hbl2⟩
        case measure => simp [intOf]; omega
    · have HE := Lib.hid (bs_end (before ts ⟨t1, t2, t3⟩) i j (by omega))
      have i0 : ¬ (i : Int) < (j : Int) := by omega
      by_cases hn : i < ts.length
      · have i1 : (i : Int) < (ts.length : Int) := by omega
        obtain ⟨b, o, rfl, hb, hc0, hc1, hc2⟩ := (ht.below hB).tm hn
        go_wp2_with fail
        go_region_held3 (fun w' => w'.cell? ⟨b, o + i * 3, none⟩ = some (.int .i64 ts[i].at_) ∧ w'.cell? ⟨b, o + i * 3 + 1, none⟩ = some (.int .i64 ts[i].ser) ∧ w'.cell? ⟨b, o + i * 3 + 2, none⟩ = some (.int .i64 ts[i].task) ∧ w'.cell? ⟨w.heap.size, 0, none⟩ = some (.int .i64 t1) ∧ w'.cell? ⟨w.heap.size, 1, none⟩ = some (.int .i64 t2) ∧ w'.cell? ⟨w.heap.size, 2, none⟩ = some (.int .i64 t3))
          (first | exact ⟨hc0, hc1, hc2, p0, p1, p2⟩ | exact ⟨(hb2.cell (p := ⟨b, o + i * 3, none⟩) (by simp; omega)).trans hc0, (hb2.cell (p := ⟨b, o + i * 3 + 1, none⟩) (by simp; omega)).trans hc1, (hb2.cell (p := ⟨b, o + i * 3 + 2, none⟩) (by simp; omega)).trans hc2, (hb2.cell (p := ⟨w.heap.size, 0, none⟩) (by simp; omega)).trans p0, (hb2.cell (p := ⟨w.heap.size, 1, none⟩) (by simp; omega)).trans p1, (hb2.cell (p := ⟨w.heap.size, 2, none⟩) (by simp; omega)).trans p2⟩)
          (first | (go_at_call 37; refine (order_any ts[i] ⟨t1, t2, t3⟩ _).mono ?_; rintro e w2 ⟨rfl, hb2⟩))
        go_wp2
        go_ret2
        exact ⟨orderI ts[i] ⟨t1, t2, t3⟩ == 0, by rw [H.out, HE.out]; rfl, hB.drew.trans (hb2.mono (show w.heap.size ≤ wr.heap.size by omega))⟩
      · have i1 : decide (i < ts.length) = false := by simpa using hn
        go_wp2_with fail
        go_quiet (fail)
        go_wp2
        go_ret2
        exact ⟨false, by rw [H.out, HE.out]; rfl, below_drewN hB _⟩
end Go.Proofs.Ytgiebofmfkacgaa
namespace Go.Proofs.Ytgiebofmfkacgaa
open Go.RowKit

def insT (ts : List Tm) (i : Nat) (t : Tm) : List Tm := ts.take i ++ t :: ts.drop i
theorem insT_length (ts : List Tm) (i : Nat) (t : Tm) (h : i ≤ ts.length) : (insT ts i t).length = ts.length + 1 := by simp [insT]; omega
theorem insT_cells (ts : List Tm) (i : Nat) (t : Tm) : rows Tm.cells (insT ts i t) = rows Tm.cells (ts.take i) ++ t.cells ++ rows Tm.cells (ts.drop i) := by
  unfold insT; rw [rows_append, rows_cons, List.append_assoc]
theorem insT_end (ts : List Tm) (t : Tm) : insT ts ts.length t = ts ++ [t] := by simp [insT]
/-- A row handed back. -/
def RetRow (base : Nat) (own : Option Nat) (n : Nat) (cells : List Value) (w : World) (e : Ending) (w' : World) : Prop :=
  ∃ A c, e = .returned (.slice A n c) ∧ w'.ownsRow base 46 3 (.slice A n c) n cells ∧ w.grownBy w' own

set_option maxHeartbeats 1000000 in
theorem insert_end (base : Nat) (A : Option Addr) (c : Nat) (ts : List Tm) (t : Tm) (g : Nat) (w : World) (ho : w.ownsRow base 46 3 (.slice A ts.length c) ts.length (rows Tm.cells ts)) (hb : base ≤ w.heap.size)
    (hv : Blk w g 46 #[.int .i64 t.at_, .int .i64 t.ser, .int .i64 t.task]) (hl : ts.length ≤ 1000000) :
    Calls Try.prog 38 #[.slice A ts.length c, .int .i64 ts.length, .slice (some ⟨g, 0, none⟩) 1 1] w (RetRow base (Value.slice A ts.length c).ownBlock (ts.length + 1) (rows Tm.cells (insT ts ts.length t)) w) := by
  have hc : ts.length ≤ c := by
    obtain ⟨A', c', ev, h1, h2⟩ := own_form ho
    injection ev with e1 e2 e3; omega
  have HR := Lib.hid (show Rd w (some ⟨g, 0, none⟩) t.cells from fun _ => ⟨g, 0, rfl, hv.lt, fun j u hu => by rw [Nat.zero_add, hv.cell]; simpa [Tm.cells] using hu⟩)
  have HO := Lib.hid ho; clear ho
  have i1 : (0 : Int) ≤ (ts.length : Int) := by omega
  go_enter Try.func38, Try.ntmps38
  go_wp2_with (at_builtin; refine wpList_app (base := base) (xs := rows Tm.cells ts) (news := t.cells) rfl st_tm (.tmp 23) (.tmp 24) rfl rfl HO.out rfl HR.out rfl (by simp [Tm.cells, Value.oneCell']) (by unfold maxLen; omega) (by omega) hb ?_; intro A1 c1 w1 hown hg hat)
  all_goals
    go_ret
    exact ⟨A1, c1, rfl, by rw [insT_end, rows_append, rows_one]; exact hown, by rcases A with _ | a <;> exact hg⟩

set_option maxRecDepth 100000 in
set_option maxHeartbeats 1000000 in
theorem insert_room (base c i : Nat) (ts : List Tm) (t : Tm) (g gs : Nat) (L : List Value) (w : World) (hb : base ≤ gs) (hs : w.heap[gs]? = some (.cells L.toArray 46 (0, 0))) (hL : L.length = c * 3) (hLt : L.take (ts.length * 3) = rows Tm.cells ts)
    (hv : Blk w g 46 #[.int .i64 t.at_, .int .i64 t.ser, .int .i64 t.task]) (hne : g ≠ gs) (hl : ts.length ≤ 1000000) (hi : i < ts.length) (hr : ts.length + 1 ≤ c) (hc63 : c ≤ 9223372036854775807) :
    Calls Try.prog 38 #[.slice (some ⟨gs, 0, none⟩) ts.length c, .int .i64 i, .slice (some ⟨g, 0, none⟩) 1 1] w (RetRow base (some gs) (ts.length + 1) (rows Tm.cells (insT ts i t)) w) := by
  have i1 : (0 : Int) ≤ (i : Int) := by omega
  have i2 : (i : Int) ≤ (ts.length : Int) := by omega
  have i3 : ((i : Int) == (ts.length : Int)) = false := by rw [beq_eq_false_iff_ne]; omega
  have i4 : ¬ (c = i) := by omega
  have i5 : ¬ (c = i + 1) := by omega
  have i6 : (ts.length : Int) + 1 ≤ (c : Int) := by omega
  have hov : ∀ oo lb cb, (callFunc 54 #[.slice (some ⟨g, 0, none⟩) 1 1, .slice (some ⟨gs, oo, none⟩) lb cb]).run Try.prog w = .ok (.value (.bool false)) w := fun oo lb cb => by
    rw [run_callFunc_extern Try.func54 (by kernel_rfl) (by kernel_rfl) (by kernel_rfl) (e := Extern.SlicesOverlaps.overlaps #[23, 23] #[4]) (by kernel_rfl),
      Lib.run_overlaps_apart w 23 4 46 Try.underlying23 3 (fun w => by kernel_rfl) ⟨g, 0, none⟩ ⟨gs, oo, none⟩ 1 1 lb cb hne 46 46 3 (c * 3) (by unfold Blk at hv; simp [World.shape?, hv]) (by simp [World.shape?, hs, hL]) (by omega) (hv.frozen 0) (hv.frozen 3)]
    rfl
  go_enter Try.func38, Try.ntmps38
  go_wp2_with fail
  have hYl : (rows Tm.cells (ts.drop i)).length = (ts.length - i) * 3 := by rw [rows_length Tm.cells_length, List.length_drop]
  have hYd : rows Tm.cells (ts.drop i) = (L.take (ts.length * 3)).drop (i * 3) := by rw [hLt, ← rows_drop Tm.cells_length]
  have hsrcY : ∀ j v, (rows Tm.cells (ts.drop i))[j]? = some v → w.cell? ⟨gs, i * 3 + j, none⟩ = some v := fun j v hj => by
    rw [hYd, List.getElem?_drop, List.getElem?_take] at hj
    split at hj
    · simp [World.cell?, hs, hj]
    · cases hj
  have HC1 := Lib.hid (fun ty dc sc => run_copyK (w := w.drew) (sT := 23) (dCap := dc) (sCap := sc) st_tm ty (g := gs) (o := (i + 1) * 3) (dLen := ts.length - i) (sb := gs) (so := i * 3) (sLen := ts.length + 1 - i) (cur := L) (t := 46) (cs := rows Tm.cells (ts.drop i)) (n := ts.length - i) hs (by simp only [Nat.min_def]; split <;> omega) hYl hsrcY (by omega) (tms_one _))
  have hrow1 := setRow_at (w := w.drew) hs (splice L ((i + 1) * 3) (rows Tm.cells (ts.drop i)))
  have hgr1 := setRow_grown (w := w.drew) gs (splice L ((i + 1) * 3) (rows Tm.cells (ts.drop i))).toArray
  have w1 : IntKind.i64.wrap ((i : Int) + 1) = (i : Int) + 1 := IntWalk.i64_in _ (by omega)
  have w2 : (0 : Int) ≤ (i : Int) + 1 := by omega
  have w3 : ((i : Int) + 1).toNat = i + 1 := by omega
  have w4 : (i : Int) ≤ (ts.length : Int) + 1 := by omega
  generalize (w.drew.setRow gs (splice L ((i + 1) * 3) (rows Tm.cells (ts.drop i))).toArray) = W1 at *
  have hc1 := HC1.out 3 (c - (i + 1)) (c - i)
  go_region
  clear hc1 w1 w2 w3 w4
  have hfit1 : (i + 1) * 3 + (rows Tm.cells (ts.drop i)).length ≤ L.length := by omega
  have hsl := length_splice L ((i + 1) * 3) (rows Tm.cells (ts.drop i)) hfit1
  have hv1 : Blk W1 g 46 #[.int .i64 t.at_, .int .i64 t.ser, .int .i64 t.task] := (hgr1.block g hv.lt (by simp; exact hne)).trans hv
  have hc2 := run_copyK (w := W1) (sT := 23) (dCap := c - i) (sCap := 1) st_tm 3 (g := gs) (o := i * 3) (dLen := ts.length + 1 - i) (sb := g) (so := 0) (sLen := 1) (cur := splice L ((i + 1) * 3) (rows Tm.cells (ts.drop i))) (t := 46) (cs := t.cells) (n := 1) hrow1 (by simp only [Nat.min_def]; split <;> omega) rfl (fun j v hj => by rw [Nat.zero_add, hv1.cell]; simpa [Tm.cells] using hj) (by rw [hsl, Tm.cells_length]; omega) (by simp [Tm.cells, Value.oneCell'])
  have hrow2 := setRow_at (w := W1) hrow1 (splice (splice L ((i + 1) * 3) (rows Tm.cells (ts.drop i))) (i * 3) t.cells)
  have hgr2 := setRow_grown (w := W1) gs (splice (splice L ((i + 1) * 3) (rows Tm.cells (ts.drop i))) (i * 3) t.cells).toArray
  generalize (W1.setRow gs (splice (splice L ((i + 1) * 3) (rows Tm.cells (ts.drop i))) (i * 3) t.cells).toArray) = W2 at *
  have HROW := Lib.hid hrow2
  clear hrow2 hrow1 hov
  go_wp2
  go_ret
  have hX : (rows Tm.cells (ts.take i)).length = i * 3 := by rw [rows_length Tm.cells_length, List.length_take]; congr 1; omega
  have hsp := splice_insert (cur := L) (X := rows Tm.cells (ts.take i)) (Y := rows Tm.cells (ts.drop i)) (V := t.cells) (R := L.drop (ts.length * 3)) (by rw [← rows_append, List.take_append_drop, ← hLt, List.take_append_drop]) (by rw [Tm.cells_length, List.length_drop]; omega)
  rw [hX, Tm.cells_length, hYl, ← insT_cells, show i * 3 + 3 = (i + 1) * 3 by omega, show (i + 1) * 3 + (ts.length - i) * 3 = (ts.length + 1) * 3 by omega] at hsp
  have hsl2 := length_splice (splice L ((i + 1) * 3) (rows Tm.cells (ts.drop i))) (i * 3) t.cells (by rw [hsl, Tm.cells_length]; omega)
  refine ⟨some ⟨gs, 0, none⟩, c, rfl, ⟨?_, .inr ⟨gs, c, _, rfl, hb, HROW.out, hr, by unfold maxLen; omega, ?_, ?_⟩⟩, ?_⟩
  · rw [rows_length Tm.cells_length, insT_length ts i t (by omega)]
  · simp; rw [hsl2, hsl, hL]
  · exact hsp
  · exact ⟨hgr2.os.trans hgr1.os, hgr2.tape.trans hgr1.tape, hgr2.output.trans hgr1.output, Nat.le_trans hgr1.size hgr2.size, fun k hk hkn => (hgr2.block k (Nat.lt_of_lt_of_le hk hgr1.size) hkn).trans (hgr1.block k hk hkn)⟩

set_option maxRecDepth 100000 in
set_option maxHeartbeats 1000000 in
theorem insert_grow (base c i : Nat) (ts : List Tm) (t : Tm) (g gs : Nat) (L : List Value) (w : World) (hb : base ≤ w.heap.size) (hs : w.heap[gs]? = some (.cells L.toArray 46 (0, 0))) (hLt : L.take (ts.length * 3) = rows Tm.cells ts)
    (hv : Blk w g 46 #[.int .i64 t.at_, .int .i64 t.ser, .int .i64 t.task]) (hl : ts.length ≤ 1000000) (hi : i < ts.length) (hn : ts.length ≤ c) (hr : c < ts.length + 1) :
    Calls Try.prog 38 #[.slice (some ⟨gs, 0, none⟩) ts.length c, .int .i64 i, .slice (some ⟨g, 0, none⟩) 1 1] w (RetRow base (some gs) (ts.length + 1) (rows Tm.cells (insT ts i t)) w) := by
  have i1 : (0 : Int) ≤ (i : Int) := by omega
  have i2 : (i : Int) ≤ (ts.length : Int) := by omega
  have i3 : ((i : Int) == (ts.length : Int)) = false := by rw [beq_eq_false_iff_ne]; omega
  have i4 : ¬ (c = i) := by omega
  have i6 : (c : Int) < (ts.length : Int) + 1 := by omega
  have i7 : (i : Int) ≤ (c : Int) := by omega
  have hgl : gs < w.heap.size := Blk.lt (w := w) (g := gs) hs
  have hX : (rows Tm.cells (ts.take i)).length = i * 3 := by rw [rows_length Tm.cells_length, List.length_take]; congr 1; omega
  have hXd : rows Tm.cells (ts.take i) = L.take (i * 3) := by rw [rows_take Tm.cells_length, ← hLt, List.take_take, Nat.min_eq_left (by omega)]
  obtain ⟨i0, hi0, hz0, hz1, hz2⟩ := info_parts (P := Try.prog) (e := 46) (z := .agg #[.int .i64 0, .int .i64 0, .int .i64 0]) (size := 3) (bytes := 24) (by kernel_rfl)
  have hold : (Builtin.firstCells i0.size i (.slice (some ⟨gs, 0, none⟩) i c)).run Try.prog w.drew = .ok (rows Tm.cells (ts.take i)).toArray w.drew := by
    rw [hz1]
    exact run_firstCells_some w.drew 3 i ⟨gs, 0, none⟩ i c (rows Tm.cells (ts.take i)) hX (fun j v hj => by
      rw [hXd, List.getElem?_take] at hj
      have e : (⟨gs, 0, none⟩ : Addr).add j = ⟨gs, j, none⟩ := by unfold Addr.add; split <;> simp_all
      rw [e]
      split at hj
      · show w.cell? _ = _; simp [World.cell?, hs, hj]
      · cases hj)
  have hrz0 := Lib.run_append_grow_zeros w 23 3 23 46 i0 _ .i64 .i64 Try.underlying23 Try.underlying3 hi0 hz0 (some ⟨gs, 0, none⟩) i c (rows Tm.cells (ts.take i)) hold (ts.length + 1 - i) (by omega) (by omega) (by omega) (by omega) (by rw [hz2]; omega) (by rw [hz2, show i + (ts.length + 1 - i) = ts.length + 1 by omega]; exact growslice_fits hr (by omega))
  rw [show i + (ts.length + 1 - i) = ts.length + 1 by omega, show ((ts.length + 1 - i : Nat) : Int) = (ts.length : Int) + 1 - (i : Int) by omega] at hrz0
  have hG1 := grownCap_ge w (ts.length + 1) c 46
  have hG2 := grownCap_le_maxLen w (ts.length + 1) c 46 (by unfold maxLen; omega)
  generalize grownCap w (ts.length + 1) c 46 = G at hrz0 hG1 hG2
  unfold maxLen at hG2
  obtain ⟨Z, hZ, hZl⟩ : ∃ Z : List Value, ((rows Tm.cells (ts.take i)).toArray ++ Builtin.zeroCells (Value.agg #[.int .i64 0, .int .i64 0, .int .i64 0]).cells (ts.length + 1 - i) ++ Builtin.zeroCells (Value.agg #[.int .i64 0, .int .i64 0, .int .i64 0]).cells (G - (ts.length + 1))) = (rows Tm.cells (ts.take i) ++ Z).toArray ∧ Z.length = (ts.length + 1 - i) * 3 + (G - (ts.length + 1)) * 3 :=
    ⟨(Builtin.zeroCells (Value.agg #[.int .i64 0, .int .i64 0, .int .i64 0]).cells (ts.length + 1 - i)).toList ++ (Builtin.zeroCells (Value.agg #[.int .i64 0, .int .i64 0, .int .i64 0]).cells (G - (ts.length + 1))).toList, by
      apply Array.toList_inj.1; simp, by simp [Builtin.zeroCells, Value.cells]⟩
  rw [hZ] at hrz0
  have hrow0 : (w.drew.alloc (.cells (rows Tm.cells (ts.take i) ++ Z).toArray 46)).heap[w.heap.size]? = some (.cells (rows Tm.cells (ts.take i) ++ Z).toArray 46 (0, 0)) := heap_alloc_new w.drew _
  have hb0 : Below w.heap.size w (w.drew.alloc (.cells (rows Tm.cells (ts.take i) ++ Z).toArray 46)) := (Below.refl _ _).drew.alloc (Nat.le_refl _) _
  have hs0 : (w.drew.alloc (.cells (rows Tm.cells (ts.take i) ++ Z).toArray 46)).heap.size = w.heap.size + 1 := by simp
  have HZ := Lib.hid (And.intro hZ hZl)
  clear hZ
  generalize (w.drew.alloc (.cells (rows Tm.cells (ts.take i) ++ Z).toArray 46)) = W1 at *
  have hRl : (rows Tm.cells (ts.take i) ++ Z).length = G * 3 := by rw [List.length_append, hX, hZl]; omega
  have hv1 : Blk W1 g 46 _ := hv.below' hb0
  have hc2 := run_copyK (w := W1) (sT := 23) (dCap := G - i) (sCap := 1) st_tm 3 (g := w.heap.size) (o := i * 3) (dLen := ts.length + 1 - i) (sb := g) (so := 0) (sLen := 1) (cur := rows Tm.cells (ts.take i) ++ Z) (t := 46) (cs := t.cells) (n := 1) hrow0 (by simp only [Nat.min_def]; split <;> omega) rfl (fun j v hj => by rw [Nat.zero_add, hv1.cell]; simpa [Tm.cells] using hj) (by rw [hRl, Tm.cells_length]; omega) (by simp [Tm.cells, Value.oneCell'])
  have hrow1 := setRow_at (w := W1) hrow0 (splice (rows Tm.cells (ts.take i) ++ Z) (i * 3) t.cells)
  have hgr1 := setRow_grown (w := W1) w.heap.size (splice (rows Tm.cells (ts.take i) ++ Z) (i * 3) t.cells).toArray
  have hsl := length_splice (rows Tm.cells (ts.take i) ++ Z) (i * 3) t.cells (by rw [hRl, Tm.cells_length]; omega)
  generalize (W1.setRow w.heap.size (splice (rows Tm.cells (ts.take i) ++ Z) (i * 3) t.cells).toArray) = W2 at *
  have hb2 : Below w.heap.size w W2 := hb0.grown hgr1 (by omega) (by simp)
  have hYl : (rows Tm.cells (ts.drop i)).length = (ts.length - i) * 3 := by rw [rows_length Tm.cells_length, List.length_drop]
  have hYd : rows Tm.cells (ts.drop i) = (L.take (ts.length * 3)).drop (i * 3) := by rw [hLt, ← rows_drop Tm.cells_length]
  have hsrcY : ∀ j v, (rows Tm.cells (ts.drop i))[j]? = some v → W2.drew.cell? ⟨gs, i * 3 + j, none⟩ = some v := fun j v hj => by
    rw [hYd, List.getElem?_drop, List.getElem?_take] at hj
    split at hj
    · refine (hb2.cell (p := ⟨gs, i * 3 + j, none⟩) hgl).trans ?_
      simp [World.cell?, hs, hj]
    · cases hj
  have hc3 := run_copyK (w := W2.drew) (sT := 23) (dCap := G - (i + 1)) (sCap := c - i) st_tm 3 (g := w.heap.size) (o := (i + 1) * 3) (dLen := ts.length - i) (sb := gs) (so := i * 3) (sLen := ts.length - i) (cur := splice (rows Tm.cells (ts.take i) ++ Z) (i * 3) t.cells) (t := 46) (cs := rows Tm.cells (ts.drop i)) (n := ts.length - i) hrow1 (by simp [Nat.min_def]) hYl hsrcY (by rw [hsl, hRl, hYl]; omega) (tms_one _)
  have hrow2 := setRow_at (w := W2.drew) hrow1 (splice (splice (rows Tm.cells (ts.take i) ++ Z) (i * 3) t.cells) ((i + 1) * 3) (rows Tm.cells (ts.drop i)))
  have hgr2 := setRow_grown (w := W2.drew) w.heap.size (splice (splice (rows Tm.cells (ts.take i) ++ Z) (i * 3) t.cells) ((i + 1) * 3) (rows Tm.cells (ts.drop i))).toArray
  have hsl2 := length_splice (splice (rows Tm.cells (ts.take i) ++ Z) (i * 3) t.cells) ((i + 1) * 3) (rows Tm.cells (ts.drop i)) (by rw [hsl, hRl, hYl]; omega)
  generalize (W2.drew.setRow w.heap.size (splice (splice (rows Tm.cells (ts.take i) ++ Z) (i * 3) t.cells) ((i + 1) * 3) (rows Tm.cells (ts.drop i))).toArray) = W3 at *
  have hb3 : Below w.heap.size w W3 := hb2.drew.grown hgr2 (by have := hgr1.size; show w.heap.size ≤ W2.heap.size; omega) (by simp)
  have g1 : ¬ (G = i) := by omega
  have g2 : ¬ (G = i + 1) := by omega
  have HALL := Lib.hid (And.intro hrow2 (And.intro hsl (And.intro hsl2 (And.intro hRl hb3))))
  have HX := Lib.hid hX; have HY := Lib.hid hYl; have HZl := Lib.hid hZl
  clear hrow0 hrow1 hrow2 hgr1 hgr2 hsl hsl2 hRl hb0 hb2 hb3 hsrcY hYd hYl hX hXd hZl hold hs0 hv1 HZ hi0 hz0 hz1 hz2
  have HRZ := Lib.hid hrz0; clear hrz0
  go_enter Try.func38, Try.ntmps38
  go_wp2_with (at_builtin; refine wpList_appR rfl (.tmp 34) (.tmp 39) 23 3 rfl _ _ rfl rfl HRZ.out ?_)
  have w1 : IntKind.i64.wrap ((i : Int) + 1) = (i : Int) + 1 := IntWalk.i64_in _ (by omega)
  have w2 : (0 : Int) ≤ (i : Int) + 1 := by omega
  have w3 : ((i : Int) + 1).toNat = i + 1 := by omega
  have w4 : (i : Int) ≤ (ts.length : Int) + 1 := by omega
  go_region
  clear w1 w2 w3 w4
  go_wp2
  go_ret
  obtain ⟨hrow2, hsl, hsl2, hRl, hb3⟩ := HALL.out
  have hsp := splice_insert2 (cur := rows Tm.cells (ts.take i) ++ Z) (X := rows Tm.cells (ts.take i)) (Y := rows Tm.cells (ts.drop i)) (V := t.cells) (Z := Z) rfl (by rw [Tm.cells_length, HY.out, HZl.out]; omega)
  rw [HX.out, Tm.cells_length, HY.out, ← insT_cells, show i * 3 + 3 = (i + 1) * 3 by omega, show (i + 1) * 3 + (ts.length - i) * 3 = (ts.length + 1) * 3 by omega] at hsp
  refine ⟨some ⟨w.heap.size, 0, none⟩, G, rfl, ⟨?_, .inr ⟨w.heap.size, G, _, rfl, hb, hrow2, hG1, by unfold maxLen; omega, ?_, ?_⟩⟩, ?_⟩
  · rw [rows_length Tm.cells_length, insT_length ts i t (by omega)]
  · simp; rw [hsl2, hsl]; simpa using hRl
  · exact hsp
  · exact ⟨hb3.os, hb3.tape, hb3.output, hb3.size, fun k hk _ => hb3.block k hk⟩
end Go.Proofs.Ytgiebofmfkacgaa
namespace Go.Proofs.Ytgiebofmfkacgaa
open Go.RowKit

theorem insert_any (base : Nat) (A : Option Addr) (c i : Nat) (ts : List Tm) (t : Tm) (g : Nat) (w : World) (ho : w.ownsRow base 46 3 (.slice A ts.length c) ts.length (rows Tm.cells ts)) (hb : base ≤ w.heap.size)
    (hv : Blk w g 46 #[.int .i64 t.at_, .int .i64 t.ser, .int .i64 t.task]) (hl : ts.length ≤ 1000000) (hi : i ≤ ts.length) (hne : some g ≠ (Value.slice A ts.length c).ownBlock) :
    Calls Try.prog 38 #[.slice A ts.length c, .int .i64 i, .slice (some ⟨g, 0, none⟩) 1 1] w (RetRow base (Value.slice A ts.length c).ownBlock (ts.length + 1) (rows Tm.cells (insT ts i t)) w) := by
  by_cases he : i = ts.length
  · subst he; exact insert_end base A c ts t g w ho hb hv hl
  · rcases ho.2 with ⟨hv0, h0⟩ | ⟨gs, cap, cur, hv0, hbg, hh, hnc, hcm, hcs, hct⟩
    · omega
    · injection hv0 with e1 e2 e3
      subst e1 e3
      unfold maxLen at hcm
      by_cases hr : ts.length + 1 ≤ c
      · exact insert_room base c i ts t g gs cur.toList w hbg (by simpa using hh) (by simpa using hcs) hct hv (by simpa [Value.ownBlock] using hne) hl (by omega) hr (by omega)
      · exact insert_grow base c i ts t g gs cur.toList w hb (by simpa using hh) hct hv hl (by omega) hnc (by omega)

def newT (c : Ck) (n d : Int) : Tm := ⟨c.now + d, c.ser, n⟩
def sleepM (c : Ck) (n d : Int) : Ck × (Int × Int) :=
  if (idleF c n).1 = 0 then
    (if d < 0 ∨ 1000000000 < d then (⟨0, 0, [], []⟩, (4, -3)) else if d = 0 then readyM c n else
      if timeB (c.now + d) && timeB (c.ser + 1) then (⟨c.now, c.ser + 1, c.rs, insT c.ts (bsf c.ts (newT c n d)) (newT c n d)⟩, (0, 0)) else (⟨0, 0, [], []⟩, (14, -3)))
  else (⟨0, 0, [], []⟩, idleF c n)
theorem validate_times {c : Ck} (h : (validate c).1 = 0) : timeB c.now = true ∧ timeB c.ser = true := by
  unfold validate at h
  split at h
  · rename_i h0; simpa using h0
  · simp at h
theorem idle_valid {c : Ck} {n : Int} (h : (idleF c n).1 = 0) : (validate c).1 = 0 := by
  unfold idleF at h
  split at h
  · assumption
  · rename_i h0; exact absurd h h0
theorem timeB_le {n : Int} (h : timeB n = true) : 0 ≤ n ∧ n ≤ 1000000000000000 := by simpa [timeB] using h
theorem bsf_le (ts : List Tm) (t : Tm) : bsf ts t ≤ ts.length := by
  have key : ∀ (p : Nat → Bool) (f i j : Nat), j - i ≤ f → i ≤ j → bs p i j ≤ j := by
    intro p f
    induction f with
    | zero => intro i j h hij; rw [bs_end p i j (by omega)]; exact hij
    | succ f ih =>
      intro i j h hij
      by_cases hlt : i < j
      · rw [bs_step p i j hlt]
        split
        · exact ih _ _ (by omega) (by omega)
        · exact Nat.le_trans (ih _ _ (by omega) (by omega)) (by omega)
      · rw [bs_end p i j (by omega)]; exact hij
  exact key _ ts.length 0 ts.length (by omega) (by omega)

set_option maxHeartbeats 2000000 in
theorem sleep_any (c : Ck) (v : Value) (n d : Int) (w : World) (hv : CkAt w c v) :
    Calls Try.prog 12 #[v, .int .i64 n, .int .i64 d] w (RetCk (sleepM c n d) w) := by
  have hv0 := hv
  obtain ⟨now, ser, rs, ts⟩ := c
  obtain ⟨RA, rc, TA, tc, rfl, hr, ht, hrc, htc, hrl, htl⟩ := hv
  dsimp only at hr ht hrc htc hrl htl ⊢
  have Hv := Lib.hid hv0; clear hv0
  go_enter Try.func12, Try.ntmps12
  go_wp2_with fail
  refine (idle_any _ _ n _ (Hv.out.below (by repeat (first | (with_reducible exact Below.refl _ _) | (with_reducible apply Below.drew) | (with_reducible apply below_drewN) | ((with_reducible refine Below.setCell ?_ ?_ _); rotate_left; (focus (first | (simp; done) | (simp; omega) | omega))) | ((with_reducible refine Below.alloc ?_ ?_ _); rotate_left; (focus (first | (simp; done) | (simp; omega) | omega))))))).mono ?_
  rintro e w1 ⟨rfl, hb1⟩
  obtain ⟨k1, k2, k3, hz1⟩ := box3 (w := w) hb1 rfl (by simp)
  have hy1 : w.heap.size < w1.heap.size := by omega
  have hx1 : w.heap.size + 1 < w1.heap.size := by omega
  have hB1 : Below w.heap.size w w1 := Below.trans (by repeat (first | (with_reducible exact Below.refl _ _) | (with_reducible apply Below.drew) | (with_reducible apply below_drewN) | ((with_reducible refine Below.setCell ?_ ?_ _); rotate_left; (focus (first | (simp; done) | (simp; omega) | omega))) | ((with_reducible refine Below.alloc ?_ ?_ _); rotate_left; (focus (first | (simp; done) | (simp; omega) | omega))))) (hb1.mono (by simp; omega))
  clear hb1
  have hsm := @idle_small ⟨now, ser, rs, ts⟩ n
  have hiv := @idle_valid ⟨now, ser, rs, ts⟩ n
  obtain ⟨p0, p1, p2, p3, p4, p5, p6, p7⟩ := Blk.four k1
  obtain ⟨q0, q1, q2, q3, q4, q5, q6, q7⟩ := Blk.four k2
  obtain ⟨r0, r1, r2, r3⟩ := Blk.two k3
  have K1 := Lib.hid k1; have K2 := Lib.hid k2; have K3 := Lib.hid k3
  clear k1 k2 k3
  generalize hf : idleF ⟨now, ser, rs, ts⟩ n = f at hsm hiv ⊢
  obtain ⟨f1, f2⟩ := f
  dsimp only at hsm hiv
  by_cases hc : f1 = 0
  rotate_left
  · have hq : (f1 != 0) = true := by simpa using hc
    have HF := Lib.hid (show sleepM ⟨now, ser, rs, ts⟩ n d = (⟨0, 0, [], []⟩, (f1, f2)) by simp [sleepM, hf, hc])
    clear hc hf hsm hiv
    go_wp2
    go_region
    go_wp2
    refine bodyPost_ret (v := .tuple #[.agg #[.int .i64 0, .int .i64 0, .slice none 0 0, .slice none 0 0], .agg #[.int .i64 f1, .int .i64 f2]]) (by simp [results, Try.results12, go_sem, q0, q1, q2, q3, r0, r1, hz1, hx1]) rfl ?_
    rw [HF.out]
    exact ⟨_, rfl, zero_ckat _ _, (by repeat (first | (with_reducible exact hB1) | (with_reducible exact Below.refl _ _) | (with_reducible apply Below.drew) | (with_reducible apply below_drewN) | ((with_reducible refine Below.setCell ?_ ?_ _); rotate_left; (focus (first | (simp; done) | (simp; omega) | omega))) | ((with_reducible refine Below.alloc ?_ ?_ _); rotate_left; (focus (first | (simp; done) | (simp; omega) | omega)))))⟩
  have hlen := hsm hc
  obtain ⟨tn, ts1⟩ := validate_times (hiv hc)
  obtain ⟨n1, n2⟩ := timeB_le tn
  obtain ⟨n3, n4⟩ := timeB_le ts1
  dsimp only at n1 n2 n3 n4
  subst hc
  clear hsm hiv tn ts1
  by_cases hd : d < 0 ∨ 1000000000 < d
  · have HF := Lib.hid (show sleepM ⟨now, ser, rs, ts⟩ n d = (⟨0, 0, [], []⟩, (4, -3)) by simp [sleepM, hf, hd])
    clear hf
    rcases hd with hd | hd
    · go_wp2
      refine bodyPost_ret (v := .tuple #[.agg #[.int .i64 0, .int .i64 0, .slice none 0 0, .slice none 0 0], .agg #[.int .i64 4, .int .i64 (-3)]]) (by simp [results, Try.results12, go_sem, q0, q1, q2, q3, r0, r1, hz1, hx1]) rfl ?_
      rw [HF.out]
      exact ⟨_, rfl, zero_ckat _ _, (by repeat (first | (with_reducible exact hB1) | (with_reducible exact Below.refl _ _) | (with_reducible apply Below.drew) | (with_reducible apply below_drewN) | ((with_reducible refine Below.setCell ?_ ?_ _); rotate_left; (focus (first | (simp; done) | (simp; omega) | omega))) | ((with_reducible refine Below.alloc ?_ ?_ _); rotate_left; (focus (first | (simp; done) | (simp; omega) | omega)))))⟩
    · have hd' : decide (d < 0) = false := by simp; omega
      go_wp2
      refine bodyPost_ret (v := .tuple #[.agg #[.int .i64 0, .int .i64 0, .slice none 0 0, .slice none 0 0], .agg #[.int .i64 4, .int .i64 (-3)]]) (by simp [results, Try.results12, go_sem, q0, q1, q2, q3, r0, r1, hz1, hx1]) rfl ?_
      rw [HF.out]
      exact ⟨_, rfl, zero_ckat _ _, (by repeat (first | (with_reducible exact hB1) | (with_reducible exact Below.refl _ _) | (with_reducible apply Below.drew) | (with_reducible apply below_drewN) | ((with_reducible refine Below.setCell ?_ ?_ _); rotate_left; (focus (first | (simp; done) | (simp; omega) | omega))) | ((with_reducible refine Below.alloc ?_ ?_ _); rotate_left; (focus (first | (simp; done) | (simp; omega) | omega)))))⟩
  have d1 : 0 ≤ d := by omega
  have d2 : d ≤ 1000000000 := by omega
  have d3 : decide (d < 0) = false := by simp; omega
  by_cases h0 : d = 0
  · have HF := Lib.hid (show sleepM ⟨now, ser, rs, ts⟩ n d = readyM ⟨now, ser, rs, ts⟩ n by simp [sleepM, hf, h0])
    have h0' : (d == 0) = true := by simp [h0]
    have HC := Lib.hid (fun o : Obj => ready_any ⟨now, ser, rs, ts⟩ _ n (w1.alloc o) ((Hv.out.below hB1).below ((Below.refl _ _).alloc (Nat.le_refl _) o)))
    clear hf hd h0
    go_wp2_with fail
    refine (HC.out _).mono ?_
    rintro e w2 ⟨v2, rfl, hv2, hb2⟩
    have hbB : Below (w.heap.size + 3) w1 w2 := Below.trans (by repeat (first | (with_reducible exact Below.refl _ _) | (with_reducible apply Below.drew) | (with_reducible apply below_drewN) | ((with_reducible refine Below.setCell ?_ ?_ _); rotate_left; (focus (first | (simp; done) | (simp; omega) | omega))) | ((with_reducible refine Below.alloc ?_ ?_ _); rotate_left; (focus (first | (simp; done) | (simp; omega) | omega))))) (hb2.mono (by first | (simp; done) | (simp; omega) | omega | (simp [World.setCell]; done) | (simp [World.setCell]; omega)))
    have hB2 : Below w.heap.size w w2 := hB1.trans (hbB.mono (by omega))
    have hz2 : w.heap.size + 2 < w2.heap.size := Nat.lt_of_lt_of_le hz1 hbB.size
    obtain ⟨m, hm⟩ : ∃ m, readyM ⟨now, ser, rs, ts⟩ n = m := ⟨_, rfl⟩
    have HM := Lib.hid (HF.out.trans hm)
    rw [hm] at hv2 ⊢
    clear HF hm HC hb2
    obtain ⟨⟨a1, a2, a3, a4⟩, b1, b2⟩ := m
    have HV := Lib.hid hv2
    obtain ⟨A1, c1, A2, c2, rfl, hh⟩ := hv2
    clear p0 p1 p2 p3 p4 p5 p6 p7 q0 q1 q2 q3 q4 q5 q6 q7 r0 r1 r2 r3 hh
    obtain ⟨q0, q1, q2, q3, q4, q5, q6, q7⟩ := Blk.four ((hbB.block (w.heap.size + 1) (by omega)).trans K2.out)
    obtain ⟨r0, r1, r2, r3⟩ := Blk.two ((hbB.block (w.heap.size + 2) (by omega)).trans K3.out)
    dsimp only
    go_wp2
    refine bodyPost_ret (v := .tuple #[.agg #[.int .i64 a1, .int .i64 a2, .slice A1 a3.length c1, .slice A2 a4.length c2], .agg #[.int .i64 b1, .int .i64 b2]]) (by simp [results, Try.results12, go_sem, q0, q1, q2, q3, r0, r1]) rfl ?_
    rw [HM.out]
    refine ⟨_, rfl, CkIn.weaken (ok := (w1.heap.size ≤ ·)) ?_ (fun b hb => Nat.le_trans (Nat.le_of_lt hy1) hb), (by repeat (first | (with_reducible exact hB2) | (with_reducible exact Below.refl _ _) | (with_reducible apply Below.drew) | (with_reducible apply below_drewN) | ((with_reducible refine Below.setCell ?_ ?_ _); rotate_left; (focus (first | (simp; done) | (simp; omega) | omega))) | ((with_reducible refine Below.alloc ?_ ?_ _); rotate_left; (focus (first | (simp; done) | (simp; omega) | omega)))))⟩
    repeat (refine CkIn.setCell ?_ (by simp; omega) _)
    exact HV.out.weaken (fun b hb => by simp at hb; omega)
  have h0' : (d == 0) = false := by simpa using h0
  cases hA : timeB (now + d)
  · have HF := Lib.hid (show sleepM ⟨now, ser, rs, ts⟩ n d = (⟨0, 0, [], []⟩, (14, -3)) by simp [sleepM, hf, hd, h0, hA])
    clear hf hd h0
    go_wp2_with (go_at_call 35; refine (time_any _ _).mono ?_; rintro e w' ⟨rfl, rfl⟩)
    refine bodyPost_ret (v := .tuple #[.agg #[.int .i64 0, .int .i64 0, .slice none 0 0, .slice none 0 0], .agg #[.int .i64 14, .int .i64 (-3)]]) (by simp [results, Try.results12, go_sem, q0, q1, q2, q3, r0, r1, hz1, hx1]) rfl ?_
    rw [HF.out]
    exact ⟨_, rfl, zero_ckat _ _, (by repeat (first | (with_reducible exact hB1) | (with_reducible exact Below.refl _ _) | (with_reducible apply Below.drew) | (with_reducible apply below_drewN) | ((with_reducible refine Below.setCell ?_ ?_ _); rotate_left; (focus (first | (simp; done) | (simp; omega) | omega))) | ((with_reducible refine Below.alloc ?_ ?_ _); rotate_left; (focus (first | (simp; done) | (simp; omega) | omega)))))⟩
  cases hS : timeB (ser + 1)
  · have HF := Lib.hid (show sleepM ⟨now, ser, rs, ts⟩ n d = (⟨0, 0, [], []⟩, (14, -3)) by simp [sleepM, hf, hd, h0, hA, hS])
    clear hf hd h0
    go_wp2_with (go_at_call 35; refine (time_any _ _).mono ?_; rintro e w' ⟨rfl, rfl⟩)
    refine bodyPost_ret (v := .tuple #[.agg #[.int .i64 0, .int .i64 0, .slice none 0 0, .slice none 0 0], .agg #[.int .i64 14, .int .i64 (-3)]]) (by simp [results, Try.results12, go_sem, q0, q1, q2, q3, r0, r1, hz1, hx1]) rfl ?_
    rw [HF.out]
    exact ⟨_, rfl, zero_ckat _ _, (by repeat (first | (with_reducible exact hB1) | (with_reducible exact Below.refl _ _) | (with_reducible apply Below.drew) | (with_reducible apply below_drewN) | ((with_reducible refine Below.setCell ?_ ?_ _); rotate_left; (focus (first | (simp; done) | (simp; omega) | omega))) | ((with_reducible refine Below.alloc ?_ ?_ _); rotate_left; (focus (first | (simp; done) | (simp; omega) | omega)))))⟩
  have HF := Lib.hid (show sleepM ⟨now, ser, rs, ts⟩ n d = (⟨now, ser + 1, rs, insT ts (bsf ts (newT ⟨now, ser, rs, ts⟩ n d)) (newT ⟨now, ser, rs, ts⟩ n d)⟩, (0, 0)) by simp [sleepM, hf, hd, h0, hA, hS])
  clear hf hd h0
  have HC := Lib.hid (fun o : Obj => clone_any ⟨now, ser, rs, ts⟩ _ (w1.alloc o) ((Hv.out.below hB1).below ((Below.refl _ _).alloc (Nat.le_refl _) o)) (by dsimp only; omega))
  go_wp2_with (go_at_call 35; refine (time_any _ _).mono ?_; rintro e w' ⟨rfl, rfl⟩)
  refine (HC.out _).mono ?_
  rintro e w2 ⟨A1, c1, A2, c2, rfl, ho1, ho2, hb2⟩
  have hbB : Below (w.heap.size + 3) w1 w2 := Below.trans (by repeat (first | (with_reducible exact Below.refl _ _) | (with_reducible apply Below.drew) | (with_reducible apply below_drewN) | ((with_reducible refine Below.setCell ?_ ?_ _); rotate_left; (focus (first | (simp; done) | (simp; omega) | omega))) | ((with_reducible refine Below.alloc ?_ ?_ _); rotate_left; (focus (first | (simp; done) | (simp; omega) | omega))))) (hb2.mono (by first | (simp; done) | (simp; omega) | omega | (simp [World.setCell]; done) | (simp [World.setCell]; omega)))
  have hB2 : Below w.heap.size w w2 := hB1.trans (hbB.mono (by omega))
  have l1 : Blk w2 w.heap.size 25 _ := (hbB.block w.heap.size (by omega)).trans K1.out
  have l2 : Blk w2 (w.heap.size + 1) 25 _ := (hbB.block (w.heap.size + 1) (by omega)).trans K2.out
  have l3 : Blk w2 (w.heap.size + 2) 27 _ := (hbB.block (w.heap.size + 2) (by omega)).trans K3.out
  replace ho1 := own_mono (base' := w.heap.size + 3) ho1 (by first | (simp; done) | (simp; omega) | omega | (simp [World.setCell]; done) | (simp [World.setCell]; omega))
  replace ho2 := own_mono (base' := w.heap.size + 3) ho2 (by first | (simp; done) | (simp; omega) | omega | (simp [World.setCell]; done) | (simp [World.setCell]; omega))
  have hz2 : w.heap.size + 2 < w2.heap.size := Nat.lt_of_lt_of_le hz1 hbB.size
  clear p0 p1 p2 p3 p4 p5 p6 p7 q0 q1 q2 q3 q4 q5 q6 q7 r0 r1 r2 r3 hb2 hbB HC K1 K2 K3
  obtain ⟨p0, p1, p2, p3, p4, p5, p6, p7⟩ := l1.four
  have hy2 : w.heap.size < w2.heap.size := by omega
  have L1 := Lib.hid l1; have L2 := Lib.hid l2; have L3 := Lib.hid l3
  clear l1 l2 l3
  dsimp only
  go_upto_region 11 with (fail)
  have m1 := L1.out.set4 (.int .i64 now) (.int .i64 ser) (.slice A1 rs.length c1) (.slice A2 ts.length c2)
  have m2 := L2.out.far4 (g' := w.heap.size) (by omega) (.int .i64 now) (.int .i64 ser) (.slice A1 rs.length c1) (.slice A2 ts.length c2)
  have m3 := L3.out.far4 (g' := w.heap.size) (by omega) (.int .i64 now) (.int .i64 ser) (.slice A1 rs.length c1) (.slice A2 ts.length c2)
  have o1 := own_box4 (g := w.heap.size) ho1 (by omega) (.int .i64 now) (.int .i64 ser) (.slice A1 rs.length c1) (.slice A2 ts.length c2)
  have o2 := own_box4 (g := w.heap.size) ho2 (by omega) (.int .i64 now) (.int .i64 ser) (.slice A1 rs.length c1) (.slice A2 ts.length c2)
  have hB3 := below_box4 (g := w.heap.size) hB2 (Nat.le_refl _) (.int .i64 now) (.int .i64 ser) (.slice A1 rs.length c1) (.slice A2 ts.length c2)
  have hz3 : w.heap.size + 2 < ((((w2.setCell ⟨w.heap.size, 0, none⟩ (.int .i64 now)).setCell ⟨w.heap.size, 1, none⟩ (.int .i64 ser)).setCell ⟨w.heap.size, 2, none⟩ (.slice A1 rs.length c1)).setCell ⟨w.heap.size, 3, none⟩ (.slice A2 ts.length c2)).heap.size := by simp [World.setCell]; omega
  generalize ((((w2.setCell ⟨w.heap.size, 0, none⟩ (.int .i64 now)).setCell ⟨w.heap.size, 1, none⟩ (.int .i64 ser)).setCell ⟨w.heap.size, 2, none⟩ (.slice A1 rs.length c1)).setCell ⟨w.heap.size, 3, none⟩ (.slice A2 ts.length c2)) = w3 at *
  clear p0 p1 p2 p3 p4 p5 p6 p7 L1 L2 L3 ho1 ho2 hB2 hz2 hy2
  obtain ⟨p0, p1, p2, p3, p4, p5, p6, p7⟩ := m1.four
  have hy3 : w.heap.size < w3.heap.size := by omega
  have HM := Lib.hid (And.intro m1 (And.intro m2 m3))
  clear m1 m2 m3
  go_upto_region 13 with (fail)
  obtain ⟨m1, m2, m3⟩ := HM.out
  have m4 : Blk ((w3.setCell ⟨w.heap.size, 1, none⟩ (.int .i64 (ser + 1))).alloc (.cells #[.int .i64 (now + d), .int .i64 ser, .int .i64 n] 46)) w.heap.size 25 #[.int .i64 now, .int .i64 (ser + 1), .slice A1 rs.length c1, .slice A2 ts.length c2] := (show Blk (w3.setCell ⟨w.heap.size, 1, none⟩ (.int .i64 (ser + 1))) w.heap.size 25 _ by simpa using m1.set 1 (.int .i64 (ser + 1))).alloc _
  have m5 := (m2.far (p := ⟨w.heap.size, 1, none⟩) (by simp) (.int .i64 (ser + 1))).alloc (.cells #[.int .i64 (now + d), .int .i64 ser, .int .i64 n] 46)
  have m6 := (m3.far (p := ⟨w.heap.size, 1, none⟩) (by simp) (.int .i64 (ser + 1))).alloc (.cells #[.int .i64 (now + d), .int .i64 ser, .int .i64 n] 46)
  have tb : Blk ((w3.setCell ⟨w.heap.size, 1, none⟩ (.int .i64 (ser + 1))).alloc (.cells #[.int .i64 (now + d), .int .i64 ser, .int .i64 n] 46)) w3.heap.size 46 #[.int .i64 (now + d), .int .i64 ser, .int .i64 n] := by
    have := Blk.new (w3.setCell ⟨w.heap.size, 1, none⟩ (.int .i64 (ser + 1))) 46 #[.int .i64 (now + d), .int .i64 ser, .int .i64 n]
    rwa [show (w3.setCell ⟨w.heap.size, 1, none⟩ (.int .i64 (ser + 1))).heap.size = w3.heap.size by simp [World.setCell]] at this
  have o3 := (own_box1 (g := w.heap.size) (i := 1) o1 (by omega) (.int .i64 (ser + 1))).alloc (.cells #[.int .i64 (now + d), .int .i64 ser, .int .i64 n] 46)
  have o4 := (own_box1 (g := w.heap.size) (i := 1) o2 (by omega) (.int .i64 (ser + 1))).alloc (.cells #[.int .i64 (now + d), .int .i64 ser, .int .i64 n] 46)
  have hB4 : Below w.heap.size w ((w3.setCell ⟨w.heap.size, 1, none⟩ (.int .i64 (ser + 1))).alloc (.cells #[.int .i64 (now + d), .int .i64 ser, .int .i64 n] 46)) := (hB3.setCell (p := ⟨w.heap.size, 1, none⟩) (Nat.le_refl _) _).alloc (by simp [World.setCell]; omega) _
  have hz4 : ((w3.setCell ⟨w.heap.size, 1, none⟩ (.int .i64 (ser + 1))).alloc (.cells #[.int .i64 (now + d), .int .i64 ser, .int .i64 n] 46)).heap.size = w3.heap.size + 1 := by simp [World.setCell]
  generalize ((w3.setCell ⟨w.heap.size, 1, none⟩ (.int .i64 (ser + 1))).alloc (.cells #[.int .i64 (now + d), .int .i64 ser, .int .i64 n] 46)) = w4 at *
  have hw4 : w.heap.size + 3 ≤ w4.heap.size := by omega
  have hw4' : w3.heap.size < w4.heap.size := by omega
  clear p0 p1 p2 p3 p4 p5 p6 p7 m1 m2 m3 HM o1 o2 hB3 hz4
  obtain ⟨p0, p1, p2, p3, p4, p5, p6, p7⟩ := m4.four
  obtain ⟨t0, t1, t2, t3, t4, t5⟩ := tb.three
  have M := Lib.hid (And.intro m4 (And.intro m5 (And.intro m6 tb)))
  clear m4 m5 m6 tb
  go_wp2_with fail
  refine (bsearch_any A2 c2 ts ⟨now + d, ser, n⟩ _ (Rd.of_own o4) (by omega)).mono ?_
  rintro e w5 ⟨fb, rfl, hb5⟩
  have hi := bsf_le ts ⟨now + d, ser, n⟩
  have HI := Lib.hid (show newT ⟨now, ser, rs, ts⟩ n d = ⟨now + d, ser, n⟩ from rfl)
  generalize hbi : bsf ts ⟨now + d, ser, n⟩ = bi at *
  have HBI := Lib.hid hbi; clear hbi
  obtain ⟨m4, m5, m6, tb⟩ := M.out
  have n4' := m4.below' hb5
  have n5' := m5.below' hb5
  have n6' := m6.below' hb5
  have tb' := tb.below' hb5
  have o5 := own_below o3 hb5
  have o6 := own_below o4 hb5
  have hB5 : Below w.heap.size w w5 := hB4.trans (hb5.mono (by omega))
  have hw5 : w.heap.size + 3 ≤ w5.heap.size := Nat.le_trans hw4 hb5.size
  have hw5' : w3.heap.size < w5.heap.size := Nat.lt_of_lt_of_le hw4' hb5.size
  clear p0 p1 p2 p3 p4 p5 p6 p7 t0 t1 t2 t3 t4 t5 m4 m5 m6 tb M o3 o4 hB4 hb5 hw4 hw4' hy3 hz3
  obtain ⟨p0, p1, p2, p3, p4, p5, p6, p7⟩ := n4'.four
  obtain ⟨t0, t1, t2, t3, t4, t5⟩ := tb'.three
  have M := Lib.hid (And.intro n4' (And.intro n5' n6'))
  have HI5 := Lib.hid (insert_any (w.heap.size + 3) A2 c2 bi ts ⟨now + d, ser, n⟩ w5.heap.size (w5.alloc (.cells #[.int .i64 (now + d), .int .i64 ser, .int .i64 n] 46)) (o6.alloc _) (by simp; omega) (Blk.new _ _ _) (by omega) hi (fun e => by have := (o6.lt _ e.symm).2; omega))
  clear n4' n5' n6' tb'
  dsimp only
  go_wp2_with fail
  refine HI5.out.mono ?_
  rintro e w6 ⟨A6, c6, rfl, ho6, hg6⟩
  obtain ⟨m4, m5, m6⟩ := M.out
  have z4 := (hg6.block w.heap.size (by simp; omega) (own_ne o6 (by omega))).trans (m4.alloc _)
  have z5 := (hg6.block (w.heap.size + 1) (by simp; omega) (own_ne o6 (by omega))).trans (m5.alloc _)
  have z6 := (hg6.block (w.heap.size + 2) (by simp; omega) (own_ne o6 (by omega))).trans (m6.alloc _)
  have o7 := own_other (o5.alloc _) (o6.alloc _) (by decide) hg6
  have hB6 : Below w.heap.size w w6 := Below.app (hB5.alloc (by omega) _) (o6.alloc _) hg6 (by omega) (by simp; omega)
  clear p0 p1 p2 p3 p4 p5 p6 p7 t0 t1 t2 t3 t4 t5 m4 m5 m6 M HI5 hg6 o5 o6 hB5
  obtain ⟨p0, p1, p2, p3, p4, p5, p6, p7⟩ := Blk.four z4
  obtain ⟨q0, q1, q2, q3, q4, q5, q6, q7⟩ := Blk.four z5
  obtain ⟨r0, r1, r2, r3⟩ := Blk.two z6
  clear z4 z5 z6
  dsimp only
  go_wp2
  refine bodyPost_ret (v := .tuple #[.agg #[.int .i64 now, .int .i64 (ser + 1), .slice A1 rs.length c1, .slice A6 (ts.length + 1) c6], .agg #[.int .i64 0, .int .i64 0]]) (by simp [results, Try.results12, go_sem, q0, q1, q2, q3, r0, r1]) rfl ?_
  rw [HF.out, HI.out, HBI.out]
  have hl1 := insT_length ts bi ⟨now + d, ser, n⟩ hi
  rw [← hl1] at ho6
  refine ⟨_, by rw [← hl1], ckin_of_own (b1 := w.heap.size + 3) (b2 := w.heap.size + 3) ?_ ?_ (by omega) (by omega) (by omega) (by omega), (by repeat (first | (with_reducible exact hB6) | (with_reducible exact Below.refl _ _) | (with_reducible apply Below.drew) | (with_reducible apply below_drewN) | ((with_reducible refine Below.setCell ?_ ?_ _); rotate_left; (focus (first | (simp; done) | (simp; omega) | omega))) | ((with_reducible refine Below.alloc ?_ ?_ _); rotate_left; (focus (first | (simp; done) | (simp; omega) | omega)))))⟩
  · repeat (refine ownsRow_setCell_below ?_ (by simp; try omega) _)
    exact o7
  · repeat (refine ownsRow_setCell_below ?_ (by simp; try omega) _)
    exact ho6
end Go.Proofs.Ytgiebofmfkacgaa
namespace Go.Proofs.Ytgiebofmfkacgaa
open Go.RowKit

/-- One step of the loop of Next: the first timer's task goes into the queue. -/
def fireF : Nat → Int → List Int → List Tm → List Int × List Tm
  | 0, _, rs, ts => (rs, ts)
  | _ + 1, _, rs, [] => (rs, [])
  | f + 1, now, rs, t :: ts => if t.at_ == now then fireF f now (rs ++ [t.task]) ts else (rs, t :: ts)
def fire (c : Ck) : Ck := match c.rs, c.ts with
  | [], t :: l => ⟨t.at_, c.ser, (fireF (t :: l).length t.at_ [] (t :: l)).1, (fireF (t :: l).length t.at_ [] (t :: l)).2⟩
  | _, _ => c
def popM (c : Ck) : Ck × (Int × (Int × Int)) := match c.rs with
  | [] => (⟨0, 0, [], []⟩, (0, (10, -1)))
  | n :: l => (⟨c.now, c.ser, l, c.ts⟩, (n, (0, 0)))
def nextM (c : Ck) : Ck × (Int × (Int × Int)) := if (validate c).1 = 0 then popM (fire c) else (⟨0, 0, [], []⟩, (0, validate c))
/-- A post that is kept whole. -/
def RetN (m : Ck × (Int × (Int × Int))) (w : World) (e : Ending) (w' : World) : Prop := ∃ v, e = .returned (.tuple #[v, .int .i64 m.2.1, flt m.2.2]) ∧ CkIn w' (w.heap.size ≤ ·) m.1 v ∧ Below w.heap.size w w'

theorem queueT_length (ts : List Tm) (k : Nat) (h : k ≤ ts.length) : ((ts.take k).map (·.task)).length = k := by simp; omega
theorem fireF_hit (ts : List Tm) (a : Int) (k m : Nat) (hk : k < ts.length) (h : (ts[k].at_ == a) = true) :
    fireF (m + 1) a ((ts.take k).map (·.task)) (ts.drop k) = fireF m a ((ts.take (k + 1)).map (·.task)) (ts.drop (k + 1)) := by
  rw [List.drop_eq_getElem_cons hk, List.take_succ_eq_append_getElem hk]; simp only [fireF, h, if_true, List.map_append, List.map_cons, List.map_nil]
theorem fireF_miss (ts : List Tm) (a : Int) (k m : Nat) (hk : k < ts.length) (h : (ts[k].at_ == a) = false) :
    fireF (m + 1) a ((ts.take k).map (·.task)) (ts.drop k) = ((ts.take k).map (·.task), ts.drop k) := by
  rw [List.drop_eq_getElem_cons hk]; simp only [fireF, h, Bool.false_eq_true, if_false]
def queueT (ts : List Tm) (k : Nat) : List Int := (ts.take k).map (·.task)
theorem queueT_succ (ts : List Tm) (k : Nat) (h : k < ts.length) : queueT ts (k + 1) = queueT ts k ++ [ts[k].task] := by
  unfold queueT; rw [List.take_succ_eq_append_getElem h, List.map_append]; rfl

set_option maxHeartbeats 2000000 in
theorem next_any (c : Ck) (v : Value) (w : World) (hv : CkAt w c v) :
    Calls Try.prog 23 #[v] w (RetN (nextM c) w) := by
  have hv0 := hv
  obtain ⟨now, ser, rs, ts⟩ := c
  obtain ⟨RA, rc, TA, tc, rfl, hr, ht, hrc, htc, hrl, htl⟩ := hv
  dsimp only at hr ht hrc htc hrl htl ⊢
  have Hv := Lib.hid hv0; clear hv0
  go_enter Try.func23, Try.ntmps23
  go_wp2_with fail
  refine (validate_any _ _ _ (Hv.out.below (by repeat (first | (with_reducible exact Below.refl _ _) | (with_reducible apply Below.drew) | (with_reducible apply below_drewN) | ((with_reducible refine Below.setCell ?_ ?_ _); rotate_left; (focus (first | (simp; done) | (simp; omega) | omega))) | ((with_reducible refine Below.alloc ?_ ?_ _); rotate_left; (focus (first | (simp; done) | (simp; omega) | omega))))))).mono ?_
  rintro e w1 ⟨rfl, hb1⟩
  obtain ⟨k1, k2, k3, hz1⟩ := box3 (w := w) hb1 rfl (by simp)
  have hy1 : w.heap.size < w1.heap.size := by omega
  have hx1 : w.heap.size + 1 < w1.heap.size := by omega
  have hB1 : Below w.heap.size w w1 := Below.trans (by repeat (first | (with_reducible exact Below.refl _ _) | (with_reducible apply Below.drew) | (with_reducible apply below_drewN) | ((with_reducible refine Below.setCell ?_ ?_ _); rotate_left; (focus (first | (simp; done) | (simp; omega) | omega))) | ((with_reducible refine Below.alloc ?_ ?_ _); rotate_left; (focus (first | (simp; done) | (simp; omega) | omega))))) (hb1.mono (by simp; omega))
  clear hb1
  have hsm := @validate_small ⟨now, ser, rs, ts⟩
  obtain ⟨p0, p1, p2, p3, p4, p5, p6, p7⟩ := Blk.four k1
  obtain ⟨q0, q1, q2, q3, q4, q5, q6, q7⟩ := Blk.four k2
  obtain ⟨r0, r1, r2, r3⟩ := Blk.two k3
  have K1 := Lib.hid k1; have K2 := Lib.hid k2; have K3 := Lib.hid k3
  clear k1 k2 k3
  generalize hf : validate ⟨now, ser, rs, ts⟩ = f at hsm ⊢
  obtain ⟨f1, f2⟩ := f
  dsimp only at hsm
  by_cases hc : f1 = 0
  rotate_left
  · have hq : (f1 != 0) = true := by simpa using hc
    have HF := Lib.hid (show nextM ⟨now, ser, rs, ts⟩ = (⟨0, 0, [], []⟩, (0, (f1, f2))) by simp [nextM, hf, hc])
    clear hc hf hsm
    go_wp2
    go_region
    go_wp2
    refine bodyPost_ret (v := .tuple #[.agg #[.int .i64 0, .int .i64 0, .slice none 0 0, .slice none 0 0], .int .i64 0, .agg #[.int .i64 f1, .int .i64 f2]]) (by simp [results, Try.results23, go_sem, q0, q1, q2, q3, r0, r1, hz1, hx1]) rfl ?_
    rw [HF.out]
    exact ⟨_, rfl, zero_ckat _ _, (by repeat (first | (with_reducible exact hB1) | (with_reducible exact Below.refl _ _) | (with_reducible apply Below.drew) | (with_reducible apply below_drewN) | ((with_reducible refine Below.setCell ?_ ?_ _); rotate_left; (focus (first | (simp; done) | (simp; omega) | omega))) | ((with_reducible refine Below.alloc ?_ ?_ _); rotate_left; (focus (first | (simp; done) | (simp; omega) | omega)))))⟩
  have hlen := hsm hc
  subst hc
  have HF := Lib.hid (show nextM ⟨now, ser, rs, ts⟩ = popM (fire ⟨now, ser, rs, ts⟩) by simp [nextM, hf])
  clear hsm hf
  have HC := Lib.hid (fun o : Obj => clone_any ⟨now, ser, rs, ts⟩ _ (w1.alloc o) ((Hv.out.below hB1).below ((Below.refl _ _).alloc (Nat.le_refl _) o)) (by dsimp only; omega))
  go_wp2_with fail
  refine (HC.out _).mono ?_
  rintro e w2 ⟨A1, c1, A2, c2, rfl, ho1, ho2, hb2⟩
  have hbB : Below (w.heap.size + 3) w1 w2 := Below.trans (by repeat (first | (with_reducible exact Below.refl _ _) | (with_reducible apply Below.drew) | (with_reducible apply below_drewN) | ((with_reducible refine Below.setCell ?_ ?_ _); rotate_left; (focus (first | (simp; done) | (simp; omega) | omega))) | ((with_reducible refine Below.alloc ?_ ?_ _); rotate_left; (focus (first | (simp; done) | (simp; omega) | omega))))) (hb2.mono (by first | (simp; done) | (simp; omega) | omega | (simp [World.setCell]; done) | (simp [World.setCell]; omega)))
  have hB2 : Below w.heap.size w w2 := hB1.trans (hbB.mono (by omega))
  have l1 : Blk w2 w.heap.size 25 _ := (hbB.block w.heap.size (by omega)).trans K1.out
  have l2 : Blk w2 (w.heap.size + 1) 25 _ := (hbB.block (w.heap.size + 1) (by omega)).trans K2.out
  have l3 : Blk w2 (w.heap.size + 2) 27 _ := (hbB.block (w.heap.size + 2) (by omega)).trans K3.out
  replace ho1 := own_mono (base' := w.heap.size + 3) ho1 (by first | (simp; done) | (simp; omega) | omega | (simp [World.setCell]; done) | (simp [World.setCell]; omega))
  replace ho2 := own_mono (base' := w.heap.size + 3) ho2 (by first | (simp; done) | (simp; omega) | omega | (simp [World.setCell]; done) | (simp [World.setCell]; omega))
  have hz2 : w.heap.size + 2 < w2.heap.size := Nat.lt_of_lt_of_le hz1 hbB.size
  clear p0 p1 p2 p3 p4 p5 p6 p7 q0 q1 q2 q3 q4 q5 q6 q7 r0 r1 r2 r3 hb2 hbB HC K1 K2 K3
  obtain ⟨p0, p1, p2, p3, p4, p5, p6, p7⟩ := l1.four
  have hy2 : w.heap.size < w2.heap.size := by omega
  have L1 := Lib.hid l1; have L2 := Lib.hid l2; have L3 := Lib.hid l3
  clear l1 l2 l3
  dsimp only
  go_upto_region 5 with (fail)
  have m1 := L1.out.set4 (.int .i64 now) (.int .i64 ser) (.slice A1 rs.length c1) (.slice A2 ts.length c2)
  have m2 := L2.out.far4 (g' := w.heap.size) (by omega) (.int .i64 now) (.int .i64 ser) (.slice A1 rs.length c1) (.slice A2 ts.length c2)
  have m3 := L3.out.far4 (g' := w.heap.size) (by omega) (.int .i64 now) (.int .i64 ser) (.slice A1 rs.length c1) (.slice A2 ts.length c2)
  have o1 := own_box4 (g := w.heap.size) ho1 (by omega) (.int .i64 now) (.int .i64 ser) (.slice A1 rs.length c1) (.slice A2 ts.length c2)
  have o2 := own_box4 (g := w.heap.size) ho2 (by omega) (.int .i64 now) (.int .i64 ser) (.slice A1 rs.length c1) (.slice A2 ts.length c2)
  have hB3 := below_box4 (g := w.heap.size) hB2 (Nat.le_refl _) (.int .i64 now) (.int .i64 ser) (.slice A1 rs.length c1) (.slice A2 ts.length c2)
  have hz3 : w.heap.size + 2 < ((((w2.setCell ⟨w.heap.size, 0, none⟩ (.int .i64 now)).setCell ⟨w.heap.size, 1, none⟩ (.int .i64 ser)).setCell ⟨w.heap.size, 2, none⟩ (.slice A1 rs.length c1)).setCell ⟨w.heap.size, 3, none⟩ (.slice A2 ts.length c2)).heap.size := by simp [World.setCell]; omega
  generalize ((((w2.setCell ⟨w.heap.size, 0, none⟩ (.int .i64 now)).setCell ⟨w.heap.size, 1, none⟩ (.int .i64 ser)).setCell ⟨w.heap.size, 2, none⟩ (.slice A1 rs.length c1)).setCell ⟨w.heap.size, 3, none⟩ (.slice A2 ts.length c2)) = w3 at *
  clear p0 p1 p2 p3 p4 p5 p6 p7 L1 L2 L3 ho1 ho2 hB2 hz2 hy2
  obtain ⟨p0, p1, p2, p3, p4, p5, p6, p7⟩ := m1.four
  obtain ⟨q0, q1, q2, q3, q4, q5, q6, q7⟩ := m2.four
  obtain ⟨r0, r1, r2, r3⟩ := m3.two
  have hcap1 : rs.length ≤ c1 := by obtain ⟨A', c', ev, h1, h2⟩ := own_form o1; injection ev with e1 e2 e3; omega
  have hcap2 : ts.length ≤ c2 := by obtain ⟨A', c', ev, h1, h2⟩ := own_form o2; injection ev with e1 e2 e3; omega
  by_cases hrs : rs = []
  rotate_left
  · obtain ⟨n, l, hnl⟩ : ∃ n l, rs = n :: l := by cases rs with | nil => exact absurd rfl hrs | cons n l => exact ⟨n, l, rfl⟩
    subst hnl
    clear hrs
    obtain ⟨b, o, hA, hb, hcell⟩ := (Rd.of_own o1).int (k := 0) (by simp)
    have hcut := (RdIn.of_own o1).cut (size := 1) (n := (n :: l).length) (k := 1) (cap := c1) (by simp [ints]) (by simp) hcap1
    subst hA
    have RT := Lib.hid (RdIn.of_own o2)
    have HCUT := Lib.hid (show RdIn w3 (w.heap.size + 3 ≤ ·) (if c1 = 1 then some ⟨b, o, none⟩ else some ⟨b, o + 1, none⟩) (ints l) by simpa [Addr.add, ints] using hcut)
    have HN := Lib.hid (show popM (fire ⟨now, ser, n :: l, ts⟩) = (⟨now, ser, l, ts⟩, (n, (0, 0))) by simp [popM, fire])
    have hcell' : w3.cell? ⟨b, o, none⟩ = some (.int .i64 n) := by simpa using hcell
    clear hcut m1 m2 m3 hcell o1 Hv hr
    simp only [List.length_cons] at *
    have hq : (((l.length + 1 : Nat) : Int) == 0) = false := by rw [beq_eq_false_iff_ne]; omega
    have hq' : (((l.length : Int) + 1) == 0) = false := by rw [beq_eq_false_iff_ne]; omega
    have i1 : (0 : Int) < (l.length : Int) + 1 := by omega
    have i2 : (1 : Int) ≤ (l.length : Int) + 1 := by omega
    have i3 : (1 : Int) ≤ (c1 : Int) := by omega
    by_cases hc1 : c1 = 1
    · subst hc1
      obtain rfl : l = [] := List.eq_nil_of_length_eq_zero (by omega)
      go_wp2
      refine bodyPost_ret (v := .tuple #[.agg #[.int .i64 now, .int .i64 ser, .slice (some ⟨b, o, none⟩) 0 0, .slice A2 ts.length c2], .int .i64 n, .agg #[.int .i64 0, .int .i64 0]]) (by simp [results, Try.results23, go_sem, q0, q1, q2, q3, r0, r1]) rfl ?_
      rw [HF.out, HN.out]
      refine ⟨_, rfl, CkIn.weaken (ok := (w.heap.size + 3 ≤ ·)) ?_ (fun b hb => Nat.le_trans (by omega) hb), (by repeat (first | (with_reducible exact hB3) | (with_reducible exact Below.refl _ _) | (with_reducible apply Below.drew) | (with_reducible apply below_drewN) | ((with_reducible refine Below.setCell ?_ ?_ _); rotate_left; (focus (first | (simp; done) | (simp; omega) | omega))) | ((with_reducible refine Below.alloc ?_ ?_ _); rotate_left; (focus (first | (simp; done) | (simp; omega) | omega)))))⟩
      repeat (refine CkIn.setCell ?_ (by simp; try omega) _)
      refine ⟨_, _, _, _, rfl, RdIn.nil, RT.out, by dsimp only; omega, hcap2, by dsimp only; omega, by dsimp only; omega⟩
    · go_wp2
      refine bodyPost_ret (v := .tuple #[.agg #[.int .i64 now, .int .i64 ser, .slice (some ⟨b, o + 1, none⟩) l.length (c1 - 1), .slice A2 ts.length c2], .int .i64 n, .agg #[.int .i64 0, .int .i64 0]]) (by simp [results, Try.results23, go_sem, q0, q1, q2, q3, r0, r1]) rfl ?_
      rw [HF.out, HN.out]
      refine ⟨_, rfl, CkIn.weaken (ok := (w.heap.size + 3 ≤ ·)) ?_ (fun b hb => Nat.le_trans (by omega) hb), (by repeat (first | (with_reducible exact hB3) | (with_reducible exact Below.refl _ _) | (with_reducible apply Below.drew) | (with_reducible apply below_drewN) | ((with_reducible refine Below.setCell ?_ ?_ _); rotate_left; (focus (first | (simp; done) | (simp; omega) | omega))) | ((with_reducible refine Below.alloc ?_ ?_ _); rotate_left; (focus (first | (simp; done) | (simp; omega) | omega)))))⟩
      repeat (refine CkIn.setCell ?_ (by simp; try omega) _)
      refine ⟨_, _, _, _, rfl, by simpa [hc1] using HCUT.out, RT.out, by dsimp only; omega, hcap2, by dsimp only; omega, by dsimp only; omega⟩
  subst hrs
  by_cases hts : ts = []
  · subst hts
    have HN := Lib.hid (show popM (fire ⟨now, ser, [], []⟩) = (⟨0, 0, [], []⟩, (0, (10, -1))) by simp [popM, fire])
    clear m1 m2 m3
    go_wp2
    refine bodyPost_ret (v := .tuple #[.agg #[.int .i64 0, .int .i64 0, .slice none 0 0, .slice none 0 0], .int .i64 0, .agg #[.int .i64 10, .int .i64 (-1)]]) (by simp [results, Try.results23, go_sem, q0, q1, q2, q3, r0, r1]) rfl ?_
    rw [HF.out, HN.out]
    exact ⟨_, rfl, zero_ckat _ _, (by repeat (first | (with_reducible exact hB3) | (with_reducible exact Below.refl _ _) | (with_reducible apply Below.drew) | (with_reducible apply below_drewN) | ((with_reducible refine Below.setCell ?_ ?_ _); rotate_left; (focus (first | (simp; done) | (simp; omega) | omega))) | ((with_reducible refine Below.alloc ?_ ?_ _); rotate_left; (focus (first | (simp; done) | (simp; omega) | omega)))))⟩
  have htpos : 0 < ts.length := List.length_pos_iff.2 hts
  obtain ⟨g2, o2', hA, hb, hc0, hc1, hc2⟩ := (Rd.of_own o2).tm htpos
  have hg2 : o2' = 0 := by
    rcases o2.2 with ⟨hv, h⟩ | ⟨g, cap, cur, hv, _⟩
    · injection hv with e1; rw [e1] at hA; cases hA
    · injection hv with e1; rw [e1] at hA; simp at hA; exact hA.2.symm
  subst hg2
  subst hA
  have HN := Lib.hid (show fire ⟨now, ser, [], ts⟩ = ⟨ts[0].at_, ser, (fireF ts.length ts[0].at_ [] ts).1, (fireF ts.length ts[0].at_ [] ts).2⟩ by
    cases ts with
    | nil => exact absurd rfl hts
    | cons t l => simp [fire])
  clear hts
  have i1 : (0 : Int) < (ts.length : Int) := by omega
  have hc0' : w3.cell? ⟨g2, 0, none⟩ = some (.int .i64 ts[0].at_) := by simpa using hc0
  have M := Lib.hid (And.intro m1 (And.intro m2 m3))
  clear m1 m2 m3 hc0 hc1 hc2
  go_upto_region 7 with (fail)
  obtain ⟨m1, m2, m3⟩ := M.out
  have n1 : Blk (w3.setCell ⟨w.heap.size, 0, none⟩ (.int .i64 ts[0].at_)) w.heap.size 25 #[.int .i64 ts[0].at_, .int .i64 ser, .slice A1 0 c1, .slice (some ⟨g2, 0, none⟩) ts.length c2] := by simpa using m1.set 0 (.int .i64 ts[0].at_)
  have n2 := m2.far (p := ⟨w.heap.size, 0, none⟩) (by simp) (.int .i64 ts[0].at_)
  have n3 := m3.far (p := ⟨w.heap.size, 0, none⟩) (by simp) (.int .i64 ts[0].at_)
  have o3 := own_box1 (g := w.heap.size) (i := 0) o1 (by omega) (.int .i64 ts[0].at_)
  have o4 := own_box1 (g := w.heap.size) (i := 0) o2 (by omega) (.int .i64 ts[0].at_)
  have hB4 : Below w.heap.size w (w3.setCell ⟨w.heap.size, 0, none⟩ (.int .i64 ts[0].at_)) := hB3.setCell (p := ⟨w.heap.size, 0, none⟩) (Nat.le_refl _) _
  generalize (w3.setCell ⟨w.heap.size, 0, none⟩ (.int .i64 ts[0].at_)) = w4 at *
  generalize hat : ts[0].at_ = at0 at *
  have HAT := Lib.hid hat
  clear hat p0 p1 p2 p3 p4 p5 p6 p7 q0 q1 q2 q3 q4 q5 q6 q7 r0 r1 r2 r3 M m1 m2 m3 o1 o2 hB3 hc0' hb hz3 hcap1 Hv hr
  simp only [List.length_nil] at *
  go_loopg [32] ts.length (fun gh _ wr => ∃ (k m : Nat) (A : Option Addr) (c : Nat) (B : Option Addr) (cc : Nat), m ≤ gh ∧ Hid (k + m = ts.length) ∧ (0 < m → B = some ⟨g2, k * 3, none⟩) ∧ m ≤ cc ∧ Hid (fireF ts.length at0 [] ts = fireF m at0 (queueT ts k) (ts.drop k)) ∧
      Blk wr w.heap.size 25 #[.int .i64 at0, .int .i64 ser, .slice A k c, .slice B m cc] ∧ Blk wr (w.heap.size + 1) 25 #[.int .i64 0, .int .i64 0, .slice none 0 0, .slice none 0 0] ∧ Blk wr (w.heap.size + 2) 27 #[.int .i64 0, .int .i64 0] ∧
      wr.ownsRow (w.heap.size + 3) 3 1 (.slice A k c) k (ints (queueT ts k)) ∧ wr.ownsRow (w.heap.size + 3) 46 3 (.slice (some ⟨g2, 0, none⟩) ts.length c2) ts.length (rows Tm.cells ts) ∧ Below w.heap.size w wr)
  case atStart => exact ⟨0, ts.length, A1, c1, _, c2, Nat.le_refl _, Lib.hid (by omega), fun _ => by simp, hcap2, Lib.hid rfl, n1, n2, n3, o3, o4, hB4⟩
  case round =>
    clear n1 n2 n3 o3 o4 hB4
    obtain ⟨k, m, A, c, B, cc, hgh, HKM, hB, hcc, HFI, n1, n2, n3, o3, o4, hBl⟩ := hrel
    obtain ⟨p0, p1, p2, p3, p4, p5, p6, p7⟩ := n1.four
    rcases Nat.eq_zero_or_pos m with hm0 | hmp
    · have hmz : decide (0 < m) = false := by simp; omega
      have HM0 := Lib.hid hm0; clear hm0
      have hk0 : 0 < k := by have := HKM.out; have := HM0.out; omega
      obtain ⟨kk, rfl⟩ : ∃ kk, k = kk + 1 := ⟨k - 1, by omega⟩
      obtain ⟨q, l, hql⟩ : ∃ q l, queueT ts (kk + 1) = q :: l := by
        have := queueT_length ts (kk + 1) (by have := HKM.out; omega)
        cases hq : queueT ts (kk + 1) with
        | nil => rw [queueT] at hq; rw [hq] at this; cases this
        | cons q l => exact ⟨q, l, rfl⟩
      have hll : l.length = kk := by
        have := queueT_length ts (kk + 1) (by have := HKM.out; omega)
        rw [← queueT, hql] at this; simpa using this
      have RB := Lib.hid (show RdIn wr (w.heap.size + 3 ≤ ·) B (rows Tm.cells (ts.drop (kk + 1))) by
        intro hn
        have hmp : 0 < m := by
          rw [rows_length Tm.cells_length, List.length_drop] at hn
          have := HKM.out; omega
        obtain ⟨b, o, e1, e2, e3, e4⟩ := RdIn.of_own o4 (by rw [rows_length Tm.cells_length]; omega)
        simp at e1
        obtain ⟨rfl, rfl⟩ := e1
        refine ⟨g2, (kk + 1) * 3, hB hmp, e2, e3, fun j u hu => ?_⟩
        have := e4 ((kk + 1) * 3 + j) u (by rw [rows_drop Tm.cells_length, List.getElem?_drop] at hu; exact hu)
        simpa using this)
      have hcapA : kk + 1 ≤ c := by obtain ⟨A', c', ev, h1, h2⟩ := own_form o3; injection ev with e1 e2 e3; omega
      rw [hql] at o3
      have HR := Lib.hid (show fireF ts.length at0 [] ts = (q :: l, ts.drop (kk + 1)) by rw [HFI.out, HM0.out, hql]; rfl)
      have HP := Lib.hid (show popM (fire ⟨now, ser, [], ts⟩) = (⟨at0, ser, l, ts.drop (kk + 1)⟩, (q, (0, 0))) by rw [HN.out, HR.out]; rfl)
      obtain ⟨gA, oA, hA, hbA, hcell⟩ := (Rd.of_own o3).int (k := 0) (by simp)
      have hcut := (RdIn.of_own o3).cut (size := 1) (n := (q :: l).length) (k := 1) (cap := c) (by simp [ints]) (by simp) (by simp; omega)
      subst hA
      have HCUT := Lib.hid (show RdIn wr (w.heap.size + 3 ≤ ·) (if c = 1 then some ⟨gA, oA, none⟩ else some ⟨gA, oA + 1, none⟩) (ints l) by simpa [Addr.add, ints] using hcut)
      have hcell' : wr.cell? ⟨gA, oA, none⟩ = some (.int .i64 q) := by simpa using hcell
      obtain ⟨s0, s1, s2, s3, s4, s5, s6, s7⟩ := n2.four
      obtain ⟨u0, u1, u2, u3⟩ := n3.two
      have HLL := Lib.hid hll; have HDL := Lib.hid (show (ts.drop (kk + 1)).length = m by rw [List.length_drop]; have := HKM.out; omega)
      have hml : m ≤ 1000 := by have := HKM.out; omega
      have hkl : kk ≤ 1000 := by have := HKM.out; omega
      clear hcut hcell hql hll o3 o4 n1 n2 n3
      have j1 : (((kk + 1 : Nat) : Int) == 0) = false := by rw [beq_eq_false_iff_ne]; omega
      have j2 : (((kk : Int) + 1) == 0) = false := by rw [beq_eq_false_iff_ne]; omega
      have j3 : (0 : Int) < (kk : Int) + 1 := by omega
      have j4 : (1 : Int) ≤ (kk : Int) + 1 := by omega
      have j5 : (1 : Int) ≤ (c : Int) := by omega
      by_cases hc1 : c = 1
      · subst hc1
        obtain rfl : kk = 0 := by omega
        obtain rfl : l = [] := List.eq_nil_of_length_eq_zero HLL.out
        go_wp2
        go_quiet (fail)
        go_wp2
        refine bodyPost_ret (v := .tuple #[.agg #[.int .i64 at0, .int .i64 ser, .slice (some ⟨gA, oA, none⟩) 0 0, .slice B m cc], .int .i64 q, .agg #[.int .i64 0, .int .i64 0]]) (by simp [results, Try.results23, go_sem, s0, s1, s2, s3, u0, u1]) rfl ?_
        rw [HF.out, HP.out]
        refine ⟨_, rfl, CkIn.weaken (ok := (w.heap.size + 3 ≤ ·)) ?_ (fun b hb => Nat.le_trans (by omega) hb), (by repeat (first | (with_reducible exact hBl) | (with_reducible exact Below.refl _ _) | (with_reducible apply Below.drew) | (with_reducible apply below_drewN) | ((with_reducible refine Below.setCell ?_ ?_ _); rotate_left; (focus (first | (simp; done) | (simp; omega) | omega))) | ((with_reducible refine Below.alloc ?_ ?_ _); rotate_left; (focus (first | (simp; done) | (simp; omega) | omega)))))⟩
        repeat (refine CkIn.setCell ?_ (by simp; try omega) _)
        exact ⟨some ⟨gA, oA, none⟩, 0, B, cc, by have h := HKM.out; simp; omega, RdIn.nil, RB.out, by simp, by dsimp only; rw [HDL.out]; exact hcc, by simp, by dsimp only; rw [HDL.out]; omega⟩
      · go_wp2
        go_quiet (fail)
        go_wp2
        refine bodyPost_ret (v := .tuple #[.agg #[.int .i64 at0, .int .i64 ser, .slice (some ⟨gA, oA + 1, none⟩) kk (c - 1), .slice B m cc], .int .i64 q, .agg #[.int .i64 0, .int .i64 0]]) (by simp [results, Try.results23, go_sem, s0, s1, s2, s3, u0, u1]) rfl ?_
        rw [HF.out, HP.out]
        refine ⟨_, rfl, CkIn.weaken (ok := (w.heap.size + 3 ≤ ·)) ?_ (fun b hb => Nat.le_trans (by omega) hb), (by repeat (first | (with_reducible exact hBl) | (with_reducible exact Below.refl _ _) | (with_reducible apply Below.drew) | (with_reducible apply below_drewN) | ((with_reducible refine Below.setCell ?_ ?_ _); rotate_left; (focus (first | (simp; done) | (simp; omega) | omega))) | ((with_reducible refine Below.alloc ?_ ?_ _); rotate_left; (focus (first | (simp; done) | (simp; omega) | omega)))))⟩
        repeat (refine CkIn.setCell ?_ (by simp; try omega) _)
        exact ⟨some ⟨gA, oA + 1, none⟩, c - 1, B, cc, by have h := HKM.out; have h2 := HLL.out; simp; omega, by (have h := HCUT.out; rw [if_neg hc1] at h; exact h), RB.out, by dsimp only; rw [HLL.out]; omega, by dsimp only; rw [HDL.out]; exact hcc, by dsimp only; rw [HLL.out]; omega, by dsimp only; rw [HDL.out]; omega⟩
    · have hk : k < ts.length := by have := HKM.out; omega
      obtain ⟨b, o, e1, hb, c0, c1', c2'⟩ := (Rd.of_own o4).tm hk
      simp only [Option.some.injEq, Addr.mk.injEq, and_true] at e1
      obtain ⟨rfl, rfl⟩ := e1
      simp only [Nat.zero_add] at c0 c1' c2'
      have hBe := hB hmp
      cases hx : (ts[k].at_ == at0)
      · have HMM := Lib.hid (show ∃ mm, m = mm + 1 from ⟨m - 1, by omega⟩)
        have hk0 : 0 < k := by rcases Nat.eq_zero_or_pos k with h0 | h0; (· subst h0; rw [HAT.out] at hx; simp at hx); (· exact h0)
        obtain ⟨kk, rfl⟩ : ∃ kk, k = kk + 1 := ⟨k - 1, by omega⟩
        subst hBe
        obtain ⟨q, l, hql⟩ : ∃ q l, queueT ts (kk + 1) = q :: l := by
          have := queueT_length ts (kk + 1) (by have := HKM.out; omega)
          cases hq : queueT ts (kk + 1) with
          | nil => rw [queueT] at hq; rw [hq] at this; cases this
          | cons q l => exact ⟨q, l, rfl⟩
        have hll : l.length = kk := by
          have := queueT_length ts (kk + 1) (by have := HKM.out; omega)
          rw [← queueT, hql] at this; simpa using this
        have RB := Lib.hid (show RdIn wr (w.heap.size + 3 ≤ ·) (some ⟨g2, (kk + 1) * 3, none⟩) (rows Tm.cells (ts.drop (kk + 1))) by
          intro hn
          have hmp : 0 < m := by
            rw [rows_length Tm.cells_length, List.length_drop] at hn
            have := HKM.out; omega
          obtain ⟨b, o, e1, e2, e3, e4⟩ := RdIn.of_own o4 (by rw [rows_length Tm.cells_length]; omega)
          simp at e1
          obtain ⟨rfl, rfl⟩ := e1
          refine ⟨g2, (kk + 1) * 3, hB hmp, e2, e3, fun j u hu => ?_⟩
          have := e4 ((kk + 1) * 3 + j) u (by rw [rows_drop Tm.cells_length, List.getElem?_drop] at hu; exact hu)
          simpa using this)
        have hcapA : kk + 1 ≤ c := by obtain ⟨A', c', ev, h1, h2⟩ := own_form o3; injection ev with e1 e2 e3; omega
        rw [hql] at o3
        have HR := Lib.hid (show fireF ts.length at0 [] ts = (q :: l, ts.drop (kk + 1)) by rw [HFI.out, ← hql]; obtain ⟨mm, rfl⟩ := HMM.out; exact fireF_miss ts at0 (kk + 1) _ hk hx)
        have HP := Lib.hid (show popM (fire ⟨now, ser, [], ts⟩) = (⟨at0, ser, l, ts.drop (kk + 1)⟩, (q, (0, 0))) by rw [HN.out, HR.out]; rfl)
        obtain ⟨gA, oA, hA, hbA, hcell⟩ := (Rd.of_own o3).int (k := 0) (by simp)
        have hcut := (RdIn.of_own o3).cut (size := 1) (n := (q :: l).length) (k := 1) (cap := c) (by simp [ints]) (by simp) (by simp; omega)
        subst hA
        have HCUT := Lib.hid (show RdIn wr (w.heap.size + 3 ≤ ·) (if c = 1 then some ⟨gA, oA, none⟩ else some ⟨gA, oA + 1, none⟩) (ints l) by simpa [Addr.add, ints] using hcut)
        have hcell' : wr.cell? ⟨gA, oA, none⟩ = some (.int .i64 q) := by simpa using hcell
        obtain ⟨s0, s1, s2, s3, s4, s5, s6, s7⟩ := n2.four
        obtain ⟨u0, u1, u2, u3⟩ := n3.two
        have HLL := Lib.hid hll; have HDL := Lib.hid (show (ts.drop (kk + 1)).length = m by rw [List.length_drop]; have := HKM.out; omega)
        have hml : m ≤ 1000 := by have := HKM.out; omega
        have hkl : kk ≤ 1000 := by have := HKM.out; omega
        clear hcut hcell hql hll o3 o4 n1 n2 n3
        have j1 : (((kk + 1 : Nat) : Int) == 0) = false := by rw [beq_eq_false_iff_ne]; omega
        have j2 : (((kk : Int) + 1) == 0) = false := by rw [beq_eq_false_iff_ne]; omega
        have j3 : (0 : Int) < (kk : Int) + 1 := by omega
        have j4 : (1 : Int) ≤ (kk : Int) + 1 := by omega
        have j5 : (1 : Int) ≤ (c : Int) := by omega
        by_cases hc1 : c = 1
        · subst hc1
          obtain rfl : kk = 0 := by omega
          obtain rfl : l = [] := List.eq_nil_of_length_eq_zero HLL.out
          go_wp2
          go_quiet (fail)
          go_wp2
          refine bodyPost_ret (v := .tuple #[.agg #[.int .i64 at0, .int .i64 ser, .slice (some ⟨gA, oA, none⟩) 0 0, .slice (some ⟨g2, 3, none⟩) m cc], .int .i64 q, .agg #[.int .i64 0, .int .i64 0]]) (by simp [results, Try.results23, go_sem, s0, s1, s2, s3, u0, u1]) rfl ?_
          rw [HF.out, HP.out]
          refine ⟨_, rfl, CkIn.weaken (ok := (w.heap.size + 3 ≤ ·)) ?_ (fun b hb => Nat.le_trans (by omega) hb), (by repeat (first | (with_reducible exact hBl) | (with_reducible exact Below.refl _ _) | (with_reducible apply Below.drew) | (with_reducible apply below_drewN) | ((with_reducible refine Below.setCell ?_ ?_ _); rotate_left; (focus (first | (simp; done) | (simp; omega) | omega))) | ((with_reducible refine Below.alloc ?_ ?_ _); rotate_left; (focus (first | (simp; done) | (simp; omega) | omega)))))⟩
          repeat (refine CkIn.setCell ?_ (by simp; try omega) _)
          exact ⟨some ⟨gA, oA, none⟩, 0, some ⟨g2, 3, none⟩, cc, by have h := HKM.out; simp; omega, RdIn.nil, RB.out, by simp, by dsimp only; rw [HDL.out]; exact hcc, by simp, by dsimp only; rw [HDL.out]; omega⟩
        · go_wp2
          go_quiet (fail)
          go_wp2
          refine bodyPost_ret (v := .tuple #[.agg #[.int .i64 at0, .int .i64 ser, .slice (some ⟨gA, oA + 1, none⟩) kk (c - 1), .slice (some ⟨g2, (kk + 1) * 3, none⟩) m cc], .int .i64 q, .agg #[.int .i64 0, .int .i64 0]]) (by simp [results, Try.results23, go_sem, s0, s1, s2, s3, u0, u1]) rfl ?_
          rw [HF.out, HP.out]
          refine ⟨_, rfl, CkIn.weaken (ok := (w.heap.size + 3 ≤ ·)) ?_ (fun b hb => Nat.le_trans (by omega) hb), (by repeat (first | (with_reducible exact hBl) | (with_reducible exact Below.refl _ _) | (with_reducible apply Below.drew) | (with_reducible apply below_drewN) | ((with_reducible refine Below.setCell ?_ ?_ _); rotate_left; (focus (first | (simp; done) | (simp; omega) | omega))) | ((with_reducible refine Below.alloc ?_ ?_ _); rotate_left; (focus (first | (simp; done) | (simp; omega) | omega)))))⟩
          repeat (refine CkIn.setCell ?_ (by simp; try omega) _)
          exact ⟨some ⟨gA, oA + 1, none⟩, c - 1, some ⟨g2, (kk + 1) * 3, none⟩, cc, by have h := HKM.out; have h2 := HLL.out; simp; omega, by (have h := HCUT.out; rw [if_neg hc1] at h; exact h), RB.out, by dsimp only; rw [HLL.out]; omega, by dsimp only; rw [HDL.out]; exact hcc, by dsimp only; rw [HLL.out]; omega, by dsimp only; rw [HDL.out]; omega⟩
      · subst hBe
        obtain ⟨mm, rfl⟩ : ∃ mm, m = mm + 1 := ⟨m - 1, by omega⟩
        have HNX := Lib.hid (fireF_hit ts at0 k mm hk hx)
        have hmi : (0 : Int) < (mm : Int) + 1 := by omega
        have hmi2 : (1 : Int) ≤ (mm : Int) + 1 := by omega
        have hcci : (1 : Int) ≤ (cc : Int) := by omega
        go_wp2
        go_quiet (fail)
        have hBq : Below w.heap.size w (wr.drewN nq) := below_drewN hBl _
        have n1q : Blk (wr.drewN nq) w.heap.size _ _ := n1
        have n2q : Blk (wr.drewN nq) (w.heap.size + 1) _ _ := n2
        have n3q : Blk (wr.drewN nq) (w.heap.size + 2) _ _ := n3
        have o3q : (wr.drewN nq).ownsRow _ _ _ _ _ _ := o3
        have o4q : (wr.drewN nq).ownsRow _ _ _ _ _ _ := o4
        have c2q : (wr.drewN nq).cell? ⟨g2, k * 3 + 2, none⟩ = some (.int .i64 ts[k].task) := c2'
        clear p0 p1 p2 p3 p4 p5 p6 p7 n1 n2 n3 o3 o4 hBl c0 c1' c2' hb
        generalize wr.drewN nq = wq at *
        obtain ⟨p0, p1, p2, p3, p4, p5, p6, p7⟩ := n1q.four
        have ow := Lib.hid (fun o => (o3q.drew).alloc o)
        have ow4 := Lib.hid (fun o => (o4q.drew).alloc o)
        have rd := Lib.hid (Rd.new' wq.drew 3 #[.int .i64 ts[k].task] wq.heap.size rfl)
        have N := Lib.hid (And.intro n1q (And.intro n2q n3q))
        have hwl := n3q.lt
        have hwy : w.heap.size < wq.heap.size := by omega
        have hne0 := Lib.hid (own_ne (g := w.heap.size) o3q (by omega))
        have hne1 := Lib.hid (own_ne (g := w.heap.size + 1) o3q (by omega))
        have hne2 := Lib.hid (own_ne (g := w.heap.size + 2) o3q (by omega))
        clear n1q n2q n3q
        go_wp2
        go_region_law (refine step_app (base := w.heap.size + 3) (A := A) (n := k) (c := c) (xs := ints (queueT ts k)) (B := some ⟨wq.heap.size, 0, none⟩) (m := 1) (d := 1) (news := [.int .i64 ts[k].task]) rfl st_int (.tmp 47) (.tmp 53) rfl (by simp [Act.eval, Act.put]) (ow.out _) (by simp [Act.eval, Act.put]) rd.out rfl (by simp [Value.oneCell']) (by unfold maxLen; omega) (by omega) (by simp; omega) ?_; intro A' c' w' hown hg hat; obtain ⟨s0, s1, s2, s3, s4, s5, s6, s7⟩ := Blk.four ((hg.block w.heap.size (by simp; omega) hne0.out).trans (N.out.1.alloc _)))
        all_goals
          have z1 : Blk w' w.heap.size 25 _ := (hg.block w.heap.size (by simp; omega) hne0.out).trans (N.out.1.alloc _)
          have z2 : Blk w' (w.heap.size + 1) 25 _ := (hg.block (w.heap.size + 1) (by simp; omega) hne1.out).trans (N.out.2.1.alloc _)
          have z3 : Blk w' (w.heap.size + 2) 27 _ := (hg.block (w.heap.size + 2) (by simp; omega) hne2.out).trans (N.out.2.2.alloc _)
          have o5 := own_other (ow4.out _) (ow.out _) (by decide) hg
          have hB5 : Below w.heap.size w w' := Below.app (hBq.drew.alloc (by simp; omega) _) (ow.out _) hg (by omega) (by simp; omega)
          clear hg hat N ow ow4 rd hne0 hne1 hne2 p0 p1 p2 p3 p4 p5 p6 p7
          by_cases hcc1 : cc = 1
          · subst hcc1
            obtain rfl : mm = 0 := by omega
            go_wp2
            go_roundg 0
            case measure => omega
            case rel =>
              refine ⟨k + 1, 0, A', c', some ⟨g2, k * 3, none⟩, 0, Nat.le_refl _, Lib.hid (by have := HKM.out; omega), fun h => by omega, by omega, Lib.hid (HFI.out.trans HNX.out), ?_, ?_, ?_, ?_, ?_, ?_⟩
              · simpa using (z1.set 2 (.slice A' (k + 1) c')).set 3 (.slice (some ⟨g2, k * 3, none⟩) 0 (0))
              · exact (z2.far (p := ⟨w.heap.size, 2, none⟩) (by simp) _).far (p := ⟨w.heap.size, 3, none⟩) (by simp) _
              · exact (z3.far (p := ⟨w.heap.size, 2, none⟩) (by simp) _).far (p := ⟨w.heap.size, 3, none⟩) (by simp) _
              · rw [queueT_succ ts k hk, ints_append]; exact own_box1 (own_box1 hown (by omega) _) (by omega) _
              · exact own_box1 (own_box1 o5 (by omega) _) (by omega) _
              · exact (by repeat (first | (with_reducible exact hB5) | (with_reducible exact Below.refl _ _) | (with_reducible apply Below.drew) | (with_reducible apply below_drewN) | ((with_reducible refine Below.setCell ?_ ?_ _); rotate_left; (focus (first | (simp; done) | (simp; omega) | omega))) | ((with_reducible refine Below.alloc ?_ ?_ _); rotate_left; (focus (first | (simp; done) | (simp; omega) | omega)))))
          · skip
            go_wp2
            go_roundg mm
            case measure => omega
            case rel =>
              refine ⟨k + 1, mm, A', c', some ⟨g2, k * 3 + 3, none⟩, cc - 1, Nat.le_refl _, Lib.hid (by have := HKM.out; omega), fun h => by rw [show k * 3 + 3 = (k + 1) * 3 by omega], by omega, Lib.hid (HFI.out.trans HNX.out), ?_, ?_, ?_, ?_, ?_, ?_⟩
              · simpa using (z1.set 2 (.slice A' (k + 1) c')).set 3 (.slice (some ⟨g2, k * 3 + 3, none⟩) mm (cc - 1))
              · exact (z2.far (p := ⟨w.heap.size, 2, none⟩) (by simp) _).far (p := ⟨w.heap.size, 3, none⟩) (by simp) _
              · exact (z3.far (p := ⟨w.heap.size, 2, none⟩) (by simp) _).far (p := ⟨w.heap.size, 3, none⟩) (by simp) _
              · rw [queueT_succ ts k hk, ints_append]; exact own_box1 (own_box1 hown (by omega) _) (by omega) _
              · exact own_box1 (own_box1 o5 (by omega) _) (by omega) _
              · exact (by repeat (first | (with_reducible exact hB5) | (with_reducible exact Below.refl _ _) | (with_reducible apply Below.drew) | (with_reducible apply below_drewN) | ((with_reducible refine Below.setCell ?_ ?_ _); rotate_left; (focus (first | (simp; done) | (simp; omega) | omega))) | ((with_reducible refine Below.alloc ?_ ?_ _); rotate_left; (focus (first | (simp; done) | (simp; omega) | omega)))))
end Go.Proofs.Ytgiebofmfkacgaa
namespace Go.Proofs.Ytgiebofmfkacgaa
open Go.RowKit

end Go.Proofs.Ytgiebofmfkacgaa
namespace Go.Proofs.Ytgiebofmfkacgaa
open Go.RowKit

/-- The queue and the rest, as Following gathers them. -/
def folF (a : Int) : List Int → List Tm → List Tm → List Int × List Tm
  | rs, acc, [] => (rs, acc)
  | rs, acc, t :: l => if t.at_ == a then folF a (rs ++ [t.task]) acc l else folF a rs (acc ++ [t]) l
def folC (c : Ck) : Ck := match c.rs, c.ts with
  | [], t :: l => ⟨t.at_, c.ser, (folF t.at_ [] [] (t :: l)).1, (folF t.at_ [] [] (t :: l)).2⟩
  | _, _ => c
def popF (c : Ck) : Ck × (Int × Bool) := match c.rs with
  | [] => (⟨0, 0, [], []⟩, (0, false))
  | n :: l => (⟨c.now, c.ser, l, c.ts⟩, (n, true))
def RetF (m : Ck × (Int × Bool)) (w : World) (e : Ending) (w' : World) : Prop := ∃ v, e = .returned (.tuple #[v, .int .i64 m.2.1, .bool m.2.2]) ∧ CkAt w' m.1 v ∧ Below w.heap.size w w'

/-- A queue that is empty or of the call's own. -/
def OwnQ (w : World) (base : Nat) (A : Option Addr) (c : Nat) (q : List Int) : Prop := (q = [] ∨ w.ownsRow base 3 1 (.slice A q.length c) q.length (ints q)) ∧ q.length ≤ c
section
variable {w w' : World} {base c : Nat} {A : Option Addr} {q : List Int}
theorem OwnQ.rd (h : OwnQ w base A c q) : Rd w A (ints q) := by
  rcases h.1 with rfl | h
  · exact Rd.nil
  · exact Rd.of_own h
theorem OwnQ.below (h : OwnQ w base A c q) (hb : Below w.heap.size w w') : OwnQ w' base A c q := ⟨h.1.imp id fun h => own_below h hb, h.2⟩
theorem OwnQ.box1 {g i : Nat} (h : OwnQ w base A c q) (hg : g < base) (x : Value) : OwnQ (w.setCell ⟨g, i, none⟩ x) base A c q := ⟨h.1.imp id fun h => own_box1 h hg x, h.2⟩
end
end Go.Proofs.Ytgiebofmfkacgaa
namespace Go.Proofs.Ytgiebofmfkacgaa
open Go.RowKit

abbrev vi (n : Int) : V := .int .i64 n
abbrev di (n : Int) : SV := .d (.u (.int .i64 n))
abbrev db (n : Bool) : SV := .d (.u (.bool n))
abbrev ivs (zs : List Int) : V := .sl 1 (zs.map fun n => [V.int .i64 n])
abbrev Tm.v (t : Tm) : List V := [.int .i64 t.at_, .int .i64 t.ser, .int .i64 t.task]
abbrev tvs (ts : List Tm) : V := .sl 3 (ts.map Tm.v)
abbrev Ck.d (c : Ck) : List D := [.u (.int .i64 c.now), .u (.int .i64 c.ser), .u (ivs c.rs), .u (tvs c.ts)]
abbrev fd (p : Int × Int) : List D := [.u (.int .i64 p.1), .u (.int .i64 p.2)]

theorem DenVL.cons {z : Fz} {x : V} {u : Value} {cs : List V} {us : List Value} (h : DenV z x u) (hs : DenVL z cs us) : DenVL z (x :: cs) (u :: us) := ⟨by simp [hs.len], by simp [h.one, hs.one], fun j d u' h1 h2 => by
  cases j with
  | zero => simp at h1 h2; subst h1 h2; exact h
  | succ j => exact hs.den j d u' (by simpa using h1) (by simpa using h2)⟩
theorem ints_den (z : Fz) : ∀ zs : List Int, DenVL z (zs.map fun n => [V.int .i64 n]).flatten (ints zs)
  | [] => .nil
  | n :: zs => .cons (.int _ _) (ints_den z zs)
theorem tms_den (z : Fz) : ∀ ts : List Tm, DenVL z (ts.map Tm.v).flatten (rows Tm.cells ts)
  | [] => .nil
  | t :: ts => by rw [rows_cons]; exact .cons (.int _ _) (.cons (.int _ _) (.cons (.int _ _) (tms_den z ts)))
theorem DenVL.int_inv {z : Fz} {k : IntKind} {n : Int} {cs : List V} {us : List Value} (h : DenVL z (.int k n :: cs) us) : ∃ us', us = .int k n :: us' ∧ DenVL z cs us' := by
  have hl := h.len
  cases us with
  | nil => simp at hl
  | cons u us =>
    have := h.den 0 _ u rfl rfl
    cases this
    exact ⟨us, rfl, ⟨by simpa using hl, by have := h.one; simp at this; simpa using this.2, fun j d v e1 e2 => h.den (j + 1) d v (by simpa using e1) (by simpa using e2)⟩⟩
theorem den_ints {z : Fz} : ∀ {zs : List Int} {us : List Value}, DenVL z (zs.map fun n => [V.int .i64 n]).flatten us → us = ints zs
  | [], us, h => by have := h.len; simp at this; subst this; rfl
  | n :: zs, us, h => by
    obtain ⟨us', rfl, h'⟩ := DenVL.int_inv (cs := (zs.map fun n => [V.int .i64 n]).flatten) h
    rw [den_ints h']; rfl
theorem den_tms {z : Fz} : ∀ {ts : List Tm} {us : List Value}, DenVL z (ts.map Tm.v).flatten us → us = rows Tm.cells ts
  | [], us, h => by have := h.len; simp at this; subst this; rfl
  | t :: ts, us, h => by
    obtain ⟨u1, rfl, h1⟩ := DenVL.int_inv (cs := .int .i64 t.ser :: .int .i64 t.task :: (ts.map Tm.v).flatten) h
    obtain ⟨u2, rfl, h2⟩ := h1.int_inv
    obtain ⟨u3, rfl, h3⟩ := h2.int_inv
    rw [den_tms h3, rows_cons]; rfl
/-- A clock that some machine could bear. -/
structure Small (c : Ck) : Prop where
  rs : c.rs.length ≤ 17592186043904
  ts : c.ts.length ≤ 17592186043904
theorem ck_den {w : World} {ok : Nat → Prop} {G : FG} {c : Ck} {v : Value} (h : CkIn w ok c v) (hG : ∀ b, ok b → b < w.heap.size → G b) (ρ : Rho) : DenS ρ ⟨G, w⟩ (.a c.d) v := by
  obtain ⟨RA, rc, TA, tc, rfl, h1, h2, h3, h4, h5, h6⟩ := h
  have e1 := rows_den (g := fun n : Int => [V.int .i64 n]) (xs := c.rs) (sz := 1) h1 hG (fun z => ints_den z _) (fun _ _ => rfl) (by omega) h3 (by unfold maxLen; omega)
  have e2 := rows_den (g := Tm.v) (xs := c.ts) (sz := 3) h2 hG (fun z => tms_den z _) (fun _ _ => rfl) (by omega) h4 (by unfold maxLen; omega)
  exact .a (us := [_, _, _, _]) (.cons (.u (.int _ _)) (.cons (.u (.int _ _)) (.cons (.u e1) (.cons (.u e2) .nil))))
theorem den_ck {w : World} {G : FG} {c : Ck} {v : Value} {ρ : Rho} (h : DenS ρ ⟨G, w⟩ (.a c.d) v) (hG : ∀ b, G b → b < w.heap.size) (hs : Small c) : CkAt w c v := by
  cases h with
  | @a _ us h =>
    have hl := h.len
    match us, hl with
    | [u0, u1, u2, u3], _ =>
      have d0 := h.den 0 _ _ rfl rfl
      have d1 := h.den 1 _ _ rfl rfl
      have d2 := h.den 2 _ _ rfl rfl
      have d3 := h.den 3 _ _ rfl rfl
      cases d0 with | u d0 => cases d0 with | int =>
      cases d1 with | u d1 => cases d1 with | int =>
      cases d2 with | u d2 =>
      cases d3 with | u d3 =>
      obtain ⟨RA, rc, rfl, r1, r2, _⟩ := den_rows (g := fun n : Int => [V.int .i64 n]) (xs := c.rs) (cs := ints c.rs) d2 hG (fun z us h => den_ints h)
      obtain ⟨TA, tc, rfl, t1, t2, _⟩ := den_rows (g := Tm.v) (xs := c.ts) (cs := rows Tm.cells c.ts) d3 hG (fun z us h => den_tms h)
      exact ⟨RA, rc, TA, tc, rfl, r1, t1, r2, t2, hs.rs, hs.ts⟩
theorem den_int {z : Fz} {ρ : Rho} {n : Int} {v : Value} (h : DenS ρ z (di n) v) : v = .int .i64 n := by
  cases h with | d h => cases h with | u h => cases h with | int => rfl
/-- Lists of arguments. -/
theorem args1 {ρ : Rho} {G : FG} {w : World} {s : SV} {vs : List Value} (h : ArgsAt ρ G w [s] vs) : ∃ v, vs = [v] ∧ DenS ρ ⟨G, w⟩ s v := by
  have hl := h.1
  match vs, hl with
  | [v], _ => exact ⟨v, rfl, h.2.1 0 s v rfl rfl⟩
theorem args2 {ρ : Rho} {G : FG} {w : World} {s t : SV} {vs : List Value} (h : ArgsAt ρ G w [s, t] vs) : ∃ v u, vs = [v, u] ∧ DenS ρ ⟨G, w⟩ s v ∧ DenS ρ ⟨G, w⟩ t u := by
  have hl := h.1
  match vs, hl with
  | [v, u], _ => exact ⟨v, u, rfl, h.2.1 0 s v rfl rfl, h.2.1 1 t u rfl rfl⟩
theorem args3 {ρ : Rho} {G : FG} {w : World} {s t r : SV} {vs : List Value} (h : ArgsAt ρ G w [s, t, r] vs) : ∃ v u x, vs = [v, u, x] ∧ DenS ρ ⟨G, w⟩ s v ∧ DenS ρ ⟨G, w⟩ t u ∧ DenS ρ ⟨G, w⟩ r x := by
  have hl := h.1
  match vs, hl with
  | [v, u, x], _ => exact ⟨v, u, x, rfl, h.2.1 0 s v rfl rfl, h.2.1 1 t u rfl rfl, h.2.1 2 r x rfl rfl⟩
end Go.Proofs.Ytgiebofmfkacgaa
namespace Go.Proofs.Ytgiebofmfkacgaa
open Go.RowKit

theorem flt_den (p : Int × Int) (ρ : Rho) (z : Fz) : DenS ρ z (.a (fd p)) (flt p) := .a (us := [_, _]) (.cons (.u (.int _ _)) (.cons (.u (.int _ _)) .nil))
theorem in_T (n lo hi : Int) : CallsA Try.prog 15 [di n, di lo, di hi] [] (Is (db (inB n lo hi))) :=
  callsA_flat ⟨_, _, Try.func15, rfl, rfl⟩ (fun _ _ => .d (.u (.bool _))) fun ρ G w vs h => by
    obtain ⟨v, u, x, rfl, h1, h2, h3⟩ := args3 h
    rw [den_int h1, den_int h2, den_int h3]
    exact (in_any n lo hi w).mono fun e w' ⟨h1, h2⟩ => ⟨h1, h2 ▸ Below.refl _ _⟩
theorem at_T (a b : Int) : CallsA Try.prog 16 [di a, di b] [] (Is (.a (fd (a, b)))) :=
  callsA_flat ⟨_, _, Try.func16, rfl, rfl⟩ (fun _ _ => flt_den (a, b) _ _) fun ρ G w vs h => by
    obtain ⟨v, u, rfl, h1, h2⟩ := args2 h
    rw [den_int h1, den_int h2]
    exact at_any a b w
theorem validate_T (c : Ck) (hs : Small c) : CallsA Try.prog 14 [.a c.d] [] (Is (.a (fd (validate c)))) :=
  callsA_flat ⟨_, _, Try.func14, rfl, rfl⟩ (fun _ _ => flt_den _ _ _) fun ρ G w vs h => by
    obtain ⟨v, rfl, h1⟩ := args1 h
    exact validate_any c v w (den_ck h1 h.2.2 hs)
theorem ck_fresh {w w' : World} {c : Ck} {v : Value} (h : CkIn w' (w.heap.size ≤ ·) c v) (ρ : Rho) {G : FG} (hG : ∀ b, w.heap.size ≤ b → b < w'.heap.size → G b) : DenC ρ ⟨G, w'⟩ (.a c.d) v := by
  cases ck_den h (G := G) hG ρ with | a hh => exact .a hh
theorem ready_T (c : Ck) (hs : Small c) (n : Int) : CallsA Try.prog 11 [.a c.d, di n] [] (Is (.t [.a (readyM c n).1.d, .a (fd (readyM c n).2)])) :=
  callsA_fresh ⟨_, _, Try.func11, rfl, rfl⟩ fun ρ G w vs h => by
    obtain ⟨v, u, rfl, h1, h2⟩ := args2 h
    rw [den_int h2]
    refine (ready_any c v n w (den_ck h1 h.2.2 hs)).mono ?_
    rintro e w' ⟨v', rfl, h3, h4⟩
    refine ⟨_, rfl, h4, fun ρ G hG => .t (vs := [v', flt (readyM c n).2]) rfl fun j s u e1 e2 => ?_⟩
    match j with
    | 0 => simp at e1 e2; subst e1 e2; exact ck_fresh h3 ρ hG
    | 1 => simp at e1 e2; subst e1 e2; cases flt_den (readyM c n).2 ρ ⟨G, w'⟩ with | a h => exact .a h
    | j + 2 => simp at e1
theorem sleep_T (c : Ck) (hs : Small c) (n d : Int) : CallsA Try.prog 12 [.a c.d, di n, di d] [] (Is (.t [.a (sleepM c n d).1.d, .a (fd (sleepM c n d).2)])) :=
  callsA_fresh ⟨_, _, Try.func12, rfl, rfl⟩ fun ρ G w vs h => by
    obtain ⟨v, u, x, rfl, h1, h2, h3⟩ := args3 h
    rw [den_int h2, den_int h3]
    refine (sleep_any c v n d w (den_ck h1 h.2.2 hs)).mono ?_
    rintro e w' ⟨v', rfl, h3, h4⟩
    refine ⟨_, rfl, h4, fun ρ G hG => .t (vs := [v', flt (sleepM c n d).2]) rfl fun j s u e1 e2 => ?_⟩
    match j with
    | 0 => simp at e1 e2; subst e1 e2; exact ck_fresh h3 ρ hG
    | 1 => simp at e1 e2; subst e1 e2; cases flt_den (sleepM c n d).2 ρ ⟨G, w'⟩ with | a h => exact .a h
    | j + 2 => simp at e1
theorem next_T (c : Ck) (hs : Small c) : CallsA Try.prog 23 [.a c.d] [] (Is (.t [.a (nextM c).1.d, .d (.u (.int .i64 (nextM c).2.1)), .a (fd (nextM c).2.2)])) :=
  callsA_fresh ⟨_, _, Try.func23, rfl, rfl⟩ fun ρ G w vs h => by
    obtain ⟨v, rfl, h1⟩ := args1 h
    refine (next_any c v w (den_ck h1 h.2.2 hs)).mono ?_
    rintro e w' ⟨v', rfl, h3, h4⟩
    refine ⟨_, rfl, h4, fun ρ G hG => .t (vs := [v', .int .i64 (nextM c).2.1, flt (nextM c).2.2]) rfl fun j s u e1 e2 => ?_⟩
    match j with
    | 0 => simp at e1 e2; subst e1 e2; exact ck_fresh h3 ρ hG
    | 1 => simp at e1 e2; subst e1 e2; exact .d (.u (.int _ _))
    | 2 => simp at e1 e2; subst e1 e2; cases flt_den (nextM c).2.2 ρ ⟨G, w'⟩ with | a h => exact .a h
    | j + 3 => simp at e1
end Go.Proofs.Ytgiebofmfkacgaa
namespace Go.Proofs.Ytgiebofmfkacgaa
open Go.RowKit

abbrev ck0 : List D := [.u (.int .i64 0), .u (.int .i64 0), .u .nl, .u .nl]
def wokenT (x : Int) (ts : List Tm) : List Tm := ts.filter (fun t => t.task != x)
def wokenM (c : Ck) (x : Int) : Ck := if has c.rs x then c else enq ⟨c.now, c.ser, c.rs, wokenT x c.ts⟩ x
theorem wokenT_len {x : Int} {ts : List Tm} : (wokenT x ts).length ≤ ts.length := List.length_filter_le _ _
end Go.Proofs.Ytgiebofmfkacgaa
namespace Go.Proofs.Ytgiebofmfkacgaa
open Go.RowKit

/-- A timer is put among others, as Slept does it. -/
def slpS (t : Tm) (p : List Tm × Bool) (x : Tm) : List Tm × Bool := if !p.2 && laterB x t then (p.1 ++ [t] ++ [x], true) else (p.1 ++ [x], p.2)
def slpA (t : Tm) (ts : List Tm) : List Tm × Bool := ts.foldl (slpS t) ([], false)
def sleptT (t : Tm) (ts : List Tm) : List Tm := if (slpA t ts).2 then (slpA t ts).1 else (slpA t ts).1 ++ [t]
def sleptM (c : Ck) (n d : Int) : Ck := if d = 0 then enq c n else ⟨c.now, c.ser + 1, c.rs, sleptT ⟨c.now + d, c.ser, n⟩ c.ts⟩
end Go.Proofs.Ytgiebofmfkacgaa
namespace Go.Proofs.Ytgiebofmfkacgaa

theorem has_append (xs ys : List Int) (x : Int) : has (xs ++ ys) x = (has xs x || has ys x) := by simp [has]
theorem has_tasks (ts : List Tm) (x : Int) : has (ts.map (·.task)) x = busyT ts x := by simp [has, busyT, List.any_map]; rfl
theorem busy_seen (rs : List Int) (ts : List Tm) (k : Nat) (x : Int) : busy rs (ts.take k) x = has (seenT rs ts k) x := by
  unfold busy seenT; rw [has_append, has_tasks, Bool.or_comm]
theorem orderI_lt (p t : Tm) : (0 ≤ orderI p t) ↔ laterB t p = false := by
  obtain ⟨p1, p2, p3⟩ := p
  obtain ⟨t1, t2, t3⟩ := t
  simp only [orderI, orI, cmpI, laterB]
  by_cases h1 : p1 < t1
  · simp [h1]
  · by_cases h2 : t1 < p1
    · have : ¬ t1 = p1 := by omega
      simp [h1, h2, this]
    · have e : t1 = p1 := by omega
      subst e
      by_cases h3 : p2 < t2
      · simp [h3]
      · by_cases h4 : t2 < p2 <;> simp [h3, h4] <;> omega
theorem code_eq (now ser : Int) (rs : List Int) (ts : List Tm) (k : Nat) (t : Tm) (hn : 0 ≤ now) :
    cfCode now ser rs (ts.take k) (prevT ts k) t = codeT now ser (prevT ts k) t (seenT rs ts k) := by
  unfold cfCode codeT
  rw [busy_seen]
  have e1 : inB t.at_ (now + 1) 1000000000000000 = (decide (now < t.at_) && timeB t.at_) := by
    unfold inB timeB
    by_cases a : now + 1 ≤ t.at_
    · have b : now < t.at_ := by omega
      have c : 0 ≤ t.at_ := by omega
      simp [a, b, c]
    · have b : ¬ now < t.at_ := by omega
      simp [a, b]
  have e2 : inB t.ser 0 (ser - 1) = (decide (0 ≤ t.ser) && decide (t.ser < ser)) := by
    unfold inB
    by_cases a : t.ser ≤ ser - 1
    · have b : t.ser < ser := by omega
      simp [a, b]
    · have b : ¬ t.ser < ser := by omega
      simp [a, b]
  have e3 : inB t.task 0 1000000000000000 = timeB t.task := rfl
  have e4 : cfOk now ser t = (timeB t.task && okT now ser t) := by
    unfold cfOk okT; rw [e1, e2, e3]; simp [Bool.and_assoc]
  rw [e4]
  have e5 : freshC t.task (seenT rs ts k) = if timeB t.task then (if has (seenT rs ts k) t.task then 8 else 0) else 4 := rfl
  rw [e5]
  cases okT now ser t <;> cases timeB t.task <;> cases has (seenT rs ts k) t.task <;> simp
  cases prevT ts k with
  | none => rfl
  | some p =>
    have := orderI_lt p t
    cases hl : laterB t p <;> simp [hl] at this ⊢ <;> omega
theorem cfT_eq (now ser : Int) (rs : List Int) (ts : List Tm) (hn : 0 ≤ now) : ∀ (d k : Nat), k + d = ts.length → cfT now ser rs ts (ts.drop k) k = valT now ser (prevT ts k) (ts.drop k) k (seenT rs ts k)
  | 0, k, h => by rw [List.drop_eq_nil_of_le (by omega)]; rfl
  | d + 1, k, h => by
    rw [cfT_step now ser ts rs k (by omega), valT_step now ser ts rs k (by omega), code_eq now ser rs ts k _ hn, cfT_eq now ser rs ts hn d (k + 1) (by omega)]
theorem cfR_eq (now ser : Int) (rs : List Int) (ts : List Tm) (hn : 0 ≤ now) : ∀ (d k : Nat), k + d = rs.length → cfR now ser ts rs (rs.drop k) k = valR now ser ts (rs.drop k) k (rs.take k)
  | 0, k, h => by
    have h1 := cfT_eq now ser rs ts hn ts.length 0 (by omega)
    rw [List.drop_eq_nil_of_le (by omega), List.take_of_length_le (by omega)]
    simp only [cfR, valR]
    simpa [prevT, seenT] using h1
  | d + 1, k, h => by
    rw [cfR_step now ser ts rs k (by omega), valR_step now ser ts rs k (by omega), cfR_eq now ser rs ts hn d (k + 1) (by omega)]; rfl
theorem fault_eq (c : Ck) : clockFault c = validate c := by
  unfold clockFault validate
  have e1 : inB c.now 0 1000000000000000 = timeB c.now := rfl
  have e2 : inB c.ser 0 1000000000000000 = timeB c.ser := rfl
  rw [e1, e2]
  split
  · rename_i h
    split
    · rfl
    · have hn : 0 ≤ c.now := by
        simp at h
        exact (timeB_le h.1).1
      simpa using cfR_eq c.now c.ser c.rs c.ts hn c.rs.length 0 (by omega)
  · rfl

/-! What a valid clock is -/
structure Valid (c : Ck) : Prop where
  now : timeB c.now = true
  ser : timeB c.ser = true
  len : c.rs.length + c.ts.length ≤ 1000
  tasks : ∀ x ∈ c.rs ++ c.ts.map (·.task), timeB x = true
  nodup : (c.rs ++ c.ts.map (·.task)).Nodup
  times : ∀ t ∈ c.ts, okT c.now c.ser t = true
  sorted : c.ts.Pairwise (fun p t => laterB t p = true)
end Go.Proofs.Ytgiebofmfkacgaa
namespace Go.Proofs.Ytgiebofmfkacgaa

def Fresh (l seen : List Int) : Prop := l.Nodup ∧ (∀ x ∈ l, x ∉ seen) ∧ ∀ x ∈ l, timeB x = true
theorem has_iff (l : List Int) (x : Int) : has l x = true ↔ x ∈ l := by simp [has]
theorem has_false_iff (l : List Int) (x : Int) : has l x = false ↔ x ∉ l := by rw [← has_iff]; simp
theorem freshC_iff (n : Int) (seen : List Int) : freshC n seen = 0 ↔ timeB n = true ∧ n ∉ seen := by
  unfold freshC
  rw [← has_false_iff]
  cases timeB n <;> cases has seen n <;> simp
theorem fresh_cons (n : Int) (l seen : List Int) : Fresh (n :: l) seen ↔ (timeB n = true ∧ n ∉ seen) ∧ Fresh l (seen ++ [n]) := by
  unfold Fresh
  simp only [List.nodup_cons, List.mem_cons, List.mem_append, List.not_mem_nil, or_false, not_or, forall_eq_or_imp]
  constructor
  · rintro ⟨⟨h1, h2⟩, ⟨h3, h4⟩, h5, h6⟩
    exact ⟨⟨h5, h3⟩, h2, fun x hx => ⟨h4 x hx, fun e => h1 (e ▸ hx)⟩, h6⟩
  · rintro ⟨⟨h5, h3⟩, h2, h4, h6⟩
    exact ⟨⟨fun h => (h4 n h).2 rfl, h2⟩, ⟨h3, fun x hx => (h4 x hx).1⟩, h5, h6⟩
def Later (p t : Tm) : Prop := laterB t p = true
theorem later_iff (p t : Tm) : Later p t ↔ p.at_ < t.at_ ∨ (t.at_ = p.at_ ∧ p.ser < t.ser) := by simp [Later, laterB]
theorem later_trans {a b c : Tm} (h : Later a b) (k : Later b c) : Later a c := by
  rw [later_iff] at *; omega
theorem codeT_iff (now ser : Int) (prev : Option Tm) (t : Tm) (seen : List Int) :
    codeT now ser prev t seen = 0 ↔ okT now ser t = true ∧ (timeB t.task = true ∧ t.task ∉ seen) ∧ ∀ p, prev = some p → Later p t := by
  unfold codeT
  rw [← freshC_iff]
  cases h1 : okT now ser t
  · simp
  · by_cases h2 : freshC t.task seen = 0
    · simp only [h2, if_true, true_and]
      cases prev with
      | none => simp
      | some p =>
        have := orderI_lt p t
        simp only [Option.some.injEq, forall_eq']
        unfold Later
        cases hl : laterB t p <;> simp [hl] at this ⊢ <;> omega
    · simp [h2]
theorem valT_ok (now ser : Int) : ∀ (l : List Tm) (prev : Option Tm) (k : Nat) (seen : List Int),
    (valT now ser prev l k seen).1 = 0 ↔ (∀ t ∈ l, okT now ser t = true) ∧ Fresh (l.map (·.task)) seen ∧ (∀ p, prev = some p → ∀ t ∈ l, Later p t) ∧ l.Pairwise Later
  | [], prev, k, seen => by simp [valT, Fresh]
  | t :: l, prev, k, seen => by
    simp only [valT]
    by_cases h : codeT now ser prev t seen = 0
    · rw [if_pos h, valT_ok now ser l (some t) (k + 1) (seen ++ [t.task])]
      rw [codeT_iff] at h
      obtain ⟨a1, a2, a3⟩ := h
      simp only [List.mem_cons, forall_eq_or_imp, List.map_cons, fresh_cons, List.pairwise_cons, Option.some.injEq, forall_eq']
      constructor
      · rintro ⟨b1, b2, b3, b4⟩
        exact ⟨⟨a1, b1⟩, ⟨a2, b2⟩, fun p hp => ⟨a3 p hp, fun x hx => later_trans (a3 p hp) (b3 x hx)⟩, b3, b4⟩
      · rintro ⟨⟨_, b1⟩, ⟨_, b2⟩, _, b3, b4⟩
        exact ⟨b1, b2, b3, b4⟩
    · rw [if_neg h]
      simp only [h, false_iff]
      rintro ⟨b1, b2, b3, b4⟩
      apply h
      rw [codeT_iff]
      simp only [List.map_cons, fresh_cons] at b2
      exact ⟨b1 t (by simp), b2.1, fun p hp => b3 p hp t (by simp)⟩
theorem valR_ok (now ser : Int) (ts : List Tm) : ∀ (l : List Int) (k : Nat) (seen : List Int),
    (valR now ser ts l k seen).1 = 0 ↔ Fresh l seen ∧ (valT now ser none ts 0 (seen ++ l)).1 = 0
  | [], k, seen => by simp [valR, Fresh]
  | n :: l, k, seen => by
    simp only [valR]
    by_cases h : freshC n seen = 0
    · rw [if_pos h, valR_ok now ser ts l (k + 1) (seen ++ [n]), fresh_cons]
      rw [freshC_iff] at h
      simp only [h, true_and, List.append_assoc, List.cons_append, List.nil_append, not_false_eq_true, and_self]
    · rw [if_neg h]
      simp only [h, false_iff, fresh_cons]
      rintro ⟨⟨b1, _⟩, _⟩
      exact h ((freshC_iff n seen).2 b1)
theorem valid_iff (c : Ck) : (validate c).1 = 0 ↔ Valid c := by
  unfold validate
  cases h1 : timeB c.now
  · simp; intro hv; have := hv.now; rw [h1] at this; cases this
  cases h2 : timeB c.ser
  · simp; intro hv; have := hv.ser; rw [h2] at this; cases this
  simp only [Bool.and_self, if_true]
  by_cases h3 : 1000 < c.rs.length + c.ts.length
  · simp [h3]; intro hv; have := hv.len; omega
  rw [if_neg h3, valR_ok, valT_ok]
  simp only [List.nil_append]
  constructor
  · rintro ⟨⟨a1, a2, a3⟩, b1, ⟨b2, b3, b4⟩, _, b5⟩
    refine ⟨h1, h2, by omega, ?_, ?_, b1, b5⟩
    · intro x hx
      rcases List.mem_append.1 hx with h | h
      · exact a3 x h
      · exact b4 x h
    · rw [List.nodup_append]
      exact ⟨a1, b2, fun x hx y hy e => b3 y hy (e ▸ hx)⟩
  · intro hv
    have hn := hv.nodup
    rw [List.nodup_append] at hn
    exact ⟨⟨hn.1, by simp, fun x hx => hv.tasks x (List.mem_append.2 (.inl hx))⟩, hv.times, ⟨hn.2.1, fun x hx h => hn.2.2 x h x hx rfl, fun x hx => hv.tasks x (List.mem_append.2 (.inr hx))⟩, by simp, hv.sorted⟩
end Go.Proofs.Ytgiebofmfkacgaa
namespace Go.Proofs.Ytgiebofmfkacgaa

theorem fireF_spec (now : Int) : ∀ (ts : List Tm) (f : Nat) (rs : List Int), ts.length ≤ f → fireF f now rs ts = (rs ++ (ts.takeWhile (·.at_ == now)).map (·.task), ts.dropWhile (·.at_ == now))
  | [], 0, rs, _ => by simp [fireF]
  | [], f + 1, rs, _ => by simp [fireF]
  | t :: ts, 0, rs, h => by simp at h
  | t :: ts, f + 1, rs, h => by
    simp only [fireF]
    cases hx : (t.at_ == now)
    · simp [hx]
    · simp only [if_true]
      rw [fireF_spec now ts f _ (by simp at h; omega)]
      simp [hx]
/-- The tasks of a clock, each with its time. -/
def due (c : Ck) : List (Int × Int) := c.rs.map (fun r => (r, c.now)) ++ c.ts.map (fun t => (t.task, t.at_))
theorem fire_cons (now ser : Int) (t : Tm) (l : List Tm) : fire ⟨now, ser, [], t :: l⟩ = ⟨t.at_, ser, ((t :: l).takeWhile (·.at_ == t.at_)).map (·.task), (t :: l).dropWhile (·.at_ == t.at_)⟩ := by
  simp only [fire]
  rw [fireF_spec t.at_ (t :: l) (t :: l).length [] (Nat.le_refl _)]
  rfl
theorem fire_rs (c : Ck) (h : c.rs ≠ []) : fire c = c := by
  obtain ⟨now, ser, rs, ts⟩ := c
  cases rs with
  | nil => exact absurd rfl h
  | cons n l => simp [fire]
theorem takeWhile_at (a : Int) : ∀ l : List Tm, (l.takeWhile (·.at_ == a)).map (fun t => (t.task, a)) = (l.takeWhile (·.at_ == a)).map (fun t => (t.task, t.at_))
  | [] => rfl
  | x :: l => by
    cases hx : (x.at_ == a)
    · simp [hx]
    · have e : x.at_ = a := by simpa using hx
      have ih := takeWhile_at a l
      simp [e]
      simpa using ih
theorem due_fire (c : Ck) : due (fire c) = due c := by
  obtain ⟨now, ser, rs, ts⟩ := c
  cases rs with
  | cons n l => rw [fire_rs _ (by simp)]
  | nil =>
    cases ts with
    | nil => rfl
    | cons t l =>
      rw [fire_cons]
      simp only [due, List.map_map, List.map_nil, List.nil_append]
      have h := takeWhile_at t.at_ (t :: l)
      have : (List.map ((fun r => (r, t.at_)) ∘ fun x => x.task) ((t :: l).takeWhile (·.at_ == t.at_))) = ((t :: l).takeWhile (·.at_ == t.at_)).map (fun t => (t.task, t.at_)) := h
      rw [this, ← List.map_append, List.takeWhile_append_dropWhile]
theorem tasks_fire (c : Ck) : (fire c).rs ++ (fire c).ts.map (·.task) = c.rs ++ c.ts.map (·.task) := by
  obtain ⟨now, ser, rs, ts⟩ := c
  cases rs with
  | cons n l => rw [fire_rs _ (by simp)]
  | nil =>
    cases ts with
    | nil => rfl
    | cons t l => rw [fire_cons]; simp only [List.nil_append]; rw [← List.map_append, List.takeWhile_append_dropWhile]
theorem dropWhile_gt (a : Int) : ∀ l : List Tm, l.Pairwise Later → (∀ x ∈ l, a ≤ x.at_) → ∀ u ∈ l.dropWhile (·.at_ == a), a < u.at_
  | [], _, _, u, hu => by simp at hu
  | x :: l, hp, ha, u, hu => by
    rw [List.pairwise_cons] at hp
    cases hx : (x.at_ == a)
    · have hne : ¬ x.at_ = a := by simpa using hx
      have h1 := ha x (by simp)
      simp only [List.dropWhile_cons, hx, Bool.false_eq_true, if_false, List.mem_cons] at hu
      rcases hu with rfl | hu
      · omega
      · have := (later_iff x u).1 (hp.1 u hu); omega
    · simp only [List.dropWhile_cons, hx, if_true] at hu
      exact dropWhile_gt a l hp.2 (fun y hy => ha y (by simp [hy])) u hu
theorem okT_iff (now ser : Int) (t : Tm) : okT now ser t = true ↔ now < t.at_ ∧ timeB t.at_ = true ∧ 0 ≤ t.ser ∧ t.ser < ser := by simp [okT]
theorem fire_valid {c : Ck} (h : Valid c) : Valid (fire c) := by
  obtain ⟨now, ser, rs, ts⟩ := c
  cases rs with
  | cons n l => rw [fire_rs _ (by simp)]; exact h
  | nil =>
    cases ts with
    | nil => exact h
    | cons t l =>
      have ht := tasks_fire ⟨now, ser, [], t :: l⟩
      rw [fire_cons] at ht ⊢
      have hsort := h.sorted
      have hge : ∀ x ∈ t :: l, t.at_ ≤ x.at_ := by
        intro x hx
        rcases List.mem_cons.1 hx with rfl | hx
        · exact Int.le_refl _
        · have := (later_iff t x).1 ((List.pairwise_cons.1 hsort).1 x hx); omega
      refine ⟨((okT_iff _ _ _).1 (h.times t (by simp))).2.1, h.ser, ?_, ?_, ?_, ?_, ?_⟩
      · have h1 := congrArg List.length ht
        have h2 := h.len
        simp only [List.length_append, List.length_map] at h1 h2 ⊢
        simp at h1 h2 ⊢
        omega
      · rw [ht]; exact h.tasks
      · rw [ht]; exact h.nodup
      · intro u hu
        dsimp only at hu
        have hm : u ∈ t :: l := (List.dropWhile_sublist _).subset hu
        have h1 := (okT_iff _ _ _).1 (h.times u hm)
        exact (okT_iff _ _ _).2 ⟨dropWhile_gt t.at_ (t :: l) hsort hge u hu, h1.2⟩
      · exact hsort.sublist (List.dropWhile_sublist _)
theorem fire_now {c : Ck} (h : Valid c) : c.now ≤ (fire c).now := by
  obtain ⟨now, ser, rs, ts⟩ := c
  cases rs with
  | cons n l => rw [fire_rs _ (by simp)]; exact Int.le_refl _
  | nil =>
    cases ts with
    | nil => exact Int.le_refl _
    | cons t l =>
      rw [fire_cons]
      have := ((okT_iff _ _ _).1 (h.times t (by simp))).1
      dsimp only at this ⊢; omega
theorem fire_empty {c : Ck} (h : (fire c).rs = []) : c.rs = [] ∧ c.ts = [] := by
  obtain ⟨now, ser, rs, ts⟩ := c
  cases rs with
  | cons n l => rw [fire_rs _ (by simp)] at h; cases h
  | nil =>
    cases ts with
    | nil => exact ⟨rfl, rfl⟩
    | cons t l => rw [fire_cons] at h; simp at h
theorem pop_valid {now ser n : Int} {l : List Int} {ts : List Tm} (h : Valid ⟨now, ser, n :: l, ts⟩) : Valid ⟨now, ser, l, ts⟩ := by
  refine ⟨h.now, h.ser, ?_, ?_, ?_, h.times, h.sorted⟩
  · have := h.len; simp at this ⊢; omega
  · intro x hx; exact h.tasks x (by simp at hx ⊢; rcases hx with h | h <;> simp [h])
  · have := h.nodup
    simp only [List.cons_append, List.nodup_cons] at this
    exact this.2
/-- What Next gives of a valid clock. -/
theorem next_spec {c : Ck} (h : Valid c) : (due c = [] ∧ nextM c = (⟨0, 0, [], []⟩, (0, (10, -1)))) ∨
    ∃ n a rest c', due c = (n, a) :: rest ∧ nextM c = (c', (n, (0, 0))) ∧ c'.now = a ∧ due c' = rest ∧ Valid c' ∧ c.now ≤ a := by
  have hn : nextM c = popM (fire c) := by unfold nextM; rw [if_pos ((valid_iff c).2 h)]
  have hf := fire_valid h
  have hd := due_fire c
  have hw := fire_now h
  cases hr : (fire c).rs with
  | nil =>
    obtain ⟨h1, h2⟩ := fire_empty hr
    left
    exact ⟨by simp [due, h1, h2], by rw [hn]; simp [popM, hr]⟩
  | cons n l =>
    right
    generalize fire c = d at *
    obtain ⟨now, ser, rs, ts⟩ := d
    dsimp only at hr hw
    subst hr
    exact ⟨n, now, due ⟨now, ser, l, ts⟩, ⟨now, ser, l, ts⟩, by rw [← hd]; rfl, by rw [hn]; rfl, rfl, rfl, pop_valid hf, hw⟩
end Go.Proofs.Ytgiebofmfkacgaa
namespace Go.Proofs.Ytgiebofmfkacgaa
open Go.RowKit

theorem cf_valid {c : Ck} (h : (clockFault c).1 = 0) : Valid c := (valid_iff c).1 (by rw [← fault_eq]; exact h)
end Go.Proofs.Ytgiebofmfkacgaa
namespace Go.Proofs.Ytgiebofmfkacgaa
open Go.RowKit

theorem slpA_placed (t : Tm) : ∀ (l acc : List Tm), l.foldl (slpS t) (acc, true) = (acc ++ l, true)
  | [], acc => by simp
  | x :: l, acc => by
    have : slpS t (acc, true) x = (acc ++ [x], true) := by simp [slpS]
    rw [List.foldl_cons, this, slpA_placed t l]; simp
theorem slpA_open (t : Tm) : ∀ (l acc : List Tm), l.foldl (slpS t) (acc, false) = (if l.any (fun x => laterB x t) then (acc ++ l.takeWhile (fun x => !laterB x t) ++ t :: l.dropWhile (fun x => !laterB x t), true) else (acc ++ l, false))
  | [], acc => by simp
  | x :: l, acc => by
    rw [List.foldl_cons]
    by_cases h : laterB x t
    · have : slpS t (acc, false) x = (acc ++ [t] ++ [x], true) := by simp [slpS, h]
      rw [this, slpA_placed]
      simp [h]
    · have : slpS t (acc, false) x = (acc ++ [x], false) := by simp [slpS, h]
      rw [this, slpA_open t l]
      simp [h]
theorem while_all {α : Type} {p : α → Bool} : ∀ {l : List α}, (∀ x ∈ l, p x = true) → l.takeWhile p = l ∧ l.dropWhile p = []
  | [], _ => by simp
  | x :: l, h => by
    have := while_all (l := l) fun y hy => h y (List.mem_cons_of_mem _ hy)
    simp [h x List.mem_cons_self, this.1, this.2]
theorem sleptT_eq (t : Tm) (ts : List Tm) : sleptT t ts = ts.takeWhile (fun x => !laterB x t) ++ t :: ts.dropWhile (fun x => !laterB x t) := by
  unfold sleptT slpA
  rw [slpA_open]
  by_cases h : ts.any (fun x => laterB x t)
  · simp [h]
  · have h' : ∀ x ∈ ts, (!laterB x t) = true := by simpa using h
    rw [if_neg h]
    simp only [Bool.false_eq_true, if_false, List.nil_append]
    obtain ⟨e1, e2⟩ := while_all h'
    rw [e1, e2]
theorem while_at {α : Type} {p : α → Bool} : ∀ {l : List α} {i : Nat}, i ≤ l.length → (∀ a (h : a < l.length), a < i → p l[a] = true) → (∀ (h : i < l.length), p l[i] = false) → l.takeWhile p = l.take i ∧ l.dropWhile p = l.drop i
  | [], i, hi, _, _ => by simp at hi; subst hi; simp
  | x :: l, 0, hi, _, h2 => by have := h2 (by simp); simp at this; simp [this]
  | x :: l, i + 1, hi, h1, h2 => by
    have hx := h1 0 (by simp) (by omega)
    simp only [List.getElem_cons_zero] at hx
    have := while_at (l := l) (i := i) (by simpa using hi) (fun a h ha => by have := h1 (a + 1) (by simpa using h) (by omega); simpa using this) (fun h => by have := h2 (by simpa using h); simpa using this)
    simp [hx, this.1, this.2]
theorem ins_slept {ts : List Tm} {t : Tm} (hs : ts.Pairwise Later) (ht : ∀ x ∈ ts, x.ser < t.ser) : insT ts (bsf ts t) t = sleptT t ts := by
  have hb : ∀ a (h : a < ts.length), before ts t a = !laterB ts[a] t := fun a h => by
    simp only [before, List.getElem?_eq_getElem h]
    have hx := ht ts[a] (List.getElem_mem h)
    generalize ts[a] = x at *
    obtain ⟨x1, x2, x3⟩ := x
    obtain ⟨t1, t2, t3⟩ := t
    simp only [orderI, orI, cmpI, laterB] at *
    by_cases h1 : x1 < t1
    · have : ¬ t1 < x1 := by omega
      have : ¬ x1 = t1 := by omega
      simp [*]
    · by_cases h2 : t1 < x1
      · simp [h1, h2]
      · have : x1 = t1 := by omega
        subst this
        have : ¬ t2 < x2 := by omega
        simp [*]
  have hmono : ∀ a b, a < b → b < ts.length → before ts t b = true → before ts t a = true := fun a b hab hbl h => by
    rw [hb b hbl] at h
    rw [hb a (by omega)]
    have hl : Later ts[a] ts[b] := List.pairwise_iff_getElem.1 hs a b (by omega) hbl hab
    have h' : laterB ts[b] t = false := by simpa using h
    cases hq : laterB ts[a] t
    · rfl
    · have : laterB ts[b] t = true := later_trans (a := t) (b := ts[a]) (c := ts[b]) hq hl
      rw [this] at h'; cases h'
  obtain ⟨q1, q2, q3, q4⟩ := bs_spec (before ts t) ts.length hmono (ts.length - 0) 0 ts.length (Nat.le_refl _) (Nat.zero_le _) (Nat.le_refl _)
  rw [sleptT_eq, insT]
  obtain ⟨w1, w2⟩ := while_at (p := fun x => !laterB x t) (l := ts) (i := bsf ts t) q2 (fun a h ha => by rw [← hb a h]; exact q3 a (Nat.zero_le _) ha) (fun h => by rw [← hb _ h]; exact q4 _ (Nat.le_refl _) h)
  rw [w1, w2]
theorem ready_small (c : Ck) (n : Int) : Small (readyM c n).1 := by
  unfold readyM
  split
  · rename_i h
    have := idle_small h
    exact ⟨by simp; omega, by dsimp only; omega⟩
  · exact ⟨by simp, by simp⟩
theorem sleep_small (c : Ck) (n d : Int) : Small (sleepM c n d).1 := by
  unfold sleepM
  split
  · rename_i h
    have := idle_small h
    split
    · exact ⟨by simp, by simp⟩
    · split
      · exact ready_small c n
      · split
        · refine ⟨by dsimp only; omega, ?_⟩
          dsimp only
          rw [insT_length _ _ _ (bsf_le _ _)]; omega
        · exact ⟨by simp, by simp⟩
  · exact ⟨by simp, by simp⟩
/-- What Ready and Sleep answer. -/
theorem idle_eq {c : Ck} {n : Int} (hv : (clockFault c).1 = 0) : idleF c n = if timeB n then (if busy c.rs c.ts n then (8, -2) else if c.rs.length + c.ts.length = 1000 then (2, -2) else (0, 0)) else (4, -2) := by
  rw [fault_eq] at hv
  have h : (has c.rs n || busyT c.ts n) = (busyT c.ts n || has c.rs n) := Bool.or_comm _ _
  unfold idleF busy
  rw [if_pos hv, h]
theorem timeB_iff (n : Int) : timeB n = true ↔ 0 ≤ n ∧ n ≤ 1000000000000000 := by simp [timeB]
theorem idle_ok {c : Ck} {n : Int} (hv : (clockFault c).1 = 0) (h : 0 ≤ n ∧ n ≤ 1000000000000000) (hb : busy c.rs c.ts n = false) (hl : ¬ (c.rs.length : Int) + (c.ts.length : Int) = 1000) : (idleF c n).1 = 0 := by
  rw [idle_eq hv, if_pos ((timeB_iff n).2 h), hb, if_neg (by simp), if_neg (by omega)]
theorem ready_ok {c : Ck} {n : Int} (hv : (clockFault c).1 = 0) (h : 0 ≤ n ∧ n ≤ 1000000000000000) (hb : busy c.rs c.ts n = false) (hl : ¬ (c.rs.length : Int) + (c.ts.length : Int) = 1000) : readyM c n = (enq c n, (0, 0)) := by
  simp [readyM, idle_ok hv h hb hl, enq]
theorem sleep_ok {c : Ck} {n d : Int} (hv : (clockFault c).1 = 0) (h : 0 ≤ n ∧ n ≤ 1000000000000000) (hb : busy c.rs c.ts n = false) (hl : ¬ (c.rs.length : Int) + (c.ts.length : Int) = 1000) (hd : 0 ≤ d ∧ d ≤ 1000000000) (hx : d = 0 ∨ c.now + d ≤ 1000000000000000 ∧ ¬ c.ser = 1000000000000000) : sleepM c n d = (sleptM c n d, (0, 0)) := by
  have hV := cf_valid hv
  have hnow := timeB_le hV.now
  have hser := timeB_le hV.ser
  have e1 : ¬ (d < 0 ∨ 1000000000 < d) := by omega
  by_cases e2 : d = 0
  · simp [sleepM, idle_ok hv h hb hl, e2, ready_ok hv h hb hl, sleptM]
  · have e3 : (timeB (c.now + d) && timeB (c.ser + 1)) = true := by
      rw [Bool.and_eq_true, timeB_iff, timeB_iff]; omega
    have e4 := ins_slept (ts := c.ts) (t := newT c n d) hV.sorted (fun x hx => by have := hV.times x hx; simp [okT] at this; simp [newT]; omega)
    simp only [sleepM, idle_ok hv h hb hl, if_true, if_neg e1, if_neg e2, if_pos e3, sleptM, e4]
    rfl
end Go.Proofs.Ytgiebofmfkacgaa
namespace Go.Proofs.Ytgiebofmfkacgaa
open Go.RowKit

theorem args1' {ρ : Rho} {G : FG} {w : World} {x : V} {vs : List Value} (h : ArgsAt ρ G w [.d (.u x)] vs) : ∃ v, vs = [v] ∧ DenV ⟨G, w⟩ x v := by
  obtain ⟨v, rfl, h1⟩ := args1 h
  cases h1 with | d h1 => cases h1 with | u h1 => exact ⟨v, rfl, h1⟩
theorem cloneI_T (k : Nat) (zs : List Int) (hl : zs.length ≤ 17592186043904) : CallsA Try.prog 50 [.d (.u (ivs zs))] [] (Iso (.d (.ow k zs.length)) [(k, .ar 3 1 (zs.map fun n => [V.int .i64 n]))]) :=
  callsA_own (cells := ints zs) ⟨_, _, Try.func50, rfl, rfl⟩ (by simp) (fun z => ints_den z zs) (by simp) fun ρ G w vs h => by
    obtain ⟨v, rfl, h1⟩ := args1' h
    obtain ⟨A, cc, rfl, q1, q2, q3⟩ := den_rows (g := fun n : Int => [V.int .i64 n]) (xs := zs) (cs := ints zs) h1 h.2.2 (fun z us h => den_ints h)
    exact clone_int A cc zs w q1 hl
theorem cloneT_T (k : Nat) (zs : List Tm) (hl : zs.length ≤ 1000000) : CallsA Try.prog 51 [.d (.u (tvs zs))] [] (Iso (.d (.ow k zs.length)) [(k, .ar 46 3 (zs.map Tm.v))]) :=
  callsA_own (cells := rows Tm.cells zs) ⟨_, _, Try.func51, rfl, rfl⟩ (by simp) (fun z => tms_den z zs) (by simp) fun ρ G w vs h => by
    obtain ⟨v, rfl, h1⟩ := args1' h
    obtain ⟨A, cc, rfl, q1, q2, q3⟩ := den_rows (g := Tm.v) (xs := zs) (cs := rows Tm.cells zs) h1 h.2.2 (fun z us h => den_tms h)
    exact clone_tm A cc zs w q1 (by omega) (by omega)
theorem time_T (n : Int) : CallsA Try.prog 35 [di n] [] (Is (db (timeB n))) :=
  callsA_flat ⟨_, _, Try.func35, rfl, rfl⟩ (fun _ _ => .d (.u (.bool _))) fun ρ G w vs h => by
    obtain ⟨v, rfl, h1⟩ := args1 h
    rw [den_int h1]
    exact (time_any n w).mono fun e w' ⟨h1, h2⟩ => ⟨h1, h2 ▸ Below.refl _ _⟩
theorem timer_T (c : Ck) (hs : Small c) (x : Int) : CallsA Try.prog 43 [.a c.d, di x] [] (Is (di (tidx c.ts x))) :=
  callsA_flat ⟨_, _, Try.func43, rfl, rfl⟩ (fun _ _ => .d (.u (.int _ _))) fun ρ G w vs h => by
    obtain ⟨v, u, rfl, h1, h2⟩ := args2 h
    rw [den_int h2]
    exact timer_any c v x w (den_ck h1 h.2.2 hs)
theorem timer_T' (now ser : Int) (rs : List Int) (ts : List Tm) (h1 : rs.length ≤ 1000000) (h2 : ts.length ≤ 1000000) (x y : Int) (e : tidx ts x = y) : CallsA Try.prog 43 [.a [.u (.int .i64 now), .u (.int .i64 ser), .u (ivs rs), .u (tvs ts)], di x] [] (Is (di y)) := e ▸ timer_T ⟨now, ser, rs, ts⟩ ⟨by dsimp only; omega, by dsimp only; omega⟩ x
/-- A copy of a clock: its arrays are its own. -/
theorem clone_T (now ser : Int) (rs : List Int) (ts : List Tm) (h1 : rs.length ≤ 1000000) (h2 : ts.length ≤ 1000000) : CallsA Try.prog 34 [.a [.u (.int .i64 now), .u (.int .i64 ser), .u (ivs rs), .u (tvs ts)]] [] (Iso (.a [.u (.int .i64 now), .u (.int .i64 ser), .ow 901 rs.length, .ow 902 ts.length]) [(901, .ar 3 1 (rs.map fun n => [V.int .i64 n])), (902, .ar 46 3 (ts.map Tm.v))]) := by
  refine callsA_of_vcO (T := tt) Try.func34 rfl rfl rfl rfl rfl ?_
  repeat' ((conv => whnf); first | refine Gs.id ?_ | with_reducible refine And.intro ?_ ?_ | with_reducible refine Brn.T rfl ?_ | with_reducible refine Brn.F rfl ?_ | refine Brn.T (by (try simp only [smT]); first | rfl | assumption | omega | (simp only [*]; done) | (simp [*]; done) | fail) ?_ | refine Brn.F (by (try simp only [smT]); first | rfl | assumption | omega | (simp only [*]; done) | (simp [*]; done) | fail) ?_ | (refine Brn.mk (fun hb => ?_) (fun hb => ?_) <;> (try simp only [smT] at hb) <;> (try (exact absurd trivial hb)) <;> (try (exfalso; omega))) | (refine Bnd.mk (fun hm => ?_); (try simp only [smT] at hm)) | refine Rng.mk (by (try simp only [smT]); omega) ?_ | refine Ix.map rfl (by (try simp only [smT]); omega) ?_ | refine Ix.map (m := 0) rfl (by (try simp only [smT]); omega) ?_ | refine Ix.lit (m := 0) rfl rfl ?_ | refine Ixo.mk ⟨_, rfl, (by (try simp only [smT]); omega), ?_⟩ | refine Rw.lit rfl ?_ | refine Rw.self (by (try simp only [smT]); omega) ?_ | refine Rw.map (by (try simp only [smT]); omega) ?_ | refine Len.mk (by first | rfl | (simp; done) | (simp only [smT]; assumption) | (simp only [smT]; omega)) ?_ | refine Eqv.mk (by kernel_rfl) ?_ | refine Apd.mk (by first | rfl | simp) (by first | rfl | simp) (by (try simp only [smT]); first | omega | (simp; omega)) (by unfold maxLen; first | (simp; done) | (simp; omega) | omega) ?_ | refine Raw.capNil (T := tt) rfl rfl rfl rfl ?_ | refine Raw.sliceNil (T := tt) rfl rfl (by first | rfl | omega | (simp; done)) rfl rfl rfl rfl ?_ | (refine Raw.appendR (T := tt) ?_; (conv => whnf); first | refine Rw.lit rfl ?_ | refine Rw.self (by (try simp only [smT]); omega) ?_ | refine Rw.map (by (try simp only [smT]); omega) ?_) | refine Raw.appendIn (T := tt) rfl rfl rfl rfl rfl rfl rfl rfl rfl rfl (by (try simp only [smT]); omega) (by (try simp only [smT]); omega) ?_ | refine Raw.clear (T := tt) rfl rfl rfl rfl rfl rfl rfl (by (try simp only [smT]); omega) ?_ | refine Slc.mk ⟨_, _, rfl, rfl, (by (try simp only [smT]); omega), (by (try simp only [smT]); omega), ?_⟩ | refine Slc.mk ⟨0, _, rfl, rfl, (by (try simp only [smT]); omega), (by (try simp only [smT]); omega), ?_⟩ | refine Slc.mk ⟨1, _, rfl, rfl, (by (try simp only [smT]); omega), (by (try simp only [smT]); omega), ?_⟩ | refine Slc3.mk ⟨_, _, _, rfl, rfl, rfl, (by (try simp only [smT]); omega), (by (try simp only [smT]); omega), (by (try simp only [smT]); omega)⟩ ?_ | refine Drw.of (T := tt) (i := 1) [7, 8, 9] [] [(0, true), (1, true), (3, true), (4, true), (2, false), (6, true), (5, false), (7, false), (8, false), (9, false)] (by kernel_rfl) ?_ | (refine CL.mk (Or.inr (RawK.callN [901] rfl rfl rfl rfl (cloneI_T 901 _ (by omega)) ?_)); rintro _ _ ⟨rfl, rfl⟩; refine Bk.mk rfl rfl ?_) | (refine CL.mk (Or.inr (RawK.callN [902] rfl rfl rfl rfl (cloneT_T 902 _ h2) ?_)); rintro _ _ ⟨rfl, rfl⟩; refine Bk.mk rfl rfl ?_))
  all_goals (conv => whnf)
  · refine RetO.mk ⟨[(901, .k 901), (902, .k 902)], _, _, (by first | exact LeS.d (by first | exact LeD.u rfl | exact LeD.p rfl | exact LeD.ow rfl rfl | exact LeD.ow rfl (by simp) | exact LeD.no rfl rfl | exact LeD.nl (by first | rfl | simp) | exact LeD.u (by simp; done) | exact LeD.u (by congr 1; omega) | exact LeD.q rfl | exact LeD.r rfl | exact LeD.r (by simp; done) | exact LeD.re | exact LeD.ows rfl rfl rfl | exact LeD.u (by congr 1; congr 1; simp) | exact LeD.fn (by repeat (first | exact LeN.nil | refine LeN.cons rfl ?_))) | exact LeS.a (by repeat (first | exact LeL.nil | refine LeL.cons (by first | exact LeD.u rfl | exact LeD.p rfl | exact LeD.ow rfl rfl | exact LeD.ow rfl (by simp) | exact LeD.no rfl rfl | exact LeD.nl (by first | rfl | simp) | exact LeD.u (by simp; done) | exact LeD.u (by congr 1; omega) | exact LeD.q rfl | exact LeD.r rfl | exact LeD.r (by simp; done) | exact LeD.re | exact LeD.ows rfl rfl rfl | exact LeD.u (by congr 1; congr 1; simp) | exact LeD.fn (by repeat (first | exact LeN.nil | refine LeN.cons rfl ?_))) ?_)) | exact LeS.ts (by repeat (first | exact LeCs.nil | refine LeCs.cons (by first | exact LeC.d (by first | exact LeD.u rfl | exact LeD.p rfl | exact LeD.ow rfl rfl | exact LeD.ow rfl (by simp) | exact LeD.no rfl rfl | exact LeD.nl (by first | rfl | simp) | exact LeD.u (by simp; done) | exact LeD.u (by congr 1; omega) | exact LeD.q rfl | exact LeD.r rfl | exact LeD.r (by simp; done) | exact LeD.re | exact LeD.ows rfl rfl rfl | exact LeD.u (by congr 1; congr 1; simp) | exact LeD.fn (by repeat (first | exact LeN.nil | refine LeN.cons rfl ?_))) | exact LeC.a (by repeat (first | exact LeL.nil | refine LeL.cons (by first | exact LeD.u rfl | exact LeD.p rfl | exact LeD.ow rfl rfl | exact LeD.ow rfl (by simp) | exact LeD.no rfl rfl | exact LeD.nl (by first | rfl | simp) | exact LeD.u (by simp; done) | exact LeD.u (by congr 1; omega) | exact LeD.q rfl | exact LeD.r rfl | exact LeD.r (by simp; done) | exact LeD.re | exact LeD.ows rfl rfl rfl | exact LeD.u (by congr 1; congr 1; simp) | exact LeD.fn (by repeat (first | exact LeN.nil | refine LeN.cons rfl ?_))) ?_))) ?_))), (by repeat (first | exact LeO.nil | refine LeO.bx rfl rfl (by repeat (first | exact LeL.nil | refine LeL.cons (by first | exact LeD.u rfl | exact LeD.p rfl | exact LeD.ow rfl rfl | exact LeD.ow rfl (by simp) | exact LeD.no rfl rfl | exact LeD.nl (by first | rfl | simp) | exact LeD.u (by simp; done) | exact LeD.u (by congr 1; omega) | exact LeD.q rfl | exact LeD.r rfl | exact LeD.r (by simp; done) | exact LeD.re | exact LeD.ows rfl rfl rfl | exact LeD.u (by congr 1; congr 1; simp) | exact LeD.fn (by repeat (first | exact LeN.nil | refine LeN.cons rfl ?_))) ?_)) ?_ | refine LeO.ar rfl rfl (by first | rfl | simp) ?_ | refine LeO.fm rfl (by first | rfl | simp) ?_ | refine LeO.no rfl rfl ?_)), rfl, rfl⟩
theorem del_rows {α : Type} (rs z : List α) (i : Nat) (hi : i < rs.length) : (putR (putR rs ((rs.drop (i + 1)).take (rs.length - (i + 1))) i) z (i + (rs.length - (i + 1)))).take (rs.length - 1) = rs.eraseIdx i := by
  have e1 : (rs.drop (i + 1)).take (rs.length - (i + 1)) = rs.drop (i + 1) := List.take_of_length_le (by simp)
  have e2 : i + (rs.length - (i + 1)) = rs.length - 1 := by omega
  have e3 : putR rs (rs.drop (i + 1)) i = rs.eraseIdx i ++ rs.drop (i + (rs.length - (i + 1))) := by
    rw [putR, List.eraseIdx_eq_take_drop_succ]; simp
  have e4 : (rs.eraseIdx i).length = rs.length - 1 := List.length_eraseIdx_of_lt hi
  rw [e1, e3, e2, putR, List.append_assoc, List.take_append_of_le_length (by simp; omega), List.take_take, Nat.min_self, List.take_left' e4]
theorem deleteT_T (ts : List Tm) (i : Nat) (hi : i < ts.length) (hl : ts.length ≤ 1000000) : CallsA Try.prog 44 [.d (.ow 902 ts.length), di i, di (i + 1)] [(902, .ar 46 3 (ts.map Tm.v))] (Iso (.d (.ow 902 (ts.length - 1))) [(902, .ar 46 3 ((ts.eraseIdx i).map Tm.v))]) := by
  refine callsA_of_vcO (T := tt) Try.func44 rfl rfl rfl rfl rfl ?_
  repeat' ((conv => whnf); first | refine Gs.id ?_ | with_reducible refine And.intro ?_ ?_ | with_reducible refine Brn.T rfl ?_ | with_reducible refine Brn.F rfl ?_ | refine Brn.T (by (try simp only [smT]); first | rfl | assumption | omega | (simp only [*]; done) | (simp [*]; done) | fail) ?_ | refine Brn.F (by (try simp only [smT]); first | rfl | assumption | omega | (simp only [*]; done) | (simp [*]; done) | fail) ?_ | (refine Brn.mk (fun hb => ?_) (fun hb => ?_) <;> (try simp only [smT] at hb) <;> (try (exact absurd trivial hb)) <;> (try (exfalso; omega))) | (refine Bnd.mk (fun hm => ?_); (try simp only [smT] at hm)) | refine Rng.mk (by (try simp only [smT]); omega) ?_ | refine Ix.map rfl (by (try simp only [smT]); omega) ?_ | refine Ix.map (m := 0) rfl (by (try simp only [smT]); omega) ?_ | refine Ix.lit (m := 0) rfl rfl ?_ | refine Ixo.mk ⟨_, rfl, (by (try simp only [smT]); omega), ?_⟩ | refine Rw.lit rfl ?_ | refine Rw.self (by (try simp only [smT]); omega) ?_ | refine Rw.map (by (try simp only [smT]); omega) ?_ | refine Len.mk (by first | rfl | (simp; done) | (simp only [smT]; assumption) | (simp only [smT]; omega)) ?_ | refine Eqv.mk (by kernel_rfl) ?_ | refine Apd.mk (by first | rfl | simp) (by first | rfl | simp) (by (try simp only [smT]); first | omega | (simp; omega)) (by unfold maxLen; first | (simp; done) | (simp; omega) | omega) ?_ | refine Raw.capNil (T := tt) rfl rfl rfl rfl ?_ | refine Raw.sliceNil (T := tt) rfl rfl (by first | rfl | omega | (simp; done)) rfl rfl rfl rfl ?_ | (refine Raw.appendR (T := tt) ?_; (conv => whnf); first | refine Rw.lit rfl ?_ | refine Rw.self (by (try simp only [smT]); omega) ?_ | refine Rw.map (by (try simp only [smT]); omega) ?_) | refine Raw.appendIn (T := tt) rfl rfl rfl rfl rfl rfl rfl rfl rfl rfl (by (try simp only [smT]); omega) (by (try simp only [smT]); omega) ?_ | refine Raw.clear (T := tt) rfl rfl rfl rfl rfl rfl rfl (by (try simp only [smT]); omega) ?_ | refine Slc.mk ⟨_, _, rfl, rfl, (by (try simp only [smT]); omega), (by (try simp only [smT]); omega), ?_⟩ | refine Slc.mk ⟨0, _, rfl, rfl, (by (try simp only [smT]); omega), (by (try simp only [smT]); omega), ?_⟩ | refine Slc.mk ⟨1, _, rfl, rfl, (by (try simp only [smT]); omega), (by (try simp only [smT]); omega), ?_⟩ | refine Slc3.mk ⟨_, _, _, rfl, rfl, rfl, (by (try simp only [smT]); omega), (by (try simp only [smT]); omega), (by (try simp only [smT]); omega)⟩ ?_ | refine Drw.of (T := tt) (i := 5) [6, 7] [] [(0, true), (1, true), (2, true), (3, true), (4, true), (5, true), (6, false), (7, false)] (by kernel_rfl) ?_)
  all_goals (conv => whnf)
  · have e : i + (ts.length - (i + 1)) = ts.length - 1 := by omega
    refine RetO.mk ⟨[(902, .k 902)], _, _, .d (.ow rfl e), LeO.tr (m := ts.length - 1) rfl rfl ?_ ?_ .nil, rfl, rfl⟩
    · simp only [smT]; omega
    · have := del_rows (ts.map Tm.v) (List.replicate (ts.length - (i + (ts.length - (i + 1)))) [V.int .i64 0, V.int .i64 0, V.int .i64 0]) i (by simpa using hi)
      simp only [List.length_map] at this
      rw [this]
      simp only [List.eraseIdx_eq_take_drop_succ, List.map_take, List.map_drop, List.map_append]
theorem contains_T (zs : List Int) (x : Int) (hl : zs.length ≤ 1000000) : CallsA Try.prog 42 [.d (.u (ivs zs)), di x] [] (Is (db (has zs x))) :=
  callsA_flat ⟨_, _, Try.func42, rfl, rfl⟩ (fun _ _ => .d (.u (.bool _))) fun ρ G w vs h => by
    obtain ⟨v, u, rfl, h1, h2⟩ := args2 h
    rw [den_int h2]
    cases h1 with | d h1 => cases h1 with | u h1 =>
    obtain ⟨A, cc, rfl, q1, q2, q3⟩ := den_rows (g := fun n : Int => [V.int .i64 n]) (xs := zs) (cs := ints zs) h1 h.2.2 (fun z us h => den_ints h)
    exact (contains_int A cc zs x w q1 (by unfold maxLen at q3; omega)).mono fun e w' ⟨h1, h2⟩ => ⟨h1, h2 ▸ Below.refl _ _⟩
/-- A timer is struck out. -/
def strike (ts : List Tm) (x : Int) : List Tm := if 0 ≤ tidx ts x then ts.eraseIdx (tidx ts x).toNat else ts
def wakeP (c : Ck) (n : Int) : Ck × (Int × Int) :=
  if (validate c).1 = 0 then (if timeB n then (if has c.rs n then (c, (0, 0)) else
    if c.rs.length + (strike c.ts n).length = 1000 then (⟨0, 0, [], []⟩, (2, -2)) else (⟨c.now, c.ser, c.rs ++ [n], strike c.ts n⟩, (0, 0))) else (⟨0, 0, [], []⟩, (4, -2))) else (⟨0, 0, [], []⟩, validate c)
theorem tidx_lt (ts : List Tm) (x : Int) : tidx ts x < ts.length := by
  unfold tidx
  split
  · rename_i i h
    have := (List.findIdx?_eq_some_iff_getElem.1 h).1
    omega
  · omega
theorem wakeP_rng {c : Ck} {n : Int} (hv : (validate c).1 = 0) (ht : timeB n = false) : wakeP c n = (⟨0, 0, [], []⟩, (4, -2)) := by simp [wakeP, hv, ht]
theorem wakeP_has {c : Ck} {n : Int} (hv : (validate c).1 = 0) (ht : timeB n = true) (hh : has c.rs n = true) : wakeP c n = (c, (0, 0)) := by simp [wakeP, hv, ht, hh]
theorem wakeP_full {c : Ck} {n : Int} (hv : (validate c).1 = 0) (ht : timeB n = true) (hh : has c.rs n = false) (hl : (c.rs.length : Int) + ((strike c.ts n).length : Int) = 1000) : wakeP c n = (⟨0, 0, [], []⟩, (2, -2)) := by
  have : c.rs.length + (strike c.ts n).length = 1000 := by omega
  simp [wakeP, hv, ht, hh, this]
theorem wakeP_ok {c : Ck} {n : Int} (hv : (validate c).1 = 0) (ht : timeB n = true) (hh : has c.rs n = false) (hl : ¬ (c.rs.length : Int) + ((strike c.ts n).length : Int) = 1000) : wakeP c n = (⟨c.now, c.ser, c.rs ++ [n], strike c.ts n⟩, (0, 0)) := by
  have : ¬ c.rs.length + (strike c.ts n).length = 1000 := by omega
  simp [wakeP, hv, ht, hh, this]
theorem wake_T (c : Ck) (hs : Small c) (n : Int) : CallsA Try.prog 25 [.a c.d, di n] [] (Is (.t [.a (wakeP c n).1.d, .a (fd (wakeP c n).2)])) := by
  by_cases hv : (validate c).1 = 0
  · have hsm := validate_small hv
    have hlt := tidx_lt c.ts n
    generalize hi : tidx c.ts n = ix at hlt
    obtain ⟨now, ser, rs, ts⟩ := c
    dsimp only [Ck.d] at hsm hlt hi ⊢
    by_cases hx : 0 ≤ ix
    · obtain ⟨i, rfl⟩ : ∃ i : Nat, ix = (i : Int) := ⟨ix.toNat, by omega⟩
      have hst : strike ts n = ts.eraseIdx i := by simp [strike, hi]
      have hel : (ts.eraseIdx i).length = ts.length - 1 := List.length_eraseIdx_of_lt (by omega)
      refine callsA_of_vc (T := tt) Try.func25 rfl rfl rfl rfl rfl ?_
      repeat' ((conv => whnf); first | refine Gs.id ?_ | with_reducible refine And.intro ?_ ?_ | with_reducible refine Brn.T rfl ?_ | with_reducible refine Brn.F rfl ?_ | refine Brn.T (by (try simp only [smT]); first | rfl | assumption | omega | (simp only [*]; done) | (simp [*]; done) | fail) ?_ | refine Brn.F (by (try simp only [smT]); first | rfl | assumption | omega | (simp only [*]; done) | (simp [*]; done) | fail) ?_ | (refine Brn.mk (fun hb => ?_) (fun hb => ?_) <;> (try simp only [smT] at hb) <;> (try (exact absurd trivial hb)) <;> (try (exfalso; omega))) | (refine Bnd.mk (fun hm => ?_); (try simp only [smT] at hm)) | refine Rng.mk (by (try simp only [smT]); omega) ?_ | refine Ix.map rfl (by (try simp only [smT]); omega) ?_ | refine Ix.map (m := 0) rfl (by (try simp only [smT]); omega) ?_ | refine Ix.lit (m := 0) rfl rfl ?_ | refine Ixo.mk ⟨_, rfl, (by (try simp only [smT]); omega), ?_⟩ | refine Rw.lit rfl ?_ | refine Rw.self (by (try simp only [smT]); omega) ?_ | refine Rw.map (by (try simp only [smT]); omega) ?_ | refine Len.mk (by first | rfl | (simp; done) | (simp only [smT]; assumption) | (simp only [smT]; omega)) ?_ | refine Eqv.mk (by kernel_rfl) ?_ | refine Apd.mk (by first | rfl | simp) (by first | rfl | simp) (by (try simp only [smT]); first | omega | (simp; omega)) (by unfold maxLen; first | (simp; done) | (simp; omega) | omega) ?_ | refine Raw.capNil (T := tt) rfl rfl rfl rfl ?_ | refine Raw.sliceNil (T := tt) rfl rfl (by first | rfl | omega | (simp; done)) rfl rfl rfl rfl ?_ | (refine Raw.appendR (T := tt) ?_; (conv => whnf); first | refine Rw.lit rfl ?_ | refine Rw.self (by (try simp only [smT]); omega) ?_ | refine Rw.map (by (try simp only [smT]); omega) ?_) | refine Raw.appendIn (T := tt) rfl rfl rfl rfl rfl rfl rfl rfl rfl rfl (by (try simp only [smT]); omega) (by (try simp only [smT]); omega) ?_ | refine Raw.clear (T := tt) rfl rfl rfl rfl rfl rfl rfl (by (try simp only [smT]); omega) ?_ | refine Slc.mk ⟨_, _, rfl, rfl, (by (try simp only [smT]); omega), (by (try simp only [smT]); omega), ?_⟩ | refine Slc.mk ⟨0, _, rfl, rfl, (by (try simp only [smT]); omega), (by (try simp only [smT]); omega), ?_⟩ | refine Slc.mk ⟨1, _, rfl, rfl, (by (try simp only [smT]); omega), (by (try simp only [smT]); omega), ?_⟩ | refine Slc3.mk ⟨_, _, _, rfl, rfl, rfl, (by (try simp only [smT]); omega), (by (try simp only [smT]); omega), (by (try simp only [smT]); omega)⟩ ?_ | refine Drw.ofF (T := tt) (i := 3) [2, 3] [1] [(0, true), (1, true), (2, false), (3, false)] (by kernel_rfl) ?_ | refine Drw.ofP (T := tt) (i := 3) [2, 3] [0, 1] [0, 1] (OT.alt 2 (OT.alt 3 OT.nil OT.nil) OT.nil) (by kernel_rfl) ?_ | refine Drw.all (T := tt) (i := 3) (OT.alt 0 (OT.alt 1 (OT.alt 2 (OT.alt 3 OT.nil OT.nil) OT.nil) (OT.alt 2 (OT.alt 1 (OT.alt 3 OT.nil OT.nil) OT.nil) OT.nil)) (OT.alt 1 (OT.alt 0 (OT.alt 2 (OT.alt 3 OT.nil OT.nil) OT.nil) OT.nil) OT.nil)) (by kernel_rfl) ?_ | (refine CL.mk (Or.inl ?_); (conv => whnf); first | refine Cl.is (validate_T ⟨_, _, _, _⟩ hs) rfl (by first | exact fun _ => rfl | (intro e; cases e; done) | fail) ?_ | refine Cl.is (time_T _) rfl (by first | exact fun _ => rfl | (intro e; cases e; done) | fail) ?_ | refine Cl.is (contains_T _ _ (by omega)) rfl (by first | exact fun _ => rfl | (intro e; cases e; done) | fail) ?_ | refine Cl.is (timer_T' _ _ rs ts (by omega) (by omega) _ _ hi) rfl (by first | exact fun _ => rfl | (intro e; cases e; done) | fail) ?_) | (refine CL.mk (Or.inl ?_); (conv => whnf); refine ClO.mk (Or.inl ?_); (repeat ((conv => whnf); refine Len.mk (by first | rfl | (simp; done) | (simp only [smT]; assumption) | (simp only [smT]; omega)) ?_)); (conv => whnf); first | refine Cl.is (validate_T ⟨_, _, _, _⟩ hs) rfl (by first | exact fun _ => rfl | (intro e; cases e; done) | fail) ?_ | refine Cl.is (time_T _) rfl (by first | exact fun _ => rfl | (intro e; cases e; done) | fail) ?_ | refine Cl.is (contains_T _ _ (by omega)) rfl (by first | exact fun _ => rfl | (intro e; cases e; done) | fail) ?_ | refine Cl.is (timer_T' _ _ rs ts (by omega) (by omega) _ _ hi) rfl (by first | exact fun _ => rfl | (intro e; cases e; done) | fail) ?_) | (refine CL.mk (Or.inl ?_); (conv => whnf); refine ClO.mk (Or.inr ?_); (repeat ((conv => whnf); refine Len.mk (by first | rfl | (simp; done) | (simp only [smT]; assumption) | (simp only [smT]; omega)) ?_)); (conv => whnf); first | refine Cl.is (validate_T ⟨_, _, _, _⟩ hs) rfl (by first | exact fun _ => rfl | (intro e; cases e; done) | fail) ?_ | refine Cl.is (time_T _) rfl (by first | exact fun _ => rfl | (intro e; cases e; done) | fail) ?_ | refine Cl.is (contains_T _ _ (by omega)) rfl (by first | exact fun _ => rfl | (intro e; cases e; done) | fail) ?_ | refine Cl.is (timer_T' _ _ rs ts (by omega) (by omega) _ _ hi) rfl (by first | exact fun _ => rfl | (intro e; cases e; done) | fail) ?_) | (refine CL.mk (Or.inr (Raw.callI [] [901,902] rfl rfl rfl rfl rfl rfl rfl (clone_T _ _ rs ts (by omega) (by omega)) ?_)); rintro _ _ ⟨rfl, rfl⟩; refine Bk.mk rfl rfl ?_) | (refine CL.mk (Or.inr (Raw.callI [902] [902] rfl rfl rfl rfl rfl rfl rfl (deleteT_T ts i (by omega) (by omega)) ?_)); rintro _ _ ⟨rfl, rfl⟩; refine Bk.mk rfl rfl ?_))
      all_goals (conv => whnf)
      · rw [wakeP_rng hv (by assumption)]; exact Ret.nl (by repeat (first | exact NlSs.nil | exact NlL.nil | exact NlCs.nil | exact NlS.refl | exact NlD.refl | exact NlD.u (NlV.nl (by first | rfl | simp)) | exact NlD.u NlV.refl | refine NlSs.cons ?_ ?_ | refine NlL.cons ?_ ?_ | refine NlCs.cons ?_ ?_ | refine NlS.t ?_ | refine NlS.a ?_ | refine NlS.d ?_ | refine NlC.a ?_ | refine NlC.d ?_))
      · rw [wakeP_has hv (by assumption) (by assumption)]; exact Ret.is rfl
      · rw [wakeP_ok hv (by assumption) (by assumption) (by dsimp only; rw [hst, hel]; omega), hst]; exact Ret.is (by simp [tupT, SC.up, upT])
    · have hst : strike ts n = ts := by simp [strike, hi, hx]
      refine callsA_of_vc (T := tt) Try.func25 rfl rfl rfl rfl rfl ?_
      repeat' ((conv => whnf); first | refine Gs.id ?_ | with_reducible refine And.intro ?_ ?_ | with_reducible refine Brn.T rfl ?_ | with_reducible refine Brn.F rfl ?_ | refine Brn.T (by (try simp only [smT]); first | rfl | assumption | omega | (simp only [*]; done) | (simp [*]; done) | fail) ?_ | refine Brn.F (by (try simp only [smT]); first | rfl | assumption | omega | (simp only [*]; done) | (simp [*]; done) | fail) ?_ | (refine Brn.mk (fun hb => ?_) (fun hb => ?_) <;> (try simp only [smT] at hb) <;> (try (exact absurd trivial hb)) <;> (try (exfalso; omega))) | (refine Bnd.mk (fun hm => ?_); (try simp only [smT] at hm)) | refine Rng.mk (by (try simp only [smT]); omega) ?_ | refine Ix.map rfl (by (try simp only [smT]); omega) ?_ | refine Ix.map (m := 0) rfl (by (try simp only [smT]); omega) ?_ | refine Ix.lit (m := 0) rfl rfl ?_ | refine Ixo.mk ⟨_, rfl, (by (try simp only [smT]); omega), ?_⟩ | refine Rw.lit rfl ?_ | refine Rw.self (by (try simp only [smT]); omega) ?_ | refine Rw.map (by (try simp only [smT]); omega) ?_ | refine Len.mk (by first | rfl | (simp; done) | (simp only [smT]; assumption) | (simp only [smT]; omega)) ?_ | refine Eqv.mk (by kernel_rfl) ?_ | refine Apd.mk (by first | rfl | simp) (by first | rfl | simp) (by (try simp only [smT]); first | omega | (simp; omega)) (by unfold maxLen; first | (simp; done) | (simp; omega) | omega) ?_ | refine Raw.capNil (T := tt) rfl rfl rfl rfl ?_ | refine Raw.sliceNil (T := tt) rfl rfl (by first | rfl | omega | (simp; done)) rfl rfl rfl rfl ?_ | (refine Raw.appendR (T := tt) ?_; (conv => whnf); first | refine Rw.lit rfl ?_ | refine Rw.self (by (try simp only [smT]); omega) ?_ | refine Rw.map (by (try simp only [smT]); omega) ?_) | refine Raw.appendIn (T := tt) rfl rfl rfl rfl rfl rfl rfl rfl rfl rfl (by (try simp only [smT]); omega) (by (try simp only [smT]); omega) ?_ | refine Raw.clear (T := tt) rfl rfl rfl rfl rfl rfl rfl (by (try simp only [smT]); omega) ?_ | refine Slc.mk ⟨_, _, rfl, rfl, (by (try simp only [smT]); omega), (by (try simp only [smT]); omega), ?_⟩ | refine Slc.mk ⟨0, _, rfl, rfl, (by (try simp only [smT]); omega), (by (try simp only [smT]); omega), ?_⟩ | refine Slc.mk ⟨1, _, rfl, rfl, (by (try simp only [smT]); omega), (by (try simp only [smT]); omega), ?_⟩ | refine Slc3.mk ⟨_, _, _, rfl, rfl, rfl, (by (try simp only [smT]); omega), (by (try simp only [smT]); omega), (by (try simp only [smT]); omega)⟩ ?_ | refine Drw.ofF (T := tt) (i := 3) [2, 3] [1] [(0, true), (1, true), (2, false), (3, false)] (by kernel_rfl) ?_ | refine Drw.ofP (T := tt) (i := 3) [2, 3] [0, 1] [0, 1] (OT.alt 2 (OT.alt 3 OT.nil OT.nil) OT.nil) (by kernel_rfl) ?_ | refine Drw.all (T := tt) (i := 3) (OT.alt 0 (OT.alt 1 (OT.alt 2 (OT.alt 3 OT.nil OT.nil) OT.nil) (OT.alt 2 (OT.alt 1 (OT.alt 3 OT.nil OT.nil) OT.nil) OT.nil)) (OT.alt 1 (OT.alt 0 (OT.alt 2 (OT.alt 3 OT.nil OT.nil) OT.nil) OT.nil) OT.nil)) (by kernel_rfl) ?_ | (refine CL.mk (Or.inl ?_); (conv => whnf); first | refine Cl.is (validate_T ⟨_, _, _, _⟩ hs) rfl (by first | exact fun _ => rfl | (intro e; cases e; done) | fail) ?_ | refine Cl.is (time_T _) rfl (by first | exact fun _ => rfl | (intro e; cases e; done) | fail) ?_ | refine Cl.is (contains_T _ _ (by omega)) rfl (by first | exact fun _ => rfl | (intro e; cases e; done) | fail) ?_ | refine Cl.is (timer_T' _ _ rs ts (by omega) (by omega) _ _ hi) rfl (by first | exact fun _ => rfl | (intro e; cases e; done) | fail) ?_) | (refine CL.mk (Or.inl ?_); (conv => whnf); refine ClO.mk (Or.inl ?_); (repeat ((conv => whnf); refine Len.mk (by first | rfl | (simp; done) | (simp only [smT]; assumption) | (simp only [smT]; omega)) ?_)); (conv => whnf); first | refine Cl.is (validate_T ⟨_, _, _, _⟩ hs) rfl (by first | exact fun _ => rfl | (intro e; cases e; done) | fail) ?_ | refine Cl.is (time_T _) rfl (by first | exact fun _ => rfl | (intro e; cases e; done) | fail) ?_ | refine Cl.is (contains_T _ _ (by omega)) rfl (by first | exact fun _ => rfl | (intro e; cases e; done) | fail) ?_ | refine Cl.is (timer_T' _ _ rs ts (by omega) (by omega) _ _ hi) rfl (by first | exact fun _ => rfl | (intro e; cases e; done) | fail) ?_) | (refine CL.mk (Or.inl ?_); (conv => whnf); refine ClO.mk (Or.inr ?_); (repeat ((conv => whnf); refine Len.mk (by first | rfl | (simp; done) | (simp only [smT]; assumption) | (simp only [smT]; omega)) ?_)); (conv => whnf); first | refine Cl.is (validate_T ⟨_, _, _, _⟩ hs) rfl (by first | exact fun _ => rfl | (intro e; cases e; done) | fail) ?_ | refine Cl.is (time_T _) rfl (by first | exact fun _ => rfl | (intro e; cases e; done) | fail) ?_ | refine Cl.is (contains_T _ _ (by omega)) rfl (by first | exact fun _ => rfl | (intro e; cases e; done) | fail) ?_ | refine Cl.is (timer_T' _ _ rs ts (by omega) (by omega) _ _ hi) rfl (by first | exact fun _ => rfl | (intro e; cases e; done) | fail) ?_) | (refine CL.mk (Or.inr (Raw.callI [] [901,902] rfl rfl rfl rfl rfl rfl rfl (clone_T _ _ rs ts (by omega) (by omega)) ?_)); rintro _ _ ⟨rfl, rfl⟩; refine Bk.mk rfl rfl ?_))
      all_goals (conv => whnf)
      · rw [wakeP_rng hv (by assumption)]; exact Ret.nl (by repeat (first | exact NlSs.nil | exact NlL.nil | exact NlCs.nil | exact NlS.refl | exact NlD.refl | exact NlD.u (NlV.nl (by first | rfl | simp)) | exact NlD.u NlV.refl | refine NlSs.cons ?_ ?_ | refine NlL.cons ?_ ?_ | refine NlCs.cons ?_ ?_ | refine NlS.t ?_ | refine NlS.a ?_ | refine NlS.d ?_ | refine NlC.a ?_ | refine NlC.d ?_))
      · rw [wakeP_has hv (by assumption) (by assumption)]; exact Ret.is rfl
      · rw [wakeP_full hv (by assumption) (by assumption) (by dsimp only; rw [hst]; omega)]; exact Ret.nl (by repeat (first | exact NlSs.nil | exact NlL.nil | exact NlCs.nil | exact NlS.refl | exact NlD.refl | exact NlD.u (NlV.nl (by first | rfl | simp)) | exact NlD.u NlV.refl | refine NlSs.cons ?_ ?_ | refine NlL.cons ?_ ?_ | refine NlCs.cons ?_ ?_ | refine NlS.t ?_ | refine NlS.a ?_ | refine NlS.d ?_ | refine NlC.a ?_ | refine NlC.d ?_))
      · rw [wakeP_ok hv (by assumption) (by assumption) (by dsimp only; rw [hst]; omega), hst]; exact Ret.is (by simp [tupT, SC.up, upT])
  · have e : wakeP c n = (⟨0, 0, [], []⟩, validate c) := by simp [wakeP, hv]
    rw [e]
    obtain ⟨now, ser, rs, ts⟩ := c
    dsimp only [Ck.d]
    refine callsA_of_vc (T := tt) Try.func25 rfl rfl rfl rfl rfl ?_
    repeat' ((conv => whnf); first | refine Gs.id ?_ | with_reducible refine And.intro ?_ ?_ | with_reducible refine Brn.T rfl ?_ | with_reducible refine Brn.F rfl ?_ | refine Brn.T (by (try simp only [smT]); first | rfl | assumption | omega | (simp only [*]; done) | (simp [*]; done) | fail) ?_ | refine Brn.F (by (try simp only [smT]); first | rfl | assumption | omega | (simp only [*]; done) | (simp [*]; done) | fail) ?_ | (refine Brn.mk (fun hb => ?_) (fun hb => ?_) <;> (try simp only [smT] at hb) <;> (try (exact absurd trivial hb)) <;> (try (exfalso; omega))) | (refine Bnd.mk (fun hm => ?_); (try simp only [smT] at hm)) | refine Rng.mk (by (try simp only [smT]); omega) ?_ | refine Ix.map rfl (by (try simp only [smT]); omega) ?_ | refine Ix.map (m := 0) rfl (by (try simp only [smT]); omega) ?_ | refine Ix.lit (m := 0) rfl rfl ?_ | refine Ixo.mk ⟨_, rfl, (by (try simp only [smT]); omega), ?_⟩ | refine Rw.lit rfl ?_ | refine Rw.self (by (try simp only [smT]); omega) ?_ | refine Rw.map (by (try simp only [smT]); omega) ?_ | refine Len.mk (by first | rfl | (simp; done) | (simp only [smT]; assumption) | (simp only [smT]; omega)) ?_ | refine Eqv.mk (by kernel_rfl) ?_ | refine Apd.mk (by first | rfl | simp) (by first | rfl | simp) (by (try simp only [smT]); first | omega | (simp; omega)) (by unfold maxLen; first | (simp; done) | (simp; omega) | omega) ?_ | refine Raw.capNil (T := tt) rfl rfl rfl rfl ?_ | refine Raw.sliceNil (T := tt) rfl rfl (by first | rfl | omega | (simp; done)) rfl rfl rfl rfl ?_ | (refine Raw.appendR (T := tt) ?_; (conv => whnf); first | refine Rw.lit rfl ?_ | refine Rw.self (by (try simp only [smT]); omega) ?_ | refine Rw.map (by (try simp only [smT]); omega) ?_) | refine Raw.appendIn (T := tt) rfl rfl rfl rfl rfl rfl rfl rfl rfl rfl (by (try simp only [smT]); omega) (by (try simp only [smT]); omega) ?_ | refine Raw.clear (T := tt) rfl rfl rfl rfl rfl rfl rfl (by (try simp only [smT]); omega) ?_ | refine Slc.mk ⟨_, _, rfl, rfl, (by (try simp only [smT]); omega), (by (try simp only [smT]); omega), ?_⟩ | refine Slc.mk ⟨0, _, rfl, rfl, (by (try simp only [smT]); omega), (by (try simp only [smT]); omega), ?_⟩ | refine Slc.mk ⟨1, _, rfl, rfl, (by (try simp only [smT]); omega), (by (try simp only [smT]); omega), ?_⟩ | refine Slc3.mk ⟨_, _, _, rfl, rfl, rfl, (by (try simp only [smT]); omega), (by (try simp only [smT]); omega), (by (try simp only [smT]); omega)⟩ ?_ | refine Drw.ofF (T := tt) (i := 3) [2, 3] [1] [(0, true), (1, true), (2, false), (3, false)] (by kernel_rfl) ?_ | refine Drw.ofP (T := tt) (i := 3) [2, 3] [0, 1] [0, 1] (OT.alt 2 (OT.alt 3 OT.nil OT.nil) OT.nil) (by kernel_rfl) ?_ | refine Drw.all (T := tt) (i := 3) (OT.alt 0 (OT.alt 1 (OT.alt 2 (OT.alt 3 OT.nil OT.nil) OT.nil) (OT.alt 2 (OT.alt 1 (OT.alt 3 OT.nil OT.nil) OT.nil) OT.nil)) (OT.alt 1 (OT.alt 0 (OT.alt 2 (OT.alt 3 OT.nil OT.nil) OT.nil) OT.nil) OT.nil)) (by kernel_rfl) ?_ | (refine CL.mk (Or.inl ?_); (conv => whnf); first | refine Cl.is (validate_T ⟨_, _, _, _⟩ hs) rfl (by first | exact fun _ => rfl | (intro e; cases e; done) | fail) ?_) | (refine CL.mk (Or.inl ?_); (conv => whnf); refine ClO.mk (Or.inl ?_); (repeat ((conv => whnf); refine Len.mk (by first | rfl | (simp; done) | (simp only [smT]; assumption) | (simp only [smT]; omega)) ?_)); (conv => whnf); first | refine Cl.is (validate_T ⟨_, _, _, _⟩ hs) rfl (by first | exact fun _ => rfl | (intro e; cases e; done) | fail) ?_) | (refine CL.mk (Or.inl ?_); (conv => whnf); refine ClO.mk (Or.inr ?_); (repeat ((conv => whnf); refine Len.mk (by first | rfl | (simp; done) | (simp only [smT]; assumption) | (simp only [smT]; omega)) ?_)); (conv => whnf); first | refine Cl.is (validate_T ⟨_, _, _, _⟩ hs) rfl (by first | exact fun _ => rfl | (intro e; cases e; done) | fail) ?_))
    all_goals (conv => whnf)
    all_goals exact Ret.nl (by repeat (first | exact NlSs.nil | exact NlL.nil | exact NlCs.nil | exact NlS.refl | exact NlD.refl | exact NlD.u (NlV.nl (by first | rfl | simp)) | exact NlD.u NlV.refl | refine NlSs.cons ?_ ?_ | refine NlL.cons ?_ ?_ | refine NlCs.cons ?_ ?_ | refine NlS.t ?_ | refine NlS.a ?_ | refine NlS.d ?_ | refine NlC.a ?_ | refine NlC.d ?_))
end Go.Proofs.Ytgiebofmfkacgaa
namespace Go.Proofs.Ytgiebofmfkacgaa
open Go.RowKit

theorem strike_filter (n : Int) : ∀ ts : List Tm, (ts.map (·.task)).Nodup → (match ts.findIdx? (·.task == n) with | some i => ts.eraseIdx i | none => ts) = ts.filter (fun t => t.task != n)
  | [], _ => by simp
  | t :: l, h => by
    simp only [List.map_cons, List.nodup_cons] at h
    have ih := strike_filter n l h.2
    rw [List.findIdx?_cons]
    cases ht : (t.task == n)
    · simp only [Bool.false_eq_true, if_false]
      have : (t.task != n) = true := by simp [bne, ht]
      rw [List.filter_cons]
      simp only [this, if_true]
      rw [← ih]
      cases l.findIdx? (·.task == n) <;> simp
    · have htn : t.task = n := by simpa using ht
      have : (t.task != n) = false := by simp [htn]
      rw [List.filter_cons]
      simp only [if_true, this, if_false, List.eraseIdx_cons_zero]
      simp only [Bool.false_eq_true, if_false]
      refine (List.filter_eq_self.2 fun x hx => ?_).symm
      have : x.task ≠ n := fun e => h.1 (by rw [htn, ← e]; exact List.mem_map_of_mem hx)
      simpa using this
theorem strike_woken {c : Ck} (h : Valid c) (n : Int) : strike c.ts n = wokenT n c.ts := by
  have hnd : (c.ts.map (·.task)).Nodup := (List.nodup_append.1 h.nodup).2.1
  have := strike_filter n c.ts hnd
  rw [wokenT, ← this, strike, tidx]
  cases c.ts.findIdx? (·.task == n) <;> simp
theorem tidx_none {ts : List Tm} {n : Int} (h : busyT ts n = false) : strike ts n = ts := by
  have := tidx_busy ts n
  rw [h] at this
  have : ¬ 0 ≤ tidx ts n := by simpa using this
  simp [strike, this]
theorem strike_len {ts : List Tm} {n : Int} (h : busyT ts n = true) : (strike ts n).length + 1 = ts.length := by
  have h1 := tidx_busy ts n
  rw [h] at h1
  have h2 : 0 ≤ tidx ts n := by simpa using h1
  have h3 := tidx_lt ts n
  rw [strike, if_pos h2, List.length_eraseIdx_of_lt (by omega)]
  omega
theorem cf_val {c : Ck} (h : (clockFault c).1 = 0) : (validate c).1 = 0 := by rw [← fault_eq]; exact h
theorem wake_ok {c : Ck} {n : Int} (h : (clockFault c).1 = 0) (hn : 0 ≤ n ∧ n ≤ 1000000000000000) (hb : busy c.rs c.ts n = true ∨ ¬ (c.rs.length : Int) + (c.ts.length : Int) = 1000) : wakeP c n = (wokenM c n, (0, 0)) := by
  have hV := cf_valid h
  have hlen := hV.len
  have ht := (timeB_iff n).2 hn
  cases hh : has c.rs n
  · have hw := strike_woken hV n
    rw [wakeP_ok (cf_val h) ht hh ?_]
    · simp [wokenM, hh, enq, hw]
    · cases hq : busyT c.ts n
      · rw [tidx_none hq]
        rcases hb with hb | hb
        · simp [busy, hq, hh] at hb
        · exact hb
      · have := strike_len hq
        omega
  · rw [wakeP_has (cf_val h) ht hh]
    simp [wokenM, hh]
theorem wake_small {c : Ck} {n : Int} (h : c.rs.length + c.ts.length ≤ 1000) : Small (wakeP c n).1 := by
  have hs : (strike c.ts n).length ≤ c.ts.length := by
    unfold strike
    split
    · exact List.length_eraseIdx_le ..
    · exact Nat.le_refl _
  unfold wakeP
  split
  · split
    · split
      · exact ⟨by dsimp only; omega, by dsimp only; omega⟩
      · split
        · exact ⟨by simp, by simp⟩
        · exact ⟨by simp; omega, by dsimp only; omega⟩
    · exact ⟨by simp, by simp⟩
  · exact ⟨by simp, by simp⟩
theorem wake_T' (now ser : Int) (rs : List Int) (ts : List Tm) (hs : Small ⟨now, ser, rs, ts⟩) (n y1 y2 : Int) (y3 : List Int) (y4 : List Tm) (f : Int × Int) (e : wakeP ⟨now, ser, rs, ts⟩ n = (⟨y1, y2, y3, y4⟩, f)) : CallsA Try.prog 25 [.a [.u (.int .i64 now), .u (.int .i64 ser), .u (ivs rs), .u (tvs ts)], di n] [] (Is (.t [.a [.u (.int .i64 y1), .u (.int .i64 y2), .u (ivs y3), .u (tvs y4)], .a (fd f)])) := by
  have := wake_T ⟨now, ser, rs, ts⟩ hs n
  rw [e] at this
  exact this
end Go.Proofs.Ytgiebofmfkacgaa
namespace Go.Proofs.Ytgiebofmfkacgaa
open Go.RowKit

structure Rc where
  time : Int
  task : Int
  kind : Int
  n : Int
abbrev Rc.v (r : Rc) : List V := [.int .i64 r.time, .int .i64 r.task, .int .i64 r.kind, .int .i64 r.n]
structure Ac where
  kind : Int
  n : Int
abbrev Ac.v (a : Ac) : List V := [.int .i64 a.kind, .int .i64 a.n]
abbrev avs (l : List Ac) : V := .sl 2 (l.map Ac.v)
structure Jb where
  acts : List Ac
  guard : List Ac
abbrev Jb.v (j : Jb) : List V := [avs j.acts, avs j.guard]
abbrev jvs (l : List Jb) : V := .sl 2 (l.map Jb.v)
structure Tsk where
  job : Int
  begun : Bool
  guarding : Bool
  ended : Bool
  cancelled : Bool
  left : List Ac
  waiters : List Int
abbrev Tsk.row (t : Tsk) : List E := [.v (.int .i64 t.job), .v (.bool t.begun), .v (.bool t.guarding), .v (.bool t.ended), .v (.bool t.cancelled), .v (avs t.left), .os 3 1 (t.waiters.map fun n => [V.int .i64 n])]
abbrev ptrs (n : Nat) : List (List V) := (List.range n).map fun i => [V.m 2 i 0]
abbrev smRow (jobs : List Jb) (now ser : Int) (rs : List Int) (ts : List Tm) (n : Nat) (log : List Rc) : List E := [.v (jvs jobs), .v (.int .i64 now), .v (.int .i64 ser), .v (ivs rs), .v (tvs ts), .os 102 1 (ptrs n), .os 55 4 (log.map Rc.v)]
abbrev smOb (jobs : List Jb) (now ser : Int) (rs : List Int) (ts : List Tm) (tasks : List Tsk) (log : List Rc) : List (Nat × Ob) := [(1, .fm 80 [smRow jobs now ser rs ts tasks.length log]), (2, .fm 104 (tasks.map Tsk.row))]
abbrev smP : SV := .d (.u (.m 1 0 0))

theorem note_T (jobs : List Jb) (now ser : Int) (rs : List Int) (ts : List Tm) (tasks : List Tsk) (log : List Rc) (n k x : Int) (hl : log.length ≤ 1000000) : CallsA Try.prog 61 [smP, di n, di k, di x] (smOb jobs now ser rs ts tasks log) (Iso (.t []) (smOb jobs now ser rs ts tasks (log ++ [⟨now, n, k, x⟩]))) := by
  refine callsA_of_vcO (T := tt) Try.func61 rfl rfl rfl rfl rfl ?_
  repeat' ((conv => whnf); first | refine Gs.id ?_ | with_reducible refine And.intro ?_ ?_ | with_reducible refine Brn.T rfl ?_ | with_reducible refine Brn.F rfl ?_ | refine Brn.T (by (try simp only [smT]); first | rfl | assumption | omega | (simp only [*]; done) | (simp [*]; done) | fail) ?_ | refine Brn.F (by (try simp only [smT]); first | rfl | assumption | omega | (simp only [*]; done) | (simp [*]; done) | fail) ?_ | (refine Brn.mk (fun hb => ?_) (fun hb => ?_) <;> (try simp only [smT] at hb) <;> (try (exact absurd trivial hb)) <;> (try (exfalso; omega))) | (refine Bnd.mk (fun hm => ?_); (try simp only [smT] at hm)) | refine Rng.mk (by (try simp only [smT]); omega) ?_ | refine Ix.map rfl (by (try simp only [smT]); omega) ?_ | refine Ix.map (m := 0) rfl (by (try simp only [smT]); omega) ?_ | refine Ix.lit (m := 0) rfl rfl ?_ | refine Ixo.mk ⟨_, rfl, (by (try simp only [smT]); omega), ?_⟩ | refine Rw.lit rfl ?_ | refine Rw.self (by (try simp only [smT]); omega) ?_ | refine Rw.map (by (try simp only [smT]); omega) ?_ | refine Len.mk (by first | rfl | (simp; done) | (simp only [smT]; assumption) | (simp only [smT]; omega)) ?_ | refine Eqv.mk (by kernel_rfl) ?_ | refine Apd.mk (by first | rfl | simp) (by first | rfl | simp) (by (try simp only [smT]); first | omega | (simp; omega)) (by unfold maxLen; first | (simp; done) | (simp; omega) | omega) ?_ | refine Raw.capNil (T := tt) rfl rfl rfl rfl ?_ | refine Raw.sliceNil (T := tt) rfl rfl (by first | rfl | omega | (simp; done)) rfl rfl rfl rfl ?_ | (refine Raw.appendR (T := tt) ?_; (conv => whnf); first | refine Rw.lit rfl ?_ | refine Rw.self (by (try simp only [smT]); omega) ?_ | refine Rw.map (by (try simp only [smT]); omega) ?_) | refine Raw.appendIn (T := tt) rfl rfl rfl rfl rfl rfl rfl rfl rfl rfl (by (try simp only [smT]); omega) (by (try simp only [smT]); omega) ?_ | refine Raw.clear (T := tt) rfl rfl rfl rfl rfl rfl rfl (by (try simp only [smT]); omega) ?_ | refine Slc.mk ⟨_, _, rfl, rfl, (by (try simp only [smT]); omega), (by (try simp only [smT]); omega), ?_⟩ | refine Slc.mk ⟨0, _, rfl, rfl, (by (try simp only [smT]); omega), (by (try simp only [smT]); omega), ?_⟩ | refine Slc.mk ⟨1, _, rfl, rfl, (by (try simp only [smT]); omega), (by (try simp only [smT]); omega), ?_⟩ | refine Slc3.mk ⟨_, _, _, rfl, rfl, rfl, (by (try simp only [smT]); omega), (by (try simp only [smT]); omega), (by (try simp only [smT]); omega)⟩ ?_ | refine Drw.of (T := tt) (i := 0) [15, 16, 17, 18] [0] [(0, true), (1, true), (2, true), (3, true), (4, true), (5, true), (6, true), (7, true), (8, true), (9, true), (10, true), (11, true), (12, true), (13, true), (14, false), (15, false), (16, false), (17, false), (18, false)] (by kernel_rfl) ?_)
  all_goals (conv => whnf)
  · exact RetO.mk ⟨[], _, _, .ts .nil, LeO.fm rfl (by simp [Rc.v]) (LeO.fm rfl rfl .nil), rfl, rfl⟩
theorem ready_T' (now ser : Int) (rs : List Int) (ts : List Tm) (hs : Small ⟨now, ser, rs, ts⟩) (n y1 y2 : Int) (y3 : List Int) (y4 : List Tm) (f : Int × Int) (e : readyM ⟨now, ser, rs, ts⟩ n = (⟨y1, y2, y3, y4⟩, f)) : CallsA Try.prog 11 [.a [.u (.int .i64 now), .u (.int .i64 ser), .u (ivs rs), .u (tvs ts)], di n] [] (Is (.t [.a [.u (.int .i64 y1), .u (.int .i64 y2), .u (ivs y3), .u (tvs y4)], .a (fd f)])) := by
  have := ready_T ⟨now, ser, rs, ts⟩ hs n
  rw [e] at this
  exact this
theorem ptrs_succ (n : Nat) : ptrs n ++ [[V.m 2 n 0]] = ptrs (n + 1) := by simp [ptrs, List.range_succ]
theorem spawn_T (jobs : List Jb) (now ser : Int) (rs : List Int) (ts : List Tm) (tasks : List Tsk) (log : List Rc) (j : Nat) (hj : j < jobs.length) (hn : tasks.length < 60) (hs : Small ⟨now, ser, rs, ts⟩) (y1 y2 : Int) (y3 : List Int) (y4 : List Tm) (f : Int × Int) (e : readyM ⟨now, ser, rs, ts⟩ tasks.length = (⟨y1, y2, y3, y4⟩, f)) :
    CallsA Try.prog 46 [smP, di j] (smOb jobs now ser rs ts tasks log) (Iso (.t []) (smOb jobs y1 y2 y3 y4 (tasks ++ [⟨j, false, false, false, false, jobs[j].acts, []⟩]) log)) := by
  refine callsA_of_vcO (T := tt) Try.func46 rfl rfl rfl rfl rfl ?_
  repeat' ((conv => whnf); first | refine Gs.id ?_ | with_reducible refine And.intro ?_ ?_ | with_reducible refine Brn.T rfl ?_ | with_reducible refine Brn.F rfl ?_ | refine Brn.T (by (try simp only [smT]); first | rfl | assumption | omega | (simp only [*]; done) | (simp [*]; done) | fail) ?_ | refine Brn.F (by (try simp only [smT]); first | rfl | assumption | omega | (simp only [*]; done) | (simp [*]; done) | fail) ?_ | (refine Brn.mk (fun hb => ?_) (fun hb => ?_) <;> (try simp only [smT] at hb) <;> (try (exact absurd trivial hb)) <;> (try (exfalso; omega))) | (refine Bnd.mk (fun hm => ?_); (try simp only [smT] at hm)) | refine Rng.mk (by (try simp only [smT]); omega) ?_ | refine Ix.map rfl (by (try simp only [smT]); omega) ?_ | refine Ix.map (m := 0) rfl (by (try simp only [smT]); omega) ?_ | refine Ix.lit (m := 0) rfl rfl ?_ | refine Ixo.mk ⟨_, rfl, (by (try simp only [smT]); omega), ?_⟩ | refine Rw.lit rfl ?_ | refine Rw.self (by (try simp only [smT]); omega) ?_ | refine Rw.map (by (try simp only [smT]); omega) ?_ | refine Len.mk (by first | rfl | (simp; done) | (simp only [smT]; assumption) | (simp only [smT]; omega)) ?_ | refine Eqv.mk (by kernel_rfl) ?_ | refine Apd.mk (by first | rfl | simp) (by first | rfl | simp) (by (try simp only [smT]); first | omega | (simp; omega)) (by unfold maxLen; first | (simp; done) | (simp; omega) | omega) ?_ | refine Raw.capNil (T := tt) rfl rfl rfl rfl ?_ | refine Raw.sliceNil (T := tt) rfl rfl (by first | rfl | omega | (simp; done)) rfl rfl rfl rfl ?_ | (refine Raw.appendR (T := tt) ?_; (conv => whnf); first | refine Rw.lit rfl ?_ | refine Rw.self (by (try simp only [smT]); omega) ?_ | refine Rw.map (by (try simp only [smT]); omega) ?_) | refine Raw.appendIn (T := tt) rfl rfl rfl rfl rfl rfl rfl rfl rfl rfl (by (try simp only [smT]); omega) (by (try simp only [smT]); omega) ?_ | refine Raw.clear (T := tt) rfl rfl rfl rfl rfl rfl rfl (by (try simp only [smT]); omega) ?_ | refine Slc.mk ⟨_, _, rfl, rfl, (by (try simp only [smT]); omega), (by (try simp only [smT]); omega), ?_⟩ | refine Slc.mk ⟨0, _, rfl, rfl, (by (try simp only [smT]); omega), (by (try simp only [smT]); omega), ?_⟩ | refine Slc.mk ⟨1, _, rfl, rfl, (by (try simp only [smT]); omega), (by (try simp only [smT]); omega), ?_⟩ | refine Slc3.mk ⟨_, _, _, rfl, rfl, rfl, (by (try simp only [smT]); omega), (by (try simp only [smT]); omega), (by (try simp only [smT]); omega)⟩ ?_ | refine Drw.of (T := tt) (i := 1) [17, 18, 19, 20] [0] [(0, true), (1, true), (2, true), (3, true), (4, true), (5, true), (6, true), (7, true), (8, true), (9, true), (10, true), (11, true), (12, true), (13, true), (14, true), (15, false), (16, false), (17, false), (18, false), (19, false), (20, false)] (by kernel_rfl) ?_ | refine Drw.of (T := tt) (i := 2) [17] [14] [(0, true), (1, true), (2, true), (3, true), (4, true), (5, true), (6, true), (7, true), (8, true), (9, true), (10, true), (11, false), (12, true), (13, true), (14, true), (15, true), (16, true), (17, false)] (by kernel_rfl) ?_ | (refine CL.mk (Or.inl ?_); (conv => whnf); first | refine Cl.is (ready_T' _ _ _ _ hs _ y1 y2 y3 y4 f (by simpa using e)) rfl (by first | exact fun _ => rfl | (intro e; cases e; done) | fail) ?_) | (refine CL.mk (Or.inl ?_); (conv => whnf); refine ClO.mk (Or.inl ?_); (repeat ((conv => whnf); refine Len.mk (by first | rfl | (simp; done) | (simp only [smT]; assumption) | (simp only [smT]; omega)) ?_)); (conv => whnf); first | refine Cl.is (ready_T' _ _ _ _ hs _ y1 y2 y3 y4 f (by simpa using e)) rfl (by first | exact fun _ => rfl | (intro e; cases e; done) | fail) ?_) | (refine CL.mk (Or.inl ?_); (conv => whnf); refine ClO.mk (Or.inr ?_); (repeat ((conv => whnf); refine Len.mk (by first | rfl | (simp; done) | (simp only [smT]; assumption) | (simp only [smT]; omega)) ?_)); (conv => whnf); first | refine Cl.is (ready_T' _ _ _ _ hs _ y1 y2 y3 y4 f (by simpa using e)) rfl (by first | exact fun _ => rfl | (intro e; cases e; done) | fail) ?_) | refine Spc.mk ⟨[(6,(3,1))], ?_⟩)
  all_goals (conv => whnf)
  · exact RetO.mk ⟨[], _, _, .ts .nil, LeO.fm rfl (by simp [ptrs_succ]) (LeO.fm rfl (by simp; rfl) .nil), rfl, rfl⟩

theorem note_T' (jobs : List Jb) (now ser : Int) (rs : List Int) (ts : List Tm) (tasks : List Tsk) (log : List Rc) (n k x : Int) (hl : log.length ≤ 1000000) (r1 r2 : List (List E)) (e1 : r1 = [smRow jobs now ser rs ts tasks.length log]) (e2 : r2 = tasks.map Tsk.row) :
    CallsA Try.prog 61 [smP, di n, di k, di x] [(1, .fm 80 r1), (2, .fm 104 r2)] (Iso (.t []) (smOb jobs now ser rs ts tasks (log ++ [⟨now, n, k, x⟩]))) := by
  subst e1 e2
  exact note_T jobs now ser rs ts tasks log n k x hl
theorem Rw_ptrs {n m : Nat} {K : List V → Prop} (h : m < n) (k : K [V.m 2 m 0]) : Rw (ptrs n) m K := ⟨_, by simp [ptrs, h], k⟩
def wakes (c : Ck) : List Int → Ck
  | [] => c
  | w :: r => wakes (readyM c w).1 r
theorem wakes_step (c : Ck) (ws : List Int) (i : Nat) (h : i < ws.length) : wakes c (ws.drop i) = wakes (readyM c ws[i]).1 (ws.drop (i + 1)) := by
  rw [List.drop_eq_getElem_cons h]; rfl
theorem Rw_tsk {l : List Tsk} {n : Nat} {t : Tsk} {K : List E → Prop} (h : l[n]? = some t) (k : K t.row) : Rw (l.map Tsk.row) n K := ⟨_, by simp [h], k⟩
theorem Rw_mset {l : List Tsk} {n : Nat} {t : Tsk} {K : List E → Prop} (h : n < l.length) (k : K t.row) : Rw ((l.set n t).map Tsk.row) n K := ⟨_, by simp [h], k⟩
theorem lt_of_get {α : Type} {l : List α} {n : Nat} {t : α} (h : l[n]? = some t) : n < l.length := (List.getElem?_eq_some_iff.1 h).1
theorem end_T (jobs : List Jb) (now ser : Int) (rs : List Int) (ts : List Tm) (tasks : List Tsk) (log : List Rc) (n : Nat) (job : Int) (begun guarding ended cancelled : Bool) (left : List Ac) (ws : List Int) (ht : tasks[n]? = some ⟨job, begun, guarding, ended, cancelled, left, ws⟩) (hl : log.length ≤ 1000000) (hs : Small ⟨now, ser, rs, ts⟩) (y1 y2 : Int) (y3 : List Int) (y4 : List Tm) (e : wakes ⟨now, ser, rs, ts⟩ ws = ⟨y1, y2, y3, y4⟩) (r1 r2 : List (List E)) (e1 : r1 = [smRow jobs now ser rs ts tasks.length log]) (e2 : r2 = tasks.map Tsk.row) :
    CallsA Try.prog 62 [smP, di n] [(1, .fm 80 r1), (2, .fm 104 r2)] (Iso (.t []) (smOb jobs y1 y2 y3 y4 (tasks.set n ⟨job, begun, guarding, true, cancelled, left, []⟩) (log ++ [⟨now, n, 3, 0⟩]))) := by
  subst e1 e2
  have hn := lt_of_get ht
  refine callsA_of_vcO (T := tt) Try.func62 rfl rfl rfl rfl rfl ?_
  repeat' ((conv => whnf); first | refine Rw_ptrs (by omega) ?_ | refine Rw_tsk ht ?_ | refine Rw_mset hn ?_ | refine Gs.id ?_ | with_reducible refine And.intro ?_ ?_ | with_reducible refine Brn.T rfl ?_ | with_reducible refine Brn.F rfl ?_ | refine Brn.T (by (try simp only [smT]); first | rfl | assumption | omega | (simp only [*]; done) | (simp [*]; done) | fail) ?_ | refine Brn.F (by (try simp only [smT]); first | rfl | assumption | omega | (simp only [*]; done) | (simp [*]; done) | fail) ?_ | (refine Brn.mk (fun hb => ?_) (fun hb => ?_) <;> (try simp only [smT] at hb) <;> (try (exact absurd trivial hb)) <;> (try (exfalso; omega))) | (refine Bnd.mk (fun hm => ?_); (try simp only [smT] at hm)) | refine Rng.mk (by (try simp only [smT]); omega) ?_ | refine Ix.map rfl (by (try simp only [smT]); omega) ?_ | refine Ix.map (m := 0) rfl (by (try simp only [smT]); omega) ?_ | refine Ix.lit (m := 0) rfl rfl ?_ | refine Ixo.mk ⟨_, rfl, (by (try simp only [smT]); omega), ?_⟩ | refine Rw.lit rfl ?_ | refine Rw.self (by (try simp only [smT]); omega) ?_ | refine Rw.map (by (try simp only [smT]); omega) ?_ | refine Len.mk (by first | rfl | (simp; done) | (simp only [smT]; assumption) | (simp only [smT]; omega)) ?_ | refine Eqv.mk (by kernel_rfl) ?_ | refine Apd.mk (by first | rfl | simp) (by first | rfl | simp) (by (try simp only [smT]); first | omega | (simp; omega)) (by unfold maxLen; first | (simp; done) | (simp; omega) | omega) ?_ | refine Raw.capNil (T := tt) rfl rfl rfl rfl ?_ | refine Raw.sliceNil (T := tt) rfl rfl (by first | rfl | omega | (simp; done)) rfl rfl rfl rfl ?_ | (refine Raw.appendR (T := tt) ?_; (conv => whnf); first | refine Rw_ptrs (by omega) ?_ | refine Rw_tsk ht ?_ | refine Rw_mset hn ?_ | refine Rw.lit rfl ?_ | refine Rw.self (by (try simp only [smT]); omega) ?_ | refine Rw.map (by (try simp only [smT]); omega) ?_) | refine Raw.appendIn (T := tt) rfl rfl rfl rfl rfl rfl rfl rfl rfl rfl (by (try simp only [smT]); omega) (by (try simp only [smT]); omega) ?_ | refine Raw.clear (T := tt) rfl rfl rfl rfl rfl rfl rfl (by (try simp only [smT]); omega) ?_ | refine Slc.mk ⟨_, _, rfl, rfl, (by (try simp only [smT]); omega), (by (try simp only [smT]); omega), ?_⟩ | refine Slc.mk ⟨0, _, rfl, rfl, (by (try simp only [smT]); omega), (by (try simp only [smT]); omega), ?_⟩ | refine Slc.mk ⟨1, _, rfl, rfl, (by (try simp only [smT]); omega), (by (try simp only [smT]); omega), ?_⟩ | refine Slc3.mk ⟨_, _, _, rfl, rfl, rfl, (by (try simp only [smT]); omega), (by (try simp only [smT]); omega), (by (try simp only [smT]); omega)⟩ ?_ | (refine CL.mk (Or.inr (Raw.callI [1,2] [1,2] rfl rfl rfl rfl rfl rfl rfl (note_T' jobs now ser rs ts (tasks.set n ⟨job, begun, guarding, true, cancelled, left, ws⟩) log _ _ _ hl _ _ (by simp) (by simp [List.map_set])) ?_)); rintro _ _ ⟨rfl, rfl⟩; refine Bk.mk rfl rfl ?_))
  all_goals (conv => whnf)
  · refine ⟨⟨Nat × Ck, fun q => q.1 ≤ ws.length ∧ wakes q.2 (ws.drop q.1) = ⟨y1, y2, y3, y4⟩ ∧ Small q.2, fun q => ws.length - q.1, fun q => ⟨[(0, smP), (4, .d (.u (.m 2 n 0))), (23, .d (.r 2 n 6 1 ws.length)), (24, di ws.length), (25, di q.1)], smOb jobs q.2.now q.2.ser q.2.rs q.2.ts (tasks.set n ⟨job, begun, guarding, true, cancelled, left, ws⟩) (log ++ [⟨now, n, 3, 0⟩])⟩, (0, ⟨now, ser, rs, ts⟩), ⟨Nat.zero_le _, e, hs⟩, ⟨[(1, .k 1), (2, .k 2)], ⟨by (try dsimp only); (repeat (refine LeT.cons rfl (by first | exact LeS.d (by first | exact LeD.u rfl | exact LeD.p rfl | exact LeD.ow rfl rfl | exact LeD.ow rfl (by simp) | exact LeD.no rfl rfl | exact LeD.nl (by first | rfl | simp) | exact LeD.u (by simp; done) | exact LeD.u (by congr 1; omega) | exact LeD.q rfl | exact LeD.r rfl | exact LeD.r (by simp; done) | exact LeD.re | exact LeD.ows rfl rfl rfl | exact LeD.u (by congr 1; congr 1; simp) | exact LeD.fn (by repeat (first | exact LeN.nil | refine LeN.cons rfl ?_))) | exact LeS.a (by repeat (first | exact LeL.nil | refine LeL.cons (by first | exact LeD.u rfl | exact LeD.p rfl | exact LeD.ow rfl rfl | exact LeD.ow rfl (by simp) | exact LeD.no rfl rfl | exact LeD.nl (by first | rfl | simp) | exact LeD.u (by simp; done) | exact LeD.u (by congr 1; omega) | exact LeD.q rfl | exact LeD.r rfl | exact LeD.r (by simp; done) | exact LeD.re | exact LeD.ows rfl rfl rfl | exact LeD.u (by congr 1; congr 1; simp) | exact LeD.fn (by repeat (first | exact LeN.nil | refine LeN.cons rfl ?_))) ?_))) ?_)); exact LeT.nil, by (try dsimp only); repeat (first | exact LeO.nil | refine LeO.bx rfl rfl (by repeat (first | exact LeL.nil | refine LeL.cons (by first | exact LeD.u rfl | exact LeD.p rfl | exact LeD.ow rfl rfl | exact LeD.ow rfl (by simp) | exact LeD.no rfl rfl | exact LeD.nl (by first | rfl | simp) | exact LeD.u (by simp; done) | exact LeD.u (by congr 1; omega) | exact LeD.q rfl | exact LeD.r rfl | exact LeD.r (by simp; done) | exact LeD.re | exact LeD.ows rfl rfl rfl | exact LeD.u (by congr 1; congr 1; simp) | exact LeD.fn (by repeat (first | exact LeN.nil | refine LeN.cons rfl ?_))) ?_)) ?_ | refine LeO.ar rfl rfl (by first | rfl | simp) ?_ | refine LeO.fm rfl (by first | rfl | simp) ?_ | refine LeO.no rfl rfl ?_)⟩⟩, fun ⟨i, c⟩ ⟨hi, he, hc⟩ => ?_⟩⟩
    obtain ⟨b1, b2, b3, b4⟩ := c
    dsimp only at hi he hc ⊢
    generalize hz : readyM ⟨b1, b2, b3, b4⟩ (ws.getD i 0) = z
    obtain ⟨⟨z1, z2, z3, z4⟩, zf⟩ := z
    repeat' ((conv => whnf); first | refine Rw_ptrs (by omega) ?_ | refine Rw_mset hn ?_ | refine Gs.id ?_ | with_reducible refine And.intro ?_ ?_ | with_reducible refine Brn.T rfl ?_ | with_reducible refine Brn.F rfl ?_ | refine Brn.T (by (try simp only [smT]); first | rfl | assumption | omega | (simp only [*]; done) | (simp [*]; done) | fail) ?_ | refine Brn.F (by (try simp only [smT]); first | rfl | assumption | omega | (simp only [*]; done) | (simp [*]; done) | fail) ?_ | (refine Brn.mk (fun hb => ?_) (fun hb => ?_) <;> (try simp only [smT] at hb) <;> (try (exact absurd trivial hb)) <;> (try (exfalso; omega))) | (refine Bnd.mk (fun hm => ?_); (try simp only [smT] at hm)) | refine Rng.mk (by (try simp only [smT]); omega) ?_ | refine Ix.map rfl (by (try simp only [smT]); omega) ?_ | refine Ix.map (m := 0) rfl (by (try simp only [smT]); omega) ?_ | refine Ix.lit (m := 0) rfl rfl ?_ | refine Ixo.mk ⟨_, rfl, (by (try simp only [smT]); omega), ?_⟩ | refine Rw.lit rfl ?_ | refine Rw.self (by (try simp only [smT]); omega) ?_ | refine Rw.map (by (try simp only [smT]); omega) ?_ | refine Len.mk (by first | rfl | (simp; done) | (simp only [smT]; assumption) | (simp only [smT]; omega)) ?_ | refine Eqv.mk (by kernel_rfl) ?_ | refine Apd.mk (by first | rfl | simp) (by first | rfl | simp) (by (try simp only [smT]); first | omega | (simp; omega)) (by unfold maxLen; first | (simp; done) | (simp; omega) | omega) ?_ | refine Raw.capNil (T := tt) rfl rfl rfl rfl ?_ | refine Raw.sliceNil (T := tt) rfl rfl (by first | rfl | omega | (simp; done)) rfl rfl rfl rfl ?_ | (refine Raw.appendR (T := tt) ?_; (conv => whnf); first | refine Rw_ptrs (by omega) ?_ | refine Rw_mset hn ?_ | refine Rw.lit rfl ?_ | refine Rw.self (by (try simp only [smT]); omega) ?_ | refine Rw.map (by (try simp only [smT]); omega) ?_) | refine Raw.appendIn (T := tt) rfl rfl rfl rfl rfl rfl rfl rfl rfl rfl (by (try simp only [smT]); omega) (by (try simp only [smT]); omega) ?_ | refine Raw.clear (T := tt) rfl rfl rfl rfl rfl rfl rfl (by (try simp only [smT]); omega) ?_ | refine Slc.mk ⟨_, _, rfl, rfl, (by (try simp only [smT]); omega), (by (try simp only [smT]); omega), ?_⟩ | refine Slc.mk ⟨0, _, rfl, rfl, (by (try simp only [smT]); omega), (by (try simp only [smT]); omega), ?_⟩ | refine Slc.mk ⟨1, _, rfl, rfl, (by (try simp only [smT]); omega), (by (try simp only [smT]); omega), ?_⟩ | refine Slc3.mk ⟨_, _, _, rfl, rfl, rfl, (by (try simp only [smT]); omega), (by (try simp only [smT]); omega), (by (try simp only [smT]); omega)⟩ ?_ | (refine CL.mk (Or.inl ?_); (conv => whnf); first | refine Cl.is (ready_T' _ _ _ _ hc _ z1 z2 z3 z4 zf (by have h9 : i < ws.length := (by omega); simpa [h9] using hz)) rfl (by first | exact fun _ => rfl | (intro e; cases e; done) | fail) ?_) | (refine CL.mk (Or.inl ?_); (conv => whnf); refine ClO.mk (Or.inl ?_); (repeat ((conv => whnf); refine Len.mk (by first | rfl | (simp; done) | (simp only [smT]; assumption) | (simp only [smT]; omega)) ?_)); (conv => whnf); first | refine Cl.is (ready_T' _ _ _ _ hc _ z1 z2 z3 z4 zf (by have h9 : i < ws.length := (by omega); simpa [h9] using hz)) rfl (by first | exact fun _ => rfl | (intro e; cases e; done) | fail) ?_) | (refine CL.mk (Or.inl ?_); (conv => whnf); refine ClO.mk (Or.inr ?_); (repeat ((conv => whnf); refine Len.mk (by first | rfl | (simp; done) | (simp only [smT]; assumption) | (simp only [smT]; omega)) ?_)); (conv => whnf); first | refine Cl.is (ready_T' _ _ _ _ hc _ z1 z2 z3 z4 zf (by have h9 : i < ws.length := (by omega); simpa [h9] using hz)) rfl (by first | exact fun _ => rfl | (intro e; cases e; done) | fail) ?_))
    all_goals (conv => whnf)
    · have h9 : i < ws.length := by omega
      have hz' : readyM ⟨b1, b2, b3, b4⟩ ws[i] = (⟨z1, z2, z3, z4⟩, zf) := by simpa [h9] using hz
      have hq := ready_small ⟨b1, b2, b3, b4⟩ ws[i]
      rw [wakes_step _ _ _ h9] at he
      rw [hz'] at he hq
      exact ⟨(i + 1, ⟨z1, z2, z3, z4⟩), ⟨by dsimp only; omega, he, hq⟩, by dsimp only; omega, [(1, .k 1), (2, .k 2)], ⟨by (try dsimp only); (repeat (refine LeT.cons rfl (by first | exact LeS.d (by first | exact LeD.u rfl | exact LeD.p rfl | exact LeD.ow rfl rfl | exact LeD.ow rfl (by simp) | exact LeD.no rfl rfl | exact LeD.nl (by first | rfl | simp) | exact LeD.u (by simp; done) | exact LeD.u (by congr 1; omega) | exact LeD.q rfl | exact LeD.r rfl | exact LeD.r (by simp; done) | exact LeD.re | exact LeD.ows rfl rfl rfl | exact LeD.u (by congr 1; congr 1; simp) | exact LeD.fn (by repeat (first | exact LeN.nil | refine LeN.cons rfl ?_))) | exact LeS.a (by repeat (first | exact LeL.nil | refine LeL.cons (by first | exact LeD.u rfl | exact LeD.p rfl | exact LeD.ow rfl rfl | exact LeD.ow rfl (by simp) | exact LeD.no rfl rfl | exact LeD.nl (by first | rfl | simp) | exact LeD.u (by simp; done) | exact LeD.u (by congr 1; omega) | exact LeD.q rfl | exact LeD.r rfl | exact LeD.r (by simp; done) | exact LeD.re | exact LeD.ows rfl rfl rfl | exact LeD.u (by congr 1; congr 1; simp) | exact LeD.fn (by repeat (first | exact LeN.nil | refine LeN.cons rfl ?_))) ?_))) ?_)); exact LeT.nil, by (try dsimp only); repeat (first | exact LeO.nil | refine LeO.bx rfl rfl (by repeat (first | exact LeL.nil | refine LeL.cons (by first | exact LeD.u rfl | exact LeD.p rfl | exact LeD.ow rfl rfl | exact LeD.ow rfl (by simp) | exact LeD.no rfl rfl | exact LeD.nl (by first | rfl | simp) | exact LeD.u (by simp; done) | exact LeD.u (by congr 1; omega) | exact LeD.q rfl | exact LeD.r rfl | exact LeD.r (by simp; done) | exact LeD.re | exact LeD.ows rfl rfl rfl | exact LeD.u (by congr 1; congr 1; simp) | exact LeD.fn (by repeat (first | exact LeN.nil | refine LeN.cons rfl ?_))) ?_)) ?_ | refine LeO.ar rfl rfl (by first | rfl | simp) ?_ | refine LeO.fm rfl (by first | rfl | simp) ?_ | refine LeO.no rfl rfl ?_)⟩⟩
    · have h9 : i = ws.length := by omega
      subst h9
      rw [List.drop_length] at he
      injection he with q1 q2 q3 q4
      subst q1 q2 q3 q4
      exact RetO.mk ⟨[], _, _, .ts .nil, LeO.fm rfl (by simp) (LeO.fm rfl (by simp [List.map_set, Tsk.row]) .nil), rfl, rfl⟩
end Go.Proofs.Ytgiebofmfkacgaa
