/-
  Contracts: Ready, Enqueued.
-/
import Derived.Test.YtgiebofmfkacgaaEl9
namespace Go.Proofs.Ytgiebofmfkacgaa
open Go.RowKit

def readyM (c : Ck) (n : Int) : Ck × (Int × Int) := if (idleF c n).1 = 0 then (⟨c.now, c.ser, c.rs ++ [n], c.ts⟩, (0, 0)) else (⟨0, 0, [], []⟩, idleF c n)
theorem idle_small {c : Ck} {n : Int} (h : (idleF c n).1 = 0) : c.rs.length + c.ts.length < 1000 := by
  unfold idleF at h
  split at h
  · rename_i h0
    have := validate_small h0
    split at h
    · split at h
      · simp at h
      · split at h
        · simp at h
        · omega
    · simp at h
  · omega
theorem zero_ckat (w : World) (ok : Nat → Prop) : CkIn w ok ⟨0, 0, [], []⟩ (.agg #[.int .i64 0, .int .i64 0, .slice none 0 0, .slice none 0 0]) :=
  ⟨none, 0, none, 0, rfl, RdIn.nil, RdIn.nil, by simp, by simp, by simp, by simp⟩
theorem ckin_of_own {w : World} {b1 b2 base c1 c2 : Nat} {A1 A2 : Option Addr} {now ser : Int} {rs : List Int} {ts : List Tm} (h1 : w.ownsRow b1 3 1 (.slice A1 rs.length c1) rs.length (ints rs)) (h2 : w.ownsRow b2 46 3 (.slice A2 ts.length c2) ts.length (rows Tm.cells ts))
    (hr : rs.length ≤ 17592186043904) (ht : ts.length ≤ 17592186043904) (hb1 : base ≤ b1) (hb2 : base ≤ b2) : CkIn w (base ≤ ·) ⟨now, ser, rs, ts⟩ (.agg #[.int .i64 now, .int .i64 ser, .slice A1 rs.length c1, .slice A2 ts.length c2]) := by
  obtain ⟨A', c', ev, hc1, _⟩ := own_form h1
  injection ev with e1 e2 e3
  subst e1 e3
  obtain ⟨A', c', ev, hc3, _⟩ := own_form h2
  injection ev with e1 e2 e3
  subst e1 e3
  exact ⟨A1, c1, A2, c2, rfl, RdIn.of_own (own_mono h1 hb1), RdIn.of_own (own_mono h2 hb2), hc1, hc3, hr, ht⟩
/-- A post that is kept whole. -/
def RetCk (m : Ck × (Int × Int)) (w : World) (e : Ending) (w' : World) : Prop := ∃ v, e = .returned (.tuple #[v, flt m.2]) ∧ CkIn w' (w.heap.size ≤ ·) m.1 v ∧ Below w.heap.size w w'

set_option maxHeartbeats 400000 in
theorem ready_any (c : Ck) (v : Value) (n : Int) (w : World) (hv : CkAt w c v) :
    Calls Try.prog 11 #[v, .int .i64 n] w (RetCk (readyM c n) w) := by
  have hv0 := hv
  obtain ⟨now, ser, rs, ts⟩ := c
  obtain ⟨RA, rc, TA, tc, rfl, hr, ht, hrc, htc, hrl, htl⟩ := hv
  dsimp only at hr ht hrc htc hrl htl ⊢
  have Hv := Lib.hid hv0; clear hv0
  go_enter Try.func11, Try.ntmps11
  go_wp2_with fail
  refine (idle_any _ _ n _ (Hv.out.below (by repeat (first | (with_reducible exact Below.refl _ _) | (with_reducible apply Below.drew) | (with_reducible apply below_drewN) | ((with_reducible refine Below.setCell ?_ ?_ _); rotate_left; (focus (first | (simp; done) | (simp; omega) | omega))) | ((with_reducible refine Below.alloc ?_ ?_ _); rotate_left; (focus (first | (simp; done) | (simp; omega) | omega))))))).mono ?_
  rintro e w1 ⟨rfl, hb1⟩
  obtain ⟨k1, k2, k3, hz1⟩ := box3 (w := w) hb1 rfl (by simp)
  have hy1 : w.heap.size < w1.heap.size := by omega
  have hx1 : w.heap.size + 1 < w1.heap.size := by omega
  have hB1 : Below w.heap.size w w1 := Below.trans (by repeat (first | (with_reducible exact Below.refl _ _) | (with_reducible apply Below.drew) | (with_reducible apply below_drewN) | ((with_reducible refine Below.setCell ?_ ?_ _); rotate_left; (focus (first | (simp; done) | (simp; omega) | omega))) | ((with_reducible refine Below.alloc ?_ ?_ _); rotate_left; (focus (first | (simp; done) | (simp; omega) | omega))))) (hb1.mono (by simp; omega))
  clear hb1
  have hsm := @idle_small ⟨now, ser, rs, ts⟩ n
  generalize hf : idleF ⟨now, ser, rs, ts⟩ n = f at hsm ⊢
  obtain ⟨f1, f2⟩ := f
  dsimp only at hsm
  by_cases hc : f1 = 0
  rotate_left
  · have hq : (f1 != 0) = true := by simpa using hc
    have HF := Lib.hid (show readyM ⟨now, ser, rs, ts⟩ n = (⟨0, 0, [], []⟩, (f1, f2)) by simp [readyM, hf, hc])
    obtain ⟨p0, p1, p2, p3, p4, p5, p6, p7⟩ := Blk.four k1
    obtain ⟨q0, q1, q2, q3, q4, q5, q6, q7⟩ := Blk.four k2
    obtain ⟨r0, r1, r2, r3⟩ := Blk.two k3
    clear hc hf hsm k1 k2 k3
    go_wp2
    go_region
    go_wp2
    refine bodyPost_ret (v := .tuple #[.agg #[.int .i64 0, .int .i64 0, .slice none 0 0, .slice none 0 0], .agg #[.int .i64 f1, .int .i64 f2]]) (by simp [results, Try.results11, go_sem, q0, q1, q2, q3, r0, r1, hz1, hx1]) rfl ?_
    rw [HF.out]
    exact ⟨_, rfl, zero_ckat _ _, (by repeat (first | (with_reducible exact hB1) | (with_reducible exact Below.refl _ _) | (with_reducible apply Below.drew) | (with_reducible apply below_drewN) | ((with_reducible refine Below.setCell ?_ ?_ _); rotate_left; (focus (first | (simp; done) | (simp; omega) | omega))) | ((with_reducible refine Below.alloc ?_ ?_ _); rotate_left; (focus (first | (simp; done) | (simp; omega) | omega)))))⟩
  have hlen := hsm hc
  subst hc
  have HF := Lib.hid (show readyM ⟨now, ser, rs, ts⟩ n = (⟨now, ser, rs ++ [n], ts⟩, (0, 0)) by simp [readyM, hf])
  clear hf hsm
  obtain ⟨p0, p1, p2, p3, p4, p5, p6, p7⟩ := Blk.four k1
  have HC := Lib.hid (fun o : Obj => clone_any ⟨now, ser, rs, ts⟩ _ (w1.alloc o) ((Hv.out.below hB1).below ((Below.refl _ _).alloc (Nat.le_refl _) o)) (by dsimp only; omega))
  have K1 := Lib.hid k1; have K2 := Lib.hid k2; have K3 := Lib.hid k3
  clear k1 k2 k3
  go_wp2_with fail
  refine (HC.out _).mono ?_
  rintro e w2 ⟨A1, c1, A2, c2, rfl, ho1, ho2, hb2⟩
  have hbB : Below (w.heap.size + 3) w1 w2 := Below.trans (by repeat (first | (with_reducible exact Below.refl _ _) | (with_reducible apply Below.drew) | (with_reducible apply below_drewN) | ((with_reducible refine Below.setCell ?_ ?_ _); rotate_left; (focus (first | (simp; done) | (simp; omega) | omega))) | ((with_reducible refine Below.alloc ?_ ?_ _); rotate_left; (focus (first | (simp; done) | (simp; omega) | omega))))) (hb2.mono (by simp; omega))
  have hB2 : Below w.heap.size w w2 := hB1.trans (hbB.mono (by omega))
  have l1 : Blk w2 w.heap.size 25 _ := (hbB.block w.heap.size (by omega)).trans K1.out
  have l2 : Blk w2 (w.heap.size + 1) 25 _ := (hbB.block (w.heap.size + 1) (by omega)).trans K2.out
  have l3 : Blk w2 (w.heap.size + 2) 27 _ := (hbB.block (w.heap.size + 2) (by omega)).trans K3.out
  obtain ⟨q0, q1, q2, q3, q4, q5, q6, q7⟩ := l1.four
  replace ho1 := own_mono (base' := w.heap.size + 3) ho1 (by simp; omega)
  replace ho2 := own_mono (base' := w.heap.size + 3) ho2 (by simp; omega)
  have hz2 : w.heap.size + 2 < w2.heap.size := Nat.lt_of_lt_of_le hz1 hbB.size
  have hy2 : w.heap.size < w2.heap.size := by omega
  clear p0 p1 p2 p3 p4 p5 p6 p7 hb2 hbB HC
  have m1 := Lib.hid (fun o => (l1.set4 (.int .i64 now) (.int .i64 ser) (.slice A1 rs.length c1) (.slice A2 ts.length c2)).alloc o)
  have m2 := Lib.hid (fun o => (l2.far4 (g' := w.heap.size) (by omega) (.int .i64 now) (.int .i64 ser) (.slice A1 rs.length c1) (.slice A2 ts.length c2)).alloc o)
  have m3 := Lib.hid (fun o => (l3.far4 (g' := w.heap.size) (by omega) (.int .i64 now) (.int .i64 ser) (.slice A1 rs.length c1) (.slice A2 ts.length c2)).alloc o)
  have O1 := Lib.hid (fun o => (own_box4 (g := w.heap.size) ho1 (by omega) (.int .i64 now) (.int .i64 ser) (.slice A1 rs.length c1) (.slice A2 ts.length c2)).alloc o)
  have O2 := Lib.hid (fun o => (own_box4 (g := w.heap.size) ho2 (by omega) (.int .i64 now) (.int .i64 ser) (.slice A1 rs.length c1) (.slice A2 ts.length c2)).alloc o)
  have BB := Lib.hid (fun o => (below_box4 (g := w.heap.size) hB2 (Nat.le_refl _) (.int .i64 now) (.int .i64 ser) (.slice A1 rs.length c1) (.slice A2 ts.length c2)).alloc (by simp [World.setCell]; omega) o)
  have RN := Lib.hid (show Rd (((((w2.setCell ⟨w.heap.size, 0, none⟩ (.int .i64 now)).setCell ⟨w.heap.size, 1, none⟩ (.int .i64 ser)).setCell ⟨w.heap.size, 2, none⟩ (.slice A1 rs.length c1)).setCell ⟨w.heap.size, 3, none⟩ (.slice A2 ts.length c2)).alloc (.cells #[.int .i64 n] 3)) (some ⟨w2.heap.size, 0, none⟩) [.int .i64 n] by
    have := Rd.new ((((w2.setCell ⟨w.heap.size, 0, none⟩ (.int .i64 now)).setCell ⟨w.heap.size, 1, none⟩ (.int .i64 ser)).setCell ⟨w.heap.size, 2, none⟩ (.slice A1 rs.length c1)).setCell ⟨w.heap.size, 3, none⟩ (.slice A2 ts.length c2)) 3 #[.int .i64 n]
    rw [show ((((w2.setCell ⟨w.heap.size, 0, none⟩ (.int .i64 now)).setCell ⟨w.heap.size, 1, none⟩ (.int .i64 ser)).setCell ⟨w.heap.size, 2, none⟩ (.slice A1 rs.length c1)).setCell ⟨w.heap.size, 3, none⟩ (.slice A2 ts.length c2)).heap.size = w2.heap.size by simp [World.setCell]] at this
    exact this)
  clear l1 l2 l3 K1 K2 K3
  go_wp2_with (at_builtin; refine wpList_app (base := w.heap.size + 3) (xs := ints rs) (news := [.int .i64 n]) rfl st_int (.tmp 18) (.tmp 20) rfl rfl (O1.out _) rfl RN.out rfl (by simp [Value.oneCell']) (by unfold maxLen; omega) (by omega) (by simp [World.setCell]; omega) ?_; intro A3 c3 w3 hown hg hat; obtain ⟨s0, s1, s2, s3, s4, s5, s6, s7⟩ := Blk.four ((hg.block w.heap.size (by simp [World.setCell]; omega) (own_ne ho1 (by omega))).trans (m1.out _)); obtain ⟨t0, t1, t2, t3, t4, t5, t6, t7⟩ := Blk.four ((hg.block (w.heap.size + 1) (by simp [World.setCell]; omega) (own_ne ho1 (by omega))).trans (m2.out _)); obtain ⟨u0, u1, u2, u3⟩ := Blk.two ((hg.block (w.heap.size + 2) (by simp [World.setCell]; omega) (own_ne ho1 (by omega))).trans (m3.out _)); have oo2 := own_other (O2.out _) (O1.out _) (by decide) hg; have hB3 := Below.app (BB.out _) (O1.out _) hg (by omega) (by simp [World.setCell]; omega))
  refine bodyPost_ret (v := .tuple #[.agg #[.int .i64 now, .int .i64 ser, .slice A3 (rs.length + 1) c3, .slice A2 ts.length c2], .agg #[.int .i64 0, .int .i64 0]]) (by simp [results, Try.results11, go_sem, t0, t1, t2, t3, u0, u1]) rfl ?_
  rw [HF.out]
  have hl1 : (rs ++ [n]).length = rs.length + 1 := by simp
  rw [show ints rs ++ [Value.int .i64 n] = ints (rs ++ [n]) by simp [ints], ← hl1] at hown
  refine ⟨_, by rw [← hl1], ckin_of_own (b1 := w.heap.size + 3) (b2 := w.heap.size + 3) ?_ ?_ (by simp; omega) (by omega) (by omega) (by omega), (by repeat (first | (with_reducible exact hB3) | (with_reducible exact Below.refl _ _) | (with_reducible apply Below.drew) | (with_reducible apply below_drewN) | ((with_reducible refine Below.setCell ?_ ?_ _); rotate_left; (focus (first | (simp; done) | (simp; omega) | omega))) | ((with_reducible refine Below.alloc ?_ ?_ _); rotate_left; (focus (first | (simp; done) | (simp; omega) | omega)))))⟩
  · repeat (refine ownsRow_setCell_below ?_ (by simp; try omega) _)
    exact hown
  · repeat (refine ownsRow_setCell_below ?_ (by simp; try omega) _)
    exact oo2
end Go.Proofs.Ytgiebofmfkacgaa
