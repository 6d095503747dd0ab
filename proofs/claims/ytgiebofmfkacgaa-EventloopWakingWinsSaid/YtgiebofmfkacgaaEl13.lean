/-
  Contracts: slices.Insert at timers (all ways); Sleep.
-/
import Derived.Test.YtgiebofmfkacgaaIns
import Derived.Deep.CutBlock
namespace Go.Proofs.Ytgiebofmfkacgaa
open Go.RowKit

theorem insert_any (base : Nat) (A : Option Addr) (c i : Nat) (ts : List Tm) (t : Tm) (g : Nat) (w : World) (ho : w.ownsRow base 46 3 (.slice A ts.length c) ts.length (rows Tm.cells ts)) (hb : base ≤ w.heap.size)
    (hv : Blk w g 46 #[.int .i64 t.at_, .int .i64 t.ser, .int .i64 t.task]) (hl : ts.length ≤ 1000000) (hi : i ≤ ts.length) (hne : some g ≠ (Value.slice A ts.length c).ownBlock) :
    Calls Try.prog 38 #[.slice A ts.length c, .int .i64 i, .slice (some ⟨g, 0, none⟩) 1 1] w (RetRow base (Value.slice A ts.length c).ownBlock (ts.length + 1) (rows Tm.cells (insT ts i t)) w) := by
  by_cases he : i = ts.length
  · subst he; exact insert_end base A c ts t g w ho hb hv hl
  · rcases ho.2 with ⟨hv0, h0⟩ | ⟨gs, cap, cur, hv0, hbg, hh, hnc, hcm, hcs, hct⟩
    · omega
    · injection hv0 with e1 e2 e3
      subst e1 e3
      unfold maxLen at hcm
      by_cases hr : ts.length + 1 ≤ c
      · exact insert_room base c i ts t g gs cur.toList w hbg (by simpa using hh) (by simpa using hcs) hct hv (by simpa [Value.ownBlock] using hne) hl (by omega) hr (by omega)
      · exact insert_grow base c i ts t g gs cur.toList w hb (by simpa using hh) hct hv hl (by omega) hnc (by omega)

def newT (c : Ck) (n d : Int) : Tm := ⟨c.now + d, c.ser, n⟩
def sleepM (c : Ck) (n d : Int) : Ck × (Int × Int) :=
  if (idleF c n).1 = 0 then
    (if d < 0 ∨ 1000000000 < d then (⟨0, 0, [], []⟩, (4, -3)) else if d = 0 then readyM c n else
      if timeB (c.now + d) && timeB (c.ser + 1) then (⟨c.now, c.ser + 1, c.rs, insT c.ts (bsf c.ts (newT c n d)) (newT c n d)⟩, (0, 0)) else (⟨0, 0, [], []⟩, (14, -3)))
  else (⟨0, 0, [], []⟩, idleF c n)
theorem validate_times {c : Ck} (h : (validate c).1 = 0) : timeB c.now = true ∧ timeB c.ser = true := by
  unfold validate at h
  split at h
  · rename_i h0; simpa using h0
  · simp at h
theorem idle_valid {c : Ck} {n : Int} (h : (idleF c n).1 = 0) : (validate c).1 = 0 := by
  unfold idleF at h
  split at h
  · assumption
  · rename_i h0; exact absurd h h0
theorem timeB_le {n : Int} (h : timeB n = true) : 0 ≤ n ∧ n ≤ 1000000000000000 := by simpa [timeB] using h
theorem bsf_le (ts : List Tm) (t : Tm) : bsf ts t ≤ ts.length := by
  have key : ∀ (p : Nat → Bool) (f i j : Nat), j - i ≤ f → i ≤ j → bs p i j ≤ j := by
    intro p f
    induction f with
    | zero => intro i j h hij; rw [bs_end p i j (by omega)]; exact hij
    | succ f ih =>
      intro i j h hij
      by_cases hlt : i < j
      · rw [bs_step p i j hlt]
        split
        · exact ih _ _ (by omega) (by omega)
        · exact Nat.le_trans (ih _ _ (by omega) (by omega)) (by omega)
      · rw [bs_end p i j (by omega)]; exact hij
  exact key _ ts.length 0 ts.length (by omega) (by omega)

set_option maxHeartbeats 2000000 in
theorem sleep_any (c : Ck) (v : Value) (n d : Int) (w : World) (hv : CkAt w c v) :
    Calls Try.prog 12 #[v, .int .i64 n, .int .i64 d] w (RetCk (sleepM c n d) w) := by
  have hv0 := hv
  obtain ⟨now, ser, rs, ts⟩ := c
  obtain ⟨RA, rc, TA, tc, rfl, hr, ht, hrc, htc, hrl, htl⟩ := hv
  dsimp only at hr ht hrc htc hrl htl ⊢
  have Hv := Lib.hid hv0; clear hv0
  go_enter Try.func12, Try.ntmps12
  go_wp2_with fail
  refine (idle_any _ _ n _ (Hv.out.below (by repeat (first | (with_reducible exact Below.refl _ _) | (with_reducible apply Below.drew) | (with_reducible apply below_drewN) | ((with_reducible refine Below.setCell ?_ ?_ _); rotate_left; (focus (first | (simp; done) | (simp; omega) | omega))) | ((with_reducible refine Below.alloc ?_ ?_ _); rotate_left; (focus (first | (simp; done) | (simp; omega) | omega))))))).mono ?_
  rintro e w1 ⟨rfl, hb1⟩
  obtain ⟨k1, k2, k3, hz1⟩ := box3 (w := w) hb1 rfl (by simp)
  have hy1 : w.heap.size < w1.heap.size := by omega
  have hx1 : w.heap.size + 1 < w1.heap.size := by omega
  have hB1 : Below w.heap.size w w1 := Below.trans (by repeat (first | (with_reducible exact Below.refl _ _) | (with_reducible apply Below.drew) | (with_reducible apply below_drewN) | ((with_reducible refine Below.setCell ?_ ?_ _); rotate_left; (focus (first | (simp; done) | (simp; omega) | omega))) | ((with_reducible refine Below.alloc ?_ ?_ _); rotate_left; (focus (first | (simp; done) | (simp; omega) | omega))))) (hb1.mono (by simp; omega))
  clear hb1
  have hsm := @idle_small ⟨now, ser, rs, ts⟩ n
  have hiv := @idle_valid ⟨now, ser, rs, ts⟩ n
  obtain ⟨p0, p1, p2, p3, p4, p5, p6, p7⟩ := Blk.four k1
  obtain ⟨q0, q1, q2, q3, q4, q5, q6, q7⟩ := Blk.four k2
  obtain ⟨r0, r1, r2, r3⟩ := Blk.two k3
  have K1 := Lib.hid k1; have K2 := Lib.hid k2; have K3 := Lib.hid k3
  clear k1 k2 k3
  generalize hf : idleF ⟨now, ser, rs, ts⟩ n = f at hsm hiv ⊢
  obtain ⟨f1, f2⟩ := f
  dsimp only at hsm hiv
  by_cases hc : f1 = 0
  rotate_left
  · have hq : (f1 != 0) = true := by simpa using hc
    have HF := Lib.hid (show sleepM ⟨now, ser, rs, ts⟩ n d = (⟨0, 0, [], []⟩, (f1, f2)) by simp [sleepM, hf, hc])
    clear hc hf hsm hiv
    go_wp2
    go_region
    go_wp2
    refine bodyPost_ret (v := .tuple #[.agg #[.int .i64 0, .int .i64 0, .slice none 0 0, .slice none 0 0], .agg #[.int .i64 f1, .int .i64 f2]]) (by simp [results, Try.results12, go_sem, q0, q1, q2, q3, r0, r1, hz1, hx1]) rfl ?_
    rw [HF.out]
    exact ⟨_, rfl, zero_ckat _ _, (by repeat (first | (with_reducible exact hB1) | (with_reducible exact Below.refl _ _) | (with_reducible apply Below.drew) | (with_reducible apply below_drewN) | ((with_reducible refine Below.setCell ?_ ?_ _); rotate_left; (focus (first | (simp; done) | (simp; omega) | omega))) | ((with_reducible refine Below.alloc ?_ ?_ _); rotate_left; (focus (first | (simp; done) | (simp; omega) | omega)))))⟩
  have hlen := hsm hc
  obtain ⟨tn, ts1⟩ := validate_times (hiv hc)
  obtain ⟨n1, n2⟩ := timeB_le tn
  obtain ⟨n3, n4⟩ := timeB_le ts1
  dsimp only at n1 n2 n3 n4
  subst hc
  clear hsm hiv tn ts1
  by_cases hd : d < 0 ∨ 1000000000 < d
  · have HF := Lib.hid (show sleepM ⟨now, ser, rs, ts⟩ n d = (⟨0, 0, [], []⟩, (4, -3)) by simp [sleepM, hf, hd])
    clear hf
    rcases hd with hd | hd
    · go_wp2
      refine bodyPost_ret (v := .tuple #[.agg #[.int .i64 0, .int .i64 0, .slice none 0 0, .slice none 0 0], .agg #[.int .i64 4, .int .i64 (-3)]]) (by simp [results, Try.results12, go_sem, q0, q1, q2, q3, r0, r1, hz1, hx1]) rfl ?_
      rw [HF.out]
      exact ⟨_, rfl, zero_ckat _ _, (by repeat (first | (with_reducible exact hB1) | (with_reducible exact Below.refl _ _) | (with_reducible apply Below.drew) | (with_reducible apply below_drewN) | ((with_reducible refine Below.setCell ?_ ?_ _); rotate_left; (focus (first | (simp; done) | (simp; omega) | omega))) | ((with_reducible refine Below.alloc ?_ ?_ _); rotate_left; (focus (first | (simp; done) | (simp; omega) | omega)))))⟩
    · have hd' : decide (d < 0) = false := by simp; omega
      go_wp2
      refine bodyPost_ret (v := .tuple #[.agg #[.int .i64 0, .int .i64 0, .slice none 0 0, .slice none 0 0], .agg #[.int .i64 4, .int .i64 (-3)]]) (by simp [results, Try.results12, go_sem, q0, q1, q2, q3, r0, r1, hz1, hx1]) rfl ?_
      rw [HF.out]
      exact ⟨_, rfl, zero_ckat _ _, (by repeat (first | (with_reducible exact hB1) | (with_reducible exact Below.refl _ _) | (with_reducible apply Below.drew) | (with_reducible apply below_drewN) | ((with_reducible refine Below.setCell ?_ ?_ _); rotate_left; (focus (first | (simp; done) | (simp; omega) | omega))) | ((with_reducible refine Below.alloc ?_ ?_ _); rotate_left; (focus (first | (simp; done) | (simp; omega) | omega)))))⟩
  have d1 : 0 ≤ d := by omega
  have d2 : d ≤ 1000000000 := by omega
  have d3 : decide (d < 0) = false := by simp; omega
  by_cases h0 : d = 0
  · have HF := Lib.hid (show sleepM ⟨now, ser, rs, ts⟩ n d = readyM ⟨now, ser, rs, ts⟩ n by simp [sleepM, hf, h0])
    have h0' : (d == 0) = true := by simp [h0]
    have HC := Lib.hid (fun o : Obj => ready_any ⟨now, ser, rs, ts⟩ _ n (w1.alloc o) ((Hv.out.below hB1).below ((Below.refl _ _).alloc (Nat.le_refl _) o)))
    clear hf hd h0
    go_wp2_with fail
    refine (HC.out _).mono ?_
    rintro e w2 ⟨v2, rfl, hv2, hb2⟩
    have hbB : Below (w.heap.size + 3) w1 w2 := Below.trans (by repeat (first | (with_reducible exact Below.refl _ _) | (with_reducible apply Below.drew) | (with_reducible apply below_drewN) | ((with_reducible refine Below.setCell ?_ ?_ _); rotate_left; (focus (first | (simp; done) | (simp; omega) | omega))) | ((with_reducible refine Below.alloc ?_ ?_ _); rotate_left; (focus (first | (simp; done) | (simp; omega) | omega))))) (hb2.mono (by first | (simp; done) | (simp; omega) | omega | (simp [World.setCell]; done) | (simp [World.setCell]; omega)))
    have hB2 : Below w.heap.size w w2 := hB1.trans (hbB.mono (by omega))
    have hz2 : w.heap.size + 2 < w2.heap.size := Nat.lt_of_lt_of_le hz1 hbB.size
    obtain ⟨m, hm⟩ : ∃ m, readyM ⟨now, ser, rs, ts⟩ n = m := ⟨_, rfl⟩
    have HM := Lib.hid (HF.out.trans hm)
    rw [hm] at hv2 ⊢
    clear HF hm HC hb2
    obtain ⟨⟨a1, a2, a3, a4⟩, b1, b2⟩ := m
    have HV := Lib.hid hv2
    obtain ⟨A1, c1, A2, c2, rfl, hh⟩ := hv2
    clear p0 p1 p2 p3 p4 p5 p6 p7 q0 q1 q2 q3 q4 q5 q6 q7 r0 r1 r2 r3 hh
    obtain ⟨q0, q1, q2, q3, q4, q5, q6, q7⟩ := Blk.four ((hbB.block (w.heap.size + 1) (by omega)).trans K2.out)
    obtain ⟨r0, r1, r2, r3⟩ := Blk.two ((hbB.block (w.heap.size + 2) (by omega)).trans K3.out)
    dsimp only
    go_wp2
    refine bodyPost_ret (v := .tuple #[.agg #[.int .i64 a1, .int .i64 a2, .slice A1 a3.length c1, .slice A2 a4.length c2], .agg #[.int .i64 b1, .int .i64 b2]]) (by simp [results, Try.results12, go_sem, q0, q1, q2, q3, r0, r1]) rfl ?_
    rw [HM.out]
    refine ⟨_, rfl, CkIn.weaken (ok := (w1.heap.size ≤ ·)) ?_ (fun b hb => Nat.le_trans (Nat.le_of_lt hy1) hb), (by repeat (first | (with_reducible exact hB2) | (with_reducible exact Below.refl _ _) | (with_reducible apply Below.drew) | (with_reducible apply below_drewN) | ((with_reducible refine Below.setCell ?_ ?_ _); rotate_left; (focus (first | (simp; done) | (simp; omega) | omega))) | ((with_reducible refine Below.alloc ?_ ?_ _); rotate_left; (focus (first | (simp; done) | (simp; omega) | omega)))))⟩
    repeat (refine CkIn.setCell ?_ (by simp; omega) _)
    exact HV.out.weaken (fun b hb => by simp at hb; omega)
  have h0' : (d == 0) = false := by simpa using h0
  cases hA : timeB (now + d)
  · have HF := Lib.hid (show sleepM ⟨now, ser, rs, ts⟩ n d = (⟨0, 0, [], []⟩, (14, -3)) by simp [sleepM, hf, hd, h0, hA])
    clear hf hd h0
    go_wp2_with (go_at_call 35; refine (time_any _ _).mono ?_; rintro e w' ⟨rfl, rfl⟩)
    refine bodyPost_ret (v := .tuple #[.agg #[.int .i64 0, .int .i64 0, .slice none 0 0, .slice none 0 0], .agg #[.int .i64 14, .int .i64 (-3)]]) (by simp [results, Try.results12, go_sem, q0, q1, q2, q3, r0, r1, hz1, hx1]) rfl ?_
    rw [HF.out]
    exact ⟨_, rfl, zero_ckat _ _, (by repeat (first | (with_reducible exact hB1) | (with_reducible exact Below.refl _ _) | (with_reducible apply Below.drew) | (with_reducible apply below_drewN) | ((with_reducible refine Below.setCell ?_ ?_ _); rotate_left; (focus (first | (simp; done) | (simp; omega) | omega))) | ((with_reducible refine Below.alloc ?_ ?_ _); rotate_left; (focus (first | (simp; done) | (simp; omega) | omega)))))⟩
  cases hS : timeB (ser + 1)
  · have HF := Lib.hid (show sleepM ⟨now, ser, rs, ts⟩ n d = (⟨0, 0, [], []⟩, (14, -3)) by simp [sleepM, hf, hd, h0, hA, hS])
    clear hf hd h0
    go_wp2_with (go_at_call 35; refine (time_any _ _).mono ?_; rintro e w' ⟨rfl, rfl⟩)
    refine bodyPost_ret (v := .tuple #[.agg #[.int .i64 0, .int .i64 0, .slice none 0 0, .slice none 0 0], .agg #[.int .i64 14, .int .i64 (-3)]]) (by simp [results, Try.results12, go_sem, q0, q1, q2, q3, r0, r1, hz1, hx1]) rfl ?_
    rw [HF.out]
    exact ⟨_, rfl, zero_ckat _ _, (by repeat (first | (with_reducible exact hB1) | (with_reducible exact Below.refl _ _) | (with_reducible apply Below.drew) | (with_reducible apply below_drewN) | ((with_reducible refine Below.setCell ?_ ?_ _); rotate_left; (focus (first | (simp; done) | (simp; omega) | omega))) | ((with_reducible refine Below.alloc ?_ ?_ _); rotate_left; (focus (first | (simp; done) | (simp; omega) | omega)))))⟩
  have HF := Lib.hid (show sleepM ⟨now, ser, rs, ts⟩ n d = (⟨now, ser + 1, rs, insT ts (bsf ts (newT ⟨now, ser, rs, ts⟩ n d)) (newT ⟨now, ser, rs, ts⟩ n d)⟩, (0, 0)) by simp [sleepM, hf, hd, h0, hA, hS])
  clear hf hd h0
  have HC := Lib.hid (fun o : Obj => clone_any ⟨now, ser, rs, ts⟩ _ (w1.alloc o) ((Hv.out.below hB1).below ((Below.refl _ _).alloc (Nat.le_refl _) o)) (by dsimp only; omega))
  go_wp2_with (go_at_call 35; refine (time_any _ _).mono ?_; rintro e w' ⟨rfl, rfl⟩)
  refine (HC.out _).mono ?_
  rintro e w2 ⟨A1, c1, A2, c2, rfl, ho1, ho2, hb2⟩
  have hbB : Below (w.heap.size + 3) w1 w2 := Below.trans (by repeat (first | (with_reducible exact Below.refl _ _) | (with_reducible apply Below.drew) | (with_reducible apply below_drewN) | ((with_reducible refine Below.setCell ?_ ?_ _); rotate_left; (focus (first | (simp; done) | (simp; omega) | omega))) | ((with_reducible refine Below.alloc ?_ ?_ _); rotate_left; (focus (first | (simp; done) | (simp; omega) | omega))))) (hb2.mono (by first | (simp; done) | (simp; omega) | omega | (simp [World.setCell]; done) | (simp [World.setCell]; omega)))
  have hB2 : Below w.heap.size w w2 := hB1.trans (hbB.mono (by omega))
  have l1 : Blk w2 w.heap.size 25 _ := (hbB.block w.heap.size (by omega)).trans K1.out
  have l2 : Blk w2 (w.heap.size + 1) 25 _ := (hbB.block (w.heap.size + 1) (by omega)).trans K2.out
  have l3 : Blk w2 (w.heap.size + 2) 27 _ := (hbB.block (w.heap.size + 2) (by omega)).trans K3.out
  replace ho1 := own_mono (base' := w.heap.size + 3) ho1 (by first | (simp; done) | (simp; omega) | omega | (simp [World.setCell]; done) | (simp [World.setCell]; omega))
  replace ho2 := own_mono (base' := w.heap.size + 3) ho2 (by first | (simp; done) | (simp; omega) | omega | (simp [World.setCell]; done) | (simp [World.setCell]; omega))
  have hz2 : w.heap.size + 2 < w2.heap.size := Nat.lt_of_lt_of_le hz1 hbB.size
  clear p0 p1 p2 p3 p4 p5 p6 p7 q0 q1 q2 q3 q4 q5 q6 q7 r0 r1 r2 r3 hb2 hbB HC K1 K2 K3
  obtain ⟨p0, p1, p2, p3, p4, p5, p6, p7⟩ := l1.four
  have hy2 : w.heap.size < w2.heap.size := by omega
  have L1 := Lib.hid l1; have L2 := Lib.hid l2; have L3 := Lib.hid l3
  clear l1 l2 l3
  dsimp only
  go_upto_region 11 with (fail)
  have m1 := L1.out.set4 (.int .i64 now) (.int .i64 ser) (.slice A1 rs.length c1) (.slice A2 ts.length c2)
  have m2 := L2.out.far4 (g' := w.heap.size) (by omega) (.int .i64 now) (.int .i64 ser) (.slice A1 rs.length c1) (.slice A2 ts.length c2)
  have m3 := L3.out.far4 (g' := w.heap.size) (by omega) (.int .i64 now) (.int .i64 ser) (.slice A1 rs.length c1) (.slice A2 ts.length c2)
  have o1 := own_box4 (g := w.heap.size) ho1 (by omega) (.int .i64 now) (.int .i64 ser) (.slice A1 rs.length c1) (.slice A2 ts.length c2)
  have o2 := own_box4 (g := w.heap.size) ho2 (by omega) (.int .i64 now) (.int .i64 ser) (.slice A1 rs.length c1) (.slice A2 ts.length c2)
  have hB3 := below_box4 (g := w.heap.size) hB2 (Nat.le_refl _) (.int .i64 now) (.int .i64 ser) (.slice A1 rs.length c1) (.slice A2 ts.length c2)
  have hz3 : w.heap.size + 2 < ((((w2.setCell ⟨w.heap.size, 0, none⟩ (.int .i64 now)).setCell ⟨w.heap.size, 1, none⟩ (.int .i64 ser)).setCell ⟨w.heap.size, 2, none⟩ (.slice A1 rs.length c1)).setCell ⟨w.heap.size, 3, none⟩ (.slice A2 ts.length c2)).heap.size := by simp [World.setCell]; omega
  generalize ((((w2.setCell ⟨w.heap.size, 0, none⟩ (.int .i64 now)).setCell ⟨w.heap.size, 1, none⟩ (.int .i64 ser)).setCell ⟨w.heap.size, 2, none⟩ (.slice A1 rs.length c1)).setCell ⟨w.heap.size, 3, none⟩ (.slice A2 ts.length c2)) = w3 at *
  clear p0 p1 p2 p3 p4 p5 p6 p7 L1 L2 L3 ho1 ho2 hB2 hz2 hy2
  obtain ⟨p0, p1, p2, p3, p4, p5, p6, p7⟩ := m1.four
  have hy3 : w.heap.size < w3.heap.size := by omega
  have HM := Lib.hid (And.intro m1 (And.intro m2 m3))
  clear m1 m2 m3
  go_upto_region 13 with (fail)
  obtain ⟨m1, m2, m3⟩ := HM.out
  have m4 : Blk ((w3.setCell ⟨w.heap.size, 1, none⟩ (.int .i64 (ser + 1))).alloc (.cells #[.int .i64 (now + d), .int .i64 ser, .int .i64 n] 46)) w.heap.size 25 #[.int .i64 now, .int .i64 (ser + 1), .slice A1 rs.length c1, .slice A2 ts.length c2] := (show Blk (w3.setCell ⟨w.heap.size, 1, none⟩ (.int .i64 (ser + 1))) w.heap.size 25 _ by simpa using m1.set 1 (.int .i64 (ser + 1))).alloc _
  have m5 := (m2.far (p := ⟨w.heap.size, 1, none⟩) (by simp) (.int .i64 (ser + 1))).alloc (.cells #[.int .i64 (now + d), .int .i64 ser, .int .i64 n] 46)
  have m6 := (m3.far (p := ⟨w.heap.size, 1, none⟩) (by simp) (.int .i64 (ser + 1))).alloc (.cells #[.int .i64 (now + d), .int .i64 ser, .int .i64 n] 46)
  have tb : Blk ((w3.setCell ⟨w.heap.size, 1, none⟩ (.int .i64 (ser + 1))).alloc (.cells #[.int .i64 (now + d), .int .i64 ser, .int .i64 n] 46)) w3.heap.size 46 #[.int .i64 (now + d), .int .i64 ser, .int .i64 n] := by
    have := Blk.new (w3.setCell ⟨w.heap.size, 1, none⟩ (.int .i64 (ser + 1))) 46 #[.int .i64 (now + d), .int .i64 ser, .int .i64 n]
    rwa [show (w3.setCell ⟨w.heap.size, 1, none⟩ (.int .i64 (ser + 1))).heap.size = w3.heap.size by simp [World.setCell]] at this
  have o3 := (own_box1 (g := w.heap.size) (i := 1) o1 (by omega) (.int .i64 (ser + 1))).alloc (.cells #[.int .i64 (now + d), .int .i64 ser, .int .i64 n] 46)
  have o4 := (own_box1 (g := w.heap.size) (i := 1) o2 (by omega) (.int .i64 (ser + 1))).alloc (.cells #[.int .i64 (now + d), .int .i64 ser, .int .i64 n] 46)
  have hB4 : Below w.heap.size w ((w3.setCell ⟨w.heap.size, 1, none⟩ (.int .i64 (ser + 1))).alloc (.cells #[.int .i64 (now + d), .int .i64 ser, .int .i64 n] 46)) := (hB3.setCell (p := ⟨w.heap.size, 1, none⟩) (Nat.le_refl _) _).alloc (by simp [World.setCell]; omega) _
  have hz4 : ((w3.setCell ⟨w.heap.size, 1, none⟩ (.int .i64 (ser + 1))).alloc (.cells #[.int .i64 (now + d), .int .i64 ser, .int .i64 n] 46)).heap.size = w3.heap.size + 1 := by simp [World.setCell]
  generalize ((w3.setCell ⟨w.heap.size, 1, none⟩ (.int .i64 (ser + 1))).alloc (.cells #[.int .i64 (now + d), .int .i64 ser, .int .i64 n] 46)) = w4 at *
  have hw4 : w.heap.size + 3 ≤ w4.heap.size := by omega
  have hw4' : w3.heap.size < w4.heap.size := by omega
  clear p0 p1 p2 p3 p4 p5 p6 p7 m1 m2 m3 HM o1 o2 hB3 hz4
  obtain ⟨p0, p1, p2, p3, p4, p5, p6, p7⟩ := m4.four
  obtain ⟨t0, t1, t2, t3, t4, t5⟩ := tb.three
  have M := Lib.hid (And.intro m4 (And.intro m5 (And.intro m6 tb)))
  clear m4 m5 m6 tb
  go_wp2_with fail
  refine (bsearch_any A2 c2 ts ⟨now + d, ser, n⟩ _ (Rd.of_own o4) (by omega)).mono ?_
  rintro e w5 ⟨fb, rfl, hb5⟩
  have hi := bsf_le ts ⟨now + d, ser, n⟩
  have HI := Lib.hid (show newT ⟨now, ser, rs, ts⟩ n d = ⟨now + d, ser, n⟩ from rfl)
  generalize hbi : bsf ts ⟨now + d, ser, n⟩ = bi at *
  have HBI := Lib.hid hbi; clear hbi
  obtain ⟨m4, m5, m6, tb⟩ := M.out
  have n4' := m4.below' hb5
  have n5' := m5.below' hb5
  have n6' := m6.below' hb5
  have tb' := tb.below' hb5
  have o5 := own_below o3 hb5
  have o6 := own_below o4 hb5
  have hB5 : Below w.heap.size w w5 := hB4.trans (hb5.mono (by omega))
  have hw5 : w.heap.size + 3 ≤ w5.heap.size := Nat.le_trans hw4 hb5.size
  have hw5' : w3.heap.size < w5.heap.size := Nat.lt_of_lt_of_le hw4' hb5.size
  clear p0 p1 p2 p3 p4 p5 p6 p7 t0 t1 t2 t3 t4 t5 m4 m5 m6 tb M o3 o4 hB4 hb5 hw4 hw4' hy3 hz3
  obtain ⟨p0, p1, p2, p3, p4, p5, p6, p7⟩ := n4'.four
  obtain ⟨t0, t1, t2, t3, t4, t5⟩ := tb'.three
  have M := Lib.hid (And.intro n4' (And.intro n5' n6'))
  have HI5 := Lib.hid (insert_any (w.heap.size + 3) A2 c2 bi ts ⟨now + d, ser, n⟩ w5.heap.size (w5.alloc (.cells #[.int .i64 (now + d), .int .i64 ser, .int .i64 n] 46)) (o6.alloc _) (by simp; omega) (Blk.new _ _ _) (by omega) hi (fun e => by have := (o6.lt _ e.symm).2; omega))
  clear n4' n5' n6' tb'
  dsimp only
  go_wp2_with fail
  refine HI5.out.mono ?_
  rintro e w6 ⟨A6, c6, rfl, ho6, hg6⟩
  obtain ⟨m4, m5, m6⟩ := M.out
  have z4 := (hg6.block w.heap.size (by simp; omega) (own_ne o6 (by omega))).trans (m4.alloc _)
  have z5 := (hg6.block (w.heap.size + 1) (by simp; omega) (own_ne o6 (by omega))).trans (m5.alloc _)
  have z6 := (hg6.block (w.heap.size + 2) (by simp; omega) (own_ne o6 (by omega))).trans (m6.alloc _)
  have o7 := own_other (o5.alloc _) (o6.alloc _) (by decide) hg6
  have hB6 : Below w.heap.size w w6 := Below.app (hB5.alloc (by omega) _) (o6.alloc _) hg6 (by omega) (by simp; omega)
  clear p0 p1 p2 p3 p4 p5 p6 p7 t0 t1 t2 t3 t4 t5 m4 m5 m6 M HI5 hg6 o5 o6 hB5
  obtain ⟨p0, p1, p2, p3, p4, p5, p6, p7⟩ := Blk.four z4
  obtain ⟨q0, q1, q2, q3, q4, q5, q6, q7⟩ := Blk.four z5
  obtain ⟨r0, r1, r2, r3⟩ := Blk.two z6
  clear z4 z5 z6
  dsimp only
  go_wp2
  refine bodyPost_ret (v := .tuple #[.agg #[.int .i64 now, .int .i64 (ser + 1), .slice A1 rs.length c1, .slice A6 (ts.length + 1) c6], .agg #[.int .i64 0, .int .i64 0]]) (by simp [results, Try.results12, go_sem, q0, q1, q2, q3, r0, r1]) rfl ?_
  rw [HF.out, HI.out, HBI.out]
  have hl1 := insT_length ts bi ⟨now + d, ser, n⟩ hi
  rw [← hl1] at ho6
  refine ⟨_, by rw [← hl1], ckin_of_own (b1 := w.heap.size + 3) (b2 := w.heap.size + 3) ?_ ?_ (by omega) (by omega) (by omega) (by omega), (by repeat (first | (with_reducible exact hB6) | (with_reducible exact Below.refl _ _) | (with_reducible apply Below.drew) | (with_reducible apply below_drewN) | ((with_reducible refine Below.setCell ?_ ?_ _); rotate_left; (focus (first | (simp; done) | (simp; omega) | omega))) | ((with_reducible refine Below.alloc ?_ ?_ _); rotate_left; (focus (first | (simp; done) | (simp; omega) | omega)))))⟩
  · repeat (refine ownsRow_setCell_below ?_ (by simp; try omega) _)
    exact o7
  · repeat (refine ownsRow_setCell_below ?_ (by simp; try omega) _)
    exact ho6
end Go.Proofs.Ytgiebofmfkacgaa
