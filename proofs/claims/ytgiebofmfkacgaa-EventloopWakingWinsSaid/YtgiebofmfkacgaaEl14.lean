/-
  Contract: Next.
-/
import Derived.Test.YtgiebofmfkacgaaEl13
import Derived.Deep.RegionLaw
import Derived.Deep.LoopGhost
namespace Go.Proofs.Ytgiebofmfkacgaa
open Go.RowKit

/-- One step of the loop of Next: the first timer's task goes into the queue. -/
def fireF : Nat → Int → List Int → List Tm → List Int × List Tm
  | 0, _, rs, ts => (rs, ts)
  | _ + 1, _, rs, [] => (rs, [])
  | f + 1, now, rs, t :: ts => if t.at_ == now then fireF f now (rs ++ [t.task]) ts else (rs, t :: ts)
def fire (c : Ck) : Ck := match c.rs, c.ts with
  | [], t :: l => ⟨t.at_, c.ser, (fireF (t :: l).length t.at_ [] (t :: l)).1, (fireF (t :: l).length t.at_ [] (t :: l)).2⟩
  | _, _ => c
def popM (c : Ck) : Ck × (Int × (Int × Int)) := match c.rs with
  | [] => (⟨0, 0, [], []⟩, (0, (10, -1)))
  | n :: l => (⟨c.now, c.ser, l, c.ts⟩, (n, (0, 0)))
def nextM (c : Ck) : Ck × (Int × (Int × Int)) := if (validate c).1 = 0 then popM (fire c) else (⟨0, 0, [], []⟩, (0, validate c))
/-- A post that is kept whole. -/
def RetN (m : Ck × (Int × (Int × Int))) (w : World) (e : Ending) (w' : World) : Prop := ∃ v, e = .returned (.tuple #[v, .int .i64 m.2.1, flt m.2.2]) ∧ CkIn w' (w.heap.size ≤ ·) m.1 v ∧ Below w.heap.size w w'

theorem queueT_length (ts : List Tm) (k : Nat) (h : k ≤ ts.length) : ((ts.take k).map (·.task)).length = k := by simp; omega
theorem fireF_hit (ts : List Tm) (a : Int) (k m : Nat) (hk : k < ts.length) (h : (ts[k].at_ == a) = true) :
    fireF (m + 1) a ((ts.take k).map (·.task)) (ts.drop k) = fireF m a ((ts.take (k + 1)).map (·.task)) (ts.drop (k + 1)) := by
  rw [List.drop_eq_getElem_cons hk, List.take_succ_eq_append_getElem hk]; simp only [fireF, h, if_true, List.map_append, List.map_cons, List.map_nil]
theorem fireF_miss (ts : List Tm) (a : Int) (k m : Nat) (hk : k < ts.length) (h : (ts[k].at_ == a) = false) :
    fireF (m + 1) a ((ts.take k).map (·.task)) (ts.drop k) = ((ts.take k).map (·.task), ts.drop k) := by
  rw [List.drop_eq_getElem_cons hk]; simp only [fireF, h, Bool.false_eq_true, if_false]
def queueT (ts : List Tm) (k : Nat) : List Int := (ts.take k).map (·.task)
theorem queueT_succ (ts : List Tm) (k : Nat) (h : k < ts.length) : queueT ts (k + 1) = queueT ts k ++ [ts[k].task] := by
  unfold queueT; rw [List.take_succ_eq_append_getElem h, List.map_append]; rfl

set_option maxHeartbeats 2000000 in
theorem next_any (c : Ck) (v : Value) (w : World) (hv : CkAt w c v) :
    Calls Try.prog 23 #[v] w (RetN (nextM c) w) := by
  have hv0 := hv
  obtain ⟨now, ser, rs, ts⟩ := c
  obtain ⟨RA, rc, TA, tc, rfl, hr, ht, hrc, htc, hrl, htl⟩ := hv
  dsimp only at hr ht hrc htc hrl htl ⊢
  have Hv := Lib.hid hv0; clear hv0
  go_enter Try.func23, Try.ntmps23
  go_wp2_with fail
  refine (validate_any _ _ _ (Hv.out.below (by repeat (first | (with_reducible exact Below.refl _ _) | (with_reducible apply Below.drew) | (with_reducible apply below_drewN) | ((with_reducible refine Below.setCell ?_ ?_ _); rotate_left; (focus (first | (simp; done) | (simp; omega) | omega))) | ((with_reducible refine Below.alloc ?_ ?_ _); rotate_left; (focus (first | (simp; done) | (simp; omega) | omega))))))).mono ?_
  rintro e w1 ⟨rfl, hb1⟩
  obtain ⟨k1, k2, k3, hz1⟩ := box3 (w := w) hb1 rfl (by simp)
  have hy1 : w.heap.size < w1.heap.size := by omega
  have hx1 : w.heap.size + 1 < w1.heap.size := by omega
  have hB1 : Below w.heap.size w w1 := Below.trans (by repeat (first | (with_reducible exact Below.refl _ _) | (with_reducible apply Below.drew) | (with_reducible apply below_drewN) | ((with_reducible refine Below.setCell ?_ ?_ _); rotate_left; (focus (first | (simp; done) | (simp; omega) | omega))) | ((with_reducible refine Below.alloc ?_ ?_ _); rotate_left; (focus (first | (simp; done) | (simp; omega) | omega))))) (hb1.mono (by simp; omega))
  clear hb1
  have hsm := @validate_small ⟨now, ser, rs, ts⟩
  obtain ⟨p0, p1, p2, p3, p4, p5, p6, p7⟩ := Blk.four k1
  obtain ⟨q0, q1, q2, q3, q4, q5, q6, q7⟩ := Blk.four k2
  obtain ⟨r0, r1, r2, r3⟩ := Blk.two k3
  have K1 := Lib.hid k1; have K2 := Lib.hid k2; have K3 := Lib.hid k3
  clear k1 k2 k3
  generalize hf : validate ⟨now, ser, rs, ts⟩ = f at hsm ⊢
  obtain ⟨f1, f2⟩ := f
  dsimp only at hsm
  by_cases hc : f1 = 0
  rotate_left
  · have hq : (f1 != 0) = true := by simpa using hc
    have HF := Lib.hid (show nextM ⟨now, ser, rs, ts⟩ = (⟨0, 0, [], []⟩, (0, (f1, f2))) by simp [nextM, hf, hc])
    clear hc hf hsm
    go_wp2
    go_region
    go_wp2
    refine bodyPost_ret (v := .tuple #[.agg #[.int .i64 0, .int .i64 0, .slice none 0 0, .slice none 0 0], .int .i64 0, .agg #[.int .i64 f1, .int .i64 f2]]) (by simp [results, Try.results23, go_sem, q0, q1, q2, q3, r0, r1, hz1, hx1]) rfl ?_
    rw [HF.out]
    exact ⟨_, rfl, zero_ckat _ _, (by repeat (first | (with_reducible exact hB1) | (with_reducible exact Below.refl _ _) | (with_reducible apply Below.drew) | (with_reducible apply below_drewN) | ((with_reducible refine Below.setCell ?_ ?_ _); rotate_left; (focus (first | (simp; done) | (simp; omega) | omega))) | ((with_reducible refine Below.alloc ?_ ?_ _); rotate_left; (focus (first | (simp; done) | (simp; omega) | omega)))))⟩
  have hlen := hsm hc
  subst hc
  have HF := Lib.hid (show nextM ⟨now, ser, rs, ts⟩ = popM (fire ⟨now, ser, rs, ts⟩) by simp [nextM, hf])
  clear hsm hf
  have HC := Lib.hid (fun o : Obj => clone_any ⟨now, ser, rs, ts⟩ _ (w1.alloc o) ((Hv.out.below hB1).below ((Below.refl _ _).alloc (Nat.le_refl _) o)) (by dsimp only; omega))
  go_wp2_with fail
  refine (HC.out _).mono ?_
  rintro e w2 ⟨A1, c1, A2, c2, rfl, ho1, ho2, hb2⟩
  have hbB : Below (w.heap.size + 3) w1 w2 := Below.trans (by repeat (first | (with_reducible exact Below.refl _ _) | (with_reducible apply Below.drew) | (with_reducible apply below_drewN) | ((with_reducible refine Below.setCell ?_ ?_ _); rotate_left; (focus (first | (simp; done) | (simp; omega) | omega))) | ((with_reducible refine Below.alloc ?_ ?_ _); rotate_left; (focus (first | (simp; done) | (simp; omega) | omega))))) (hb2.mono (by first | (simp; done) | (simp; omega) | omega | (simp [World.setCell]; done) | (simp [World.setCell]; omega)))
  have hB2 : Below w.heap.size w w2 := hB1.trans (hbB.mono (by omega))
  have l1 : Blk w2 w.heap.size 25 _ := (hbB.block w.heap.size (by omega)).trans K1.out
  have l2 : Blk w2 (w.heap.size + 1) 25 _ := (hbB.block (w.heap.size + 1) (by omega)).trans K2.out
  have l3 : Blk w2 (w.heap.size + 2) 27 _ := (hbB.block (w.heap.size + 2) (by omega)).trans K3.out
  replace ho1 := own_mono (base' := w.heap.size + 3) ho1 (by first | (simp; done) | (simp; omega) | omega | (simp [World.setCell]; done) | (simp [World.setCell]; omega))
  replace ho2 := own_mono (base' := w.heap.size + 3) ho2 (by first | (simp; done) | (simp; omega) | omega | (simp [World.setCell]; done) | (simp [World.setCell]; omega))
  have hz2 : w.heap.size + 2 < w2.heap.size := Nat.lt_of_lt_of_le hz1 hbB.size
  clear p0 p1 p2 p3 p4 p5 p6 p7 q0 q1 q2 q3 q4 q5 q6 q7 r0 r1 r2 r3 hb2 hbB HC K1 K2 K3
  obtain ⟨p0, p1, p2, p3, p4, p5, p6, p7⟩ := l1.four
  have hy2 : w.heap.size < w2.heap.size := by omega
  have L1 := Lib.hid l1; have L2 := Lib.hid l2; have L3 := Lib.hid l3
  clear l1 l2 l3
  dsimp only
  go_upto_region 5 with (fail)
  have m1 := L1.out.set4 (.int .i64 now) (.int .i64 ser) (.slice A1 rs.length c1) (.slice A2 ts.length c2)
  have m2 := L2.out.far4 (g' := w.heap.size) (by omega) (.int .i64 now) (.int .i64 ser) (.slice A1 rs.length c1) (.slice A2 ts.length c2)
  have m3 := L3.out.far4 (g' := w.heap.size) (by omega) (.int .i64 now) (.int .i64 ser) (.slice A1 rs.length c1) (.slice A2 ts.length c2)
  have o1 := own_box4 (g := w.heap.size) ho1 (by omega) (.int .i64 now) (.int .i64 ser) (.slice A1 rs.length c1) (.slice A2 ts.length c2)
  have o2 := own_box4 (g := w.heap.size) ho2 (by omega) (.int .i64 now) (.int .i64 ser) (.slice A1 rs.length c1) (.slice A2 ts.length c2)
  have hB3 := below_box4 (g := w.heap.size) hB2 (Nat.le_refl _) (.int .i64 now) (.int .i64 ser) (.slice A1 rs.length c1) (.slice A2 ts.length c2)
  have hz3 : w.heap.size + 2 < ((((w2.setCell ⟨w.heap.size, 0, none⟩ (.int .i64 now)).setCell ⟨w.heap.size, 1, none⟩ (.int .i64 ser)).setCell ⟨w.heap.size, 2, none⟩ (.slice A1 rs.length c1)).setCell ⟨w.heap.size, 3, none⟩ (.slice A2 ts.length c2)).heap.size := by simp [World.setCell]; omega
  generalize ((((w2.setCell ⟨w.heap.size, 0, none⟩ (.int .i64 now)).setCell ⟨w.heap.size, 1, none⟩ (.int .i64 ser)).setCell ⟨w.heap.size, 2, none⟩ (.slice A1 rs.length c1)).setCell ⟨w.heap.size, 3, none⟩ (.slice A2 ts.length c2)) = w3 at *
  clear p0 p1 p2 p3 p4 p5 p6 p7 L1 L2 L3 ho1 ho2 hB2 hz2 hy2
  obtain ⟨p0, p1, p2, p3, p4, p5, p6, p7⟩ := m1.four
  obtain ⟨q0, q1, q2, q3, q4, q5, q6, q7⟩ := m2.four
  obtain ⟨r0, r1, r2, r3⟩ := m3.two
  have hcap1 : rs.length ≤ c1 := by obtain ⟨A', c', ev, h1, h2⟩ := own_form o1; injection ev with e1 e2 e3; omega
  have hcap2 : ts.length ≤ c2 := by obtain ⟨A', c', ev, h1, h2⟩ := own_form o2; injection ev with e1 e2 e3; omega
  by_cases hrs : rs = []
  rotate_left
  · obtain ⟨n, l, hnl⟩ : ∃ n l, rs = n :: l := by cases rs with | nil => exact absurd rfl hrs | cons n l => exact ⟨n, l, rfl⟩
    subst hnl
    clear hrs
    obtain ⟨b, o, hA, hb, hcell⟩ := (Rd.of_own o1).int (k := 0) (by simp)
    have hcut := (RdIn.of_own o1).cut (size := 1) (n := (n :: l).length) (k := 1) (cap := c1) (by simp [ints]) (by simp) hcap1
    subst hA
    have RT := Lib.hid (RdIn.of_own o2)
    have HCUT := Lib.hid (show RdIn w3 (w.heap.size + 3 ≤ ·) (if c1 = 1 then some ⟨b, o, none⟩ else some ⟨b, o + 1, none⟩) (ints l) by simpa [Addr.add, ints] using hcut)
    have HN := Lib.hid (show popM (fire ⟨now, ser, n :: l, ts⟩) = (⟨now, ser, l, ts⟩, (n, (0, 0))) by simp [popM, fire])
    have hcell' : w3.cell? ⟨b, o, none⟩ = some (.int .i64 n) := by simpa using hcell
    clear hcut m1 m2 m3 hcell o1 Hv hr
    simp only [List.length_cons] at *
    have hq : (((l.length + 1 : Nat) : Int) == 0) = false := by rw [beq_eq_false_iff_ne]; omega
    have hq' : (((l.length : Int) + 1) == 0) = false := by rw [beq_eq_false_iff_ne]; omega
    have i1 : (0 : Int) < (l.length : Int) + 1 := by omega
    have i2 : (1 : Int) ≤ (l.length : Int) + 1 := by omega
    have i3 : (1 : Int) ≤ (c1 : Int) := by omega
    by_cases hc1 : c1 = 1
    · subst hc1
      obtain rfl : l = [] := List.eq_nil_of_length_eq_zero (by omega)
      go_wp2
      refine bodyPost_ret (v := .tuple #[.agg #[.int .i64 now, .int .i64 ser, .slice (some ⟨b, o, none⟩) 0 0, .slice A2 ts.length c2], .int .i64 n, .agg #[.int .i64 0, .int .i64 0]]) (by simp [results, Try.results23, go_sem, q0, q1, q2, q3, r0, r1]) rfl ?_
      rw [HF.out, HN.out]
      refine ⟨_, rfl, CkIn.weaken (ok := (w.heap.size + 3 ≤ ·)) ?_ (fun b hb => Nat.le_trans (by omega) hb), (by repeat (first | (with_reducible exact hB3) | (with_reducible exact Below.refl _ _) | (with_reducible apply Below.drew) | (with_reducible apply below_drewN) | ((with_reducible refine Below.setCell ?_ ?_ _); rotate_left; (focus (first | (simp; done) | (simp; omega) | omega))) | ((with_reducible refine Below.alloc ?_ ?_ _); rotate_left; (focus (first | (simp; done) | (simp; omega) | omega)))))⟩
      repeat (refine CkIn.setCell ?_ (by simp; try omega) _)
      refine ⟨_, _, _, _, rfl, RdIn.nil, RT.out, by dsimp only; omega, hcap2, by dsimp only; omega, by dsimp only; omega⟩
    · go_wp2
      refine bodyPost_ret (v := .tuple #[.agg #[.int .i64 now, .int .i64 ser, .slice (some ⟨b, o + 1, none⟩) l.length (c1 - 1), .slice A2 ts.length c2], .int .i64 n, .agg #[.int .i64 0, .int .i64 0]]) (by simp [results, Try.results23, go_sem, q0, q1, q2, q3, r0, r1]) rfl ?_
      rw [HF.out, HN.out]
      refine ⟨_, rfl, CkIn.weaken (ok := (w.heap.size + 3 ≤ ·)) ?_ (fun b hb => Nat.le_trans (by omega) hb), (by repeat (first | (with_reducible exact hB3) | (with_reducible exact Below.refl _ _) | (with_reducible apply Below.drew) | (with_reducible apply below_drewN) | ((with_reducible refine Below.setCell ?_ ?_ _); rotate_left; (focus (first | (simp; done) | (simp; omega) | omega))) | ((with_reducible refine Below.alloc ?_ ?_ _); rotate_left; (focus (first | (simp; done) | (simp; omega) | omega)))))⟩
      repeat (refine CkIn.setCell ?_ (by simp; try omega) _)
      refine ⟨_, _, _, _, rfl, by simpa [hc1] using HCUT.out, RT.out, by dsimp only; omega, hcap2, by dsimp only; omega, by dsimp only; omega⟩
  subst hrs
  by_cases hts : ts = []
  · subst hts
    have HN := Lib.hid (show popM (fire ⟨now, ser, [], []⟩) = (⟨0, 0, [], []⟩, (0, (10, -1))) by simp [popM, fire])
    clear m1 m2 m3
    go_wp2
    refine bodyPost_ret (v := .tuple #[.agg #[.int .i64 0, .int .i64 0, .slice none 0 0, .slice none 0 0], .int .i64 0, .agg #[.int .i64 10, .int .i64 (-1)]]) (by simp [results, Try.results23, go_sem, q0, q1, q2, q3, r0, r1]) rfl ?_
    rw [HF.out, HN.out]
    exact ⟨_, rfl, zero_ckat _ _, (by repeat (first | (with_reducible exact hB3) | (with_reducible exact Below.refl _ _) | (with_reducible apply Below.drew) | (with_reducible apply below_drewN) | ((with_reducible refine Below.setCell ?_ ?_ _); rotate_left; (focus (first | (simp; done) | (simp; omega) | omega))) | ((with_reducible refine Below.alloc ?_ ?_ _); rotate_left; (focus (first | (simp; done) | (simp; omega) | omega)))))⟩
  have htpos : 0 < ts.length := List.length_pos_iff.2 hts
  obtain ⟨g2, o2', hA, hb, hc0, hc1, hc2⟩ := (Rd.of_own o2).tm htpos
  have hg2 : o2' = 0 := by
    rcases o2.2 with ⟨hv, h⟩ | ⟨g, cap, cur, hv, _⟩
    · injection hv with e1; rw [e1] at hA; cases hA
    · injection hv with e1; rw [e1] at hA; simp at hA; exact hA.2.symm
  subst hg2
  subst hA
  have HN := Lib.hid (show fire ⟨now, ser, [], ts⟩ = ⟨ts[0].at_, ser, (fireF ts.length ts[0].at_ [] ts).1, (fireF ts.length ts[0].at_ [] ts).2⟩ by
    cases ts with
    | nil => exact absurd rfl hts
    | cons t l => simp [fire])
  clear hts
  have i1 : (0 : Int) < (ts.length : Int) := by omega
  have hc0' : w3.cell? ⟨g2, 0, none⟩ = some (.int .i64 ts[0].at_) := by simpa using hc0
  have M := Lib.hid (And.intro m1 (And.intro m2 m3))
  clear m1 m2 m3 hc0 hc1 hc2
  go_upto_region 7 with (fail)
  obtain ⟨m1, m2, m3⟩ := M.out
  have n1 : Blk (w3.setCell ⟨w.heap.size, 0, none⟩ (.int .i64 ts[0].at_)) w.heap.size 25 #[.int .i64 ts[0].at_, .int .i64 ser, .slice A1 0 c1, .slice (some ⟨g2, 0, none⟩) ts.length c2] := by simpa using m1.set 0 (.int .i64 ts[0].at_)
  have n2 := m2.far (p := ⟨w.heap.size, 0, none⟩) (by simp) (.int .i64 ts[0].at_)
  have n3 := m3.far (p := ⟨w.heap.size, 0, none⟩) (by simp) (.int .i64 ts[0].at_)
  have o3 := own_box1 (g := w.heap.size) (i := 0) o1 (by omega) (.int .i64 ts[0].at_)
  have o4 := own_box1 (g := w.heap.size) (i := 0) o2 (by omega) (.int .i64 ts[0].at_)
  have hB4 : Below w.heap.size w (w3.setCell ⟨w.heap.size, 0, none⟩ (.int .i64 ts[0].at_)) := hB3.setCell (p := ⟨w.heap.size, 0, none⟩) (Nat.le_refl _) _
  generalize (w3.setCell ⟨w.heap.size, 0, none⟩ (.int .i64 ts[0].at_)) = w4 at *
  generalize hat : ts[0].at_ = at0 at *
  have HAT := Lib.hid hat
  clear hat p0 p1 p2 p3 p4 p5 p6 p7 q0 q1 q2 q3 q4 q5 q6 q7 r0 r1 r2 r3 M m1 m2 m3 o1 o2 hB3 hc0' hb hz3 hcap1 Hv hr
  simp only [List.length_nil] at *
  go_loopg [32] ts.length (fun gh _ wr => ∃ (k m : Nat) (A : Option Addr) (c : Nat) (B : Option Addr) (cc : Nat), m ≤ gh ∧ Hid (k + m = ts.length) ∧ (0 < m → B = some ⟨g2, k * 3, none⟩) ∧ m ≤ cc ∧ Hid (fireF ts.length at0 [] ts = fireF m at0 (queueT ts k) (ts.drop k)) ∧
      Blk wr w.heap.size 25 #[.int .i64 at0, .int .i64 ser, .slice A k c, .slice B m cc] ∧ Blk wr (w.heap.size + 1) 25 #[.int .i64 0, .int .i64 0, .slice none 0 0, .slice none 0 0] ∧ Blk wr (w.heap.size + 2) 27 #[.int .i64 0, .int .i64 0] ∧
      wr.ownsRow (w.heap.size + 3) 3 1 (.slice A k c) k (ints (queueT ts k)) ∧ wr.ownsRow (w.heap.size + 3) 46 3 (.slice (some ⟨g2, 0, none⟩) ts.length c2) ts.length (rows Tm.cells ts) ∧ Below w.heap.size w wr)
  case atStart => exact ⟨0, ts.length, A1, c1, _, c2, Nat.le_refl _, Lib.hid (by omega), fun _ => by simp, hcap2, Lib.hid rfl, n1, n2, n3, o3, o4, hB4⟩
  case round =>
    clear n1 n2 n3 o3 o4 hB4
    obtain ⟨k, m, A, c, B, cc, hgh, HKM, hB, hcc, HFI, n1, n2, n3, o3, o4, hBl⟩ := hrel
    obtain ⟨p0, p1, p2, p3, p4, p5, p6, p7⟩ := n1.four
    rcases Nat.eq_zero_or_pos m with hm0 | hmp
    · have hmz : decide (0 < m) = false := by simp; omega
      have HM0 := Lib.hid hm0; clear hm0
      have hk0 : 0 < k := by have := HKM.out; have := HM0.out; omega
      obtain ⟨kk, rfl⟩ : ∃ kk, k = kk + 1 := ⟨k - 1, by omega⟩
      obtain ⟨q, l, hql⟩ : ∃ q l, queueT ts (kk + 1) = q :: l := by
        have := queueT_length ts (kk + 1) (by have := HKM.out; omega)
        cases hq : queueT ts (kk + 1) with
        | nil => rw [queueT] at hq; rw [hq] at this; cases this
        | cons q l => exact ⟨q, l, rfl⟩
      have hll : l.length = kk := by
        have := queueT_length ts (kk + 1) (by have := HKM.out; omega)
        rw [← queueT, hql] at this; simpa using this
      have RB := Lib.hid (show RdIn wr (w.heap.size + 3 ≤ ·) B (rows Tm.cells (ts.drop (kk + 1))) by
        intro hn
        have hmp : 0 < m := by
          rw [rows_length Tm.cells_length, List.length_drop] at hn
          have := HKM.out; omega
        obtain ⟨b, o, e1, e2, e3, e4⟩ := RdIn.of_own o4 (by rw [rows_length Tm.cells_length]; omega)
        simp at e1
        obtain ⟨rfl, rfl⟩ := e1
        refine ⟨g2, (kk + 1) * 3, hB hmp, e2, e3, fun j u hu => ?_⟩
        have := e4 ((kk + 1) * 3 + j) u (by rw [rows_drop Tm.cells_length, List.getElem?_drop] at hu; exact hu)
        simpa using this)
      have hcapA : kk + 1 ≤ c := by obtain ⟨A', c', ev, h1, h2⟩ := own_form o3; injection ev with e1 e2 e3; omega
      rw [hql] at o3
      have HR := Lib.hid (show fireF ts.length at0 [] ts = (q :: l, ts.drop (kk + 1)) by rw [HFI.out, HM0.out, hql]; rfl)
      have HP := Lib.hid (show popM (fire ⟨now, ser, [], ts⟩) = (⟨at0, ser, l, ts.drop (kk + 1)⟩, (q, (0, 0))) by rw [HN.out, HR.out]; rfl)
      obtain ⟨gA, oA, hA, hbA, hcell⟩ := (Rd.of_own o3).int (k := 0) (by simp)
      have hcut := (RdIn.of_own o3).cut (size := 1) (n := (q :: l).length) (k := 1) (cap := c) (by simp [ints]) (by simp) (by simp; omega)
      subst hA
      have HCUT := Lib.hid (show RdIn wr (w.heap.size + 3 ≤ ·) (if c = 1 then some ⟨gA, oA, none⟩ else some ⟨gA, oA + 1, none⟩) (ints l) by simpa [Addr.add, ints] using hcut)
      have hcell' : wr.cell? ⟨gA, oA, none⟩ = some (.int .i64 q) := by simpa using hcell
      obtain ⟨s0, s1, s2, s3, s4, s5, s6, s7⟩ := n2.four
      obtain ⟨u0, u1, u2, u3⟩ := n3.two
      have HLL := Lib.hid hll; have HDL := Lib.hid (show (ts.drop (kk + 1)).length = m by rw [List.length_drop]; have := HKM.out; omega)
      have hml : m ≤ 1000 := by have := HKM.out; omega
      have hkl : kk ≤ 1000 := by have := HKM.out; omega
      clear hcut hcell hql hll o3 o4 n1 n2 n3
      have j1 : (((kk + 1 : Nat) : Int) == 0) = false := by rw [beq_eq_false_iff_ne]; omega
      have j2 : (((kk : Int) + 1) == 0) = false := by rw [beq_eq_false_iff_ne]; omega
      have j3 : (0 : Int) < (kk : Int) + 1 := by omega
      have j4 : (1 : Int) ≤ (kk : Int) + 1 := by omega
      have j5 : (1 : Int) ≤ (c : Int) := by omega
      by_cases hc1 : c = 1
      · subst hc1
        obtain rfl : kk = 0 := by omega
        obtain rfl : l = [] := List.eq_nil_of_length_eq_zero HLL.out
        go_wp2
        go_quiet (fail)
        go_wp2
        refine bodyPost_ret (v := .tuple #[.agg #[.int .i64 at0, .int .i64 ser, .slice (some ⟨gA, oA, none⟩) 0 0, .slice B m cc], .int .i64 q, .agg #[.int .i64 0, .int .i64 0]]) (by simp [results, Try.results23, go_sem, s0, s1, s2, s3, u0, u1]) rfl ?_
        rw [HF.out, HP.out]
        refine ⟨_, rfl, CkIn.weaken (ok := (w.heap.size + 3 ≤ ·)) ?_ (fun b hb => Nat.le_trans (by omega) hb), (by repeat (first | (with_reducible exact hBl) | (with_reducible exact Below.refl _ _) | (with_reducible apply Below.drew) | (with_reducible apply below_drewN) | ((with_reducible refine Below.setCell ?_ ?_ _); rotate_left; (focus (first | (simp; done) | (simp; omega) | omega))) | ((with_reducible refine Below.alloc ?_ ?_ _); rotate_left; (focus (first | (simp; done) | (simp; omega) | omega)))))⟩
        repeat (refine CkIn.setCell ?_ (by simp; try omega) _)
        exact ⟨some ⟨gA, oA, none⟩, 0, B, cc, by have h := HKM.out; simp; omega, RdIn.nil, RB.out, by simp, by dsimp only; rw [HDL.out]; exact hcc, by simp, by dsimp only; rw [HDL.out]; omega⟩
      · go_wp2
        go_quiet (fail)
        go_wp2
        refine bodyPost_ret (v := .tuple #[.agg #[.int .i64 at0, .int .i64 ser, .slice (some ⟨gA, oA + 1, none⟩) kk (c - 1), .slice B m cc], .int .i64 q, .agg #[.int .i64 0, .int .i64 0]]) (by simp [results, Try.results23, go_sem, s0, s1, s2, s3, u0, u1]) rfl ?_
        rw [HF.out, HP.out]
        refine ⟨_, rfl, CkIn.weaken (ok := (w.heap.size + 3 ≤ ·)) ?_ (fun b hb => Nat.le_trans (by omega) hb), (by repeat (first | (with_reducible exact hBl) | (with_reducible exact Below.refl _ _) | (with_reducible apply Below.drew) | (with_reducible apply below_drewN) | ((with_reducible refine Below.setCell ?_ ?_ _); rotate_left; (focus (first | (simp; done) | (simp; omega) | omega))) | ((with_reducible refine Below.alloc ?_ ?_ _); rotate_left; (focus (first | (simp; done) | (simp; omega) | omega)))))⟩
        repeat (refine CkIn.setCell ?_ (by simp; try omega) _)
        exact ⟨some ⟨gA, oA + 1, none⟩, c - 1, B, cc, by have h := HKM.out; have h2 := HLL.out; simp; omega, by (have h := HCUT.out; rw [if_neg hc1] at h; exact h), RB.out, by dsimp only; rw [HLL.out]; omega, by dsimp only; rw [HDL.out]; exact hcc, by dsimp only; rw [HLL.out]; omega, by dsimp only; rw [HDL.out]; omega⟩
    · have hk : k < ts.length := by have := HKM.out; omega
      obtain ⟨b, o, e1, hb, c0, c1', c2'⟩ := (Rd.of_own o4).tm hk
      simp only [Option.some.injEq, Addr.mk.injEq, and_true] at e1
      obtain ⟨rfl, rfl⟩ := e1
      simp only [Nat.zero_add] at c0 c1' c2'
      have hBe := hB hmp
      cases hx : (ts[k].at_ == at0)
      · have HMM := Lib.hid (show ∃ mm, m = mm + 1 from ⟨m - 1, by omega⟩)
        have hk0 : 0 < k := by rcases Nat.eq_zero_or_pos k with h0 | h0; (· subst h0; rw [HAT.out] at hx; simp at hx); (· exact h0)
        obtain ⟨kk, rfl⟩ : ∃ kk, k = kk + 1 := ⟨k - 1, by omega⟩
        subst hBe
        obtain ⟨q, l, hql⟩ : ∃ q l, queueT ts (kk + 1) = q :: l := by
          have := queueT_length ts (kk + 1) (by have := HKM.out; omega)
          cases hq : queueT ts (kk + 1) with
          | nil => rw [queueT] at hq; rw [hq] at this; cases this
          | cons q l => exact ⟨q, l, rfl⟩
        have hll : l.length = kk := by
          have := queueT_length ts (kk + 1) (by have := HKM.out; omega)
          rw [← queueT, hql] at this; simpa using this
        have RB := Lib.hid (show RdIn wr (w.heap.size + 3 ≤ ·) (some ⟨g2, (kk + 1) * 3, none⟩) (rows Tm.cells (ts.drop (kk + 1))) by
          intro hn
          have hmp : 0 < m := by
            rw [rows_length Tm.cells_length, List.length_drop] at hn
            have := HKM.out; omega
          obtain ⟨b, o, e1, e2, e3, e4⟩ := RdIn.of_own o4 (by rw [rows_length Tm.cells_length]; omega)
          simp at e1
          obtain ⟨rfl, rfl⟩ := e1
          refine ⟨g2, (kk + 1) * 3, hB hmp, e2, e3, fun j u hu => ?_⟩
          have := e4 ((kk + 1) * 3 + j) u (by rw [rows_drop Tm.cells_length, List.getElem?_drop] at hu; exact hu)
          simpa using this)
        have hcapA : kk + 1 ≤ c := by obtain ⟨A', c', ev, h1, h2⟩ := own_form o3; injection ev with e1 e2 e3; omega
        rw [hql] at o3
        have HR := Lib.hid (show fireF ts.length at0 [] ts = (q :: l, ts.drop (kk + 1)) by rw [HFI.out, ← hql]; obtain ⟨mm, rfl⟩ := HMM.out; exact fireF_miss ts at0 (kk + 1) _ hk hx)
        have HP := Lib.hid (show popM (fire ⟨now, ser, [], ts⟩) = (⟨at0, ser, l, ts.drop (kk + 1)⟩, (q, (0, 0))) by rw [HN.out, HR.out]; rfl)
        obtain ⟨gA, oA, hA, hbA, hcell⟩ := (Rd.of_own o3).int (k := 0) (by simp)
        have hcut := (RdIn.of_own o3).cut (size := 1) (n := (q :: l).length) (k := 1) (cap := c) (by simp [ints]) (by simp) (by simp; omega)
        subst hA
        have HCUT := Lib.hid (show RdIn wr (w.heap.size + 3 ≤ ·) (if c = 1 then some ⟨gA, oA, none⟩ else some ⟨gA, oA + 1, none⟩) (ints l) by simpa [Addr.add, ints] using hcut)
        have hcell' : wr.cell? ⟨gA, oA, none⟩ = some (.int .i64 q) := by simpa using hcell
        obtain ⟨s0, s1, s2, s3, s4, s5, s6, s7⟩ := n2.four
        obtain ⟨u0, u1, u2, u3⟩ := n3.two
        have HLL := Lib.hid hll; have HDL := Lib.hid (show (ts.drop (kk + 1)).length = m by rw [List.length_drop]; have := HKM.out; omega)
        have hml : m ≤ 1000 := by have := HKM.out; omega
        have hkl : kk ≤ 1000 := by have := HKM.out; omega
        clear hcut hcell hql hll o3 o4 n1 n2 n3
        have j1 : (((kk + 1 : Nat) : Int) == 0) = false := by rw [beq_eq_false_iff_ne]; omega
        have j2 : (((kk : Int) + 1) == 0) = false := by rw [beq_eq_false_iff_ne]; omega
        have j3 : (0 : Int) < (kk : Int) + 1 := by omega
        have j4 : (1 : Int) ≤ (kk : Int) + 1 := by omega
        have j5 : (1 : Int) ≤ (c : Int) := by omega
        by_cases hc1 : c = 1
        · subst hc1
          obtain rfl : kk = 0 := by omega
          obtain rfl : l = [] := List.eq_nil_of_length_eq_zero HLL.out
          go_wp2
          go_quiet (fail)
          go_wp2
          refine bodyPost_ret (v := .tuple #[.agg #[.int .i64 at0, .int .i64 ser, .slice (some ⟨gA, oA, none⟩) 0 0, .slice (some ⟨g2, 3, none⟩) m cc], .int .i64 q, .agg #[.int .i64 0, .int .i64 0]]) (by simp [results, Try.results23, go_sem, s0, s1, s2, s3, u0, u1]) rfl ?_
          rw [HF.out, HP.out]
          refine ⟨_, rfl, CkIn.weaken (ok := (w.heap.size + 3 ≤ ·)) ?_ (fun b hb => Nat.le_trans (by omega) hb), (by repeat (first | (with_reducible exact hBl) | (with_reducible exact Below.refl _ _) | (with_reducible apply Below.drew) | (with_reducible apply below_drewN) | ((with_reducible refine Below.setCell ?_ ?_ _); rotate_left; (focus (first | (simp; done) | (simp; omega) | omega))) | ((with_reducible refine Below.alloc ?_ ?_ _); rotate_left; (focus (first | (simp; done) | (simp; omega) | omega)))))⟩
          repeat (refine CkIn.setCell ?_ (by simp; try omega) _)
          exact ⟨some ⟨gA, oA, none⟩, 0, some ⟨g2, 3, none⟩, cc, by have h := HKM.out; simp; omega, RdIn.nil, RB.out, by simp, by dsimp only; rw [HDL.out]; exact hcc, by simp, by dsimp only; rw [HDL.out]; omega⟩
        · go_wp2
          go_quiet (fail)
          go_wp2
          refine bodyPost_ret (v := .tuple #[.agg #[.int .i64 at0, .int .i64 ser, .slice (some ⟨gA, oA + 1, none⟩) kk (c - 1), .slice (some ⟨g2, (kk + 1) * 3, none⟩) m cc], .int .i64 q, .agg #[.int .i64 0, .int .i64 0]]) (by simp [results, Try.results23, go_sem, s0, s1, s2, s3, u0, u1]) rfl ?_
          rw [HF.out, HP.out]
          refine ⟨_, rfl, CkIn.weaken (ok := (w.heap.size + 3 ≤ ·)) ?_ (fun b hb => Nat.le_trans (by omega) hb), (by repeat (first | (with_reducible exact hBl) | (with_reducible exact Below.refl _ _) | (with_reducible apply Below.drew) | (with_reducible apply below_drewN) | ((with_reducible refine Below.setCell ?_ ?_ _); rotate_left; (focus (first | (simp; done) | (simp; omega) | omega))) | ((with_reducible refine Below.alloc ?_ ?_ _); rotate_left; (focus (first | (simp; done) | (simp; omega) | omega)))))⟩
          repeat (refine CkIn.setCell ?_ (by simp; try omega) _)
          exact ⟨some ⟨gA, oA + 1, none⟩, c - 1, some ⟨g2, (kk + 1) * 3, none⟩, cc, by have h := HKM.out; have h2 := HLL.out; simp; omega, by (have h := HCUT.out; rw [if_neg hc1] at h; exact h), RB.out, by dsimp only; rw [HLL.out]; omega, by dsimp only; rw [HDL.out]; exact hcc, by dsimp only; rw [HLL.out]; omega, by dsimp only; rw [HDL.out]; omega⟩
      · subst hBe
        obtain ⟨mm, rfl⟩ : ∃ mm, m = mm + 1 := ⟨m - 1, by omega⟩
        have HNX := Lib.hid (fireF_hit ts at0 k mm hk hx)
        have hmi : (0 : Int) < (mm : Int) + 1 := by omega
        have hmi2 : (1 : Int) ≤ (mm : Int) + 1 := by omega
        have hcci : (1 : Int) ≤ (cc : Int) := by omega
        go_wp2
        go_quiet (fail)
        have hBq : Below w.heap.size w (wr.drewN nq) := below_drewN hBl _
        have n1q : Blk (wr.drewN nq) w.heap.size _ _ := n1
        have n2q : Blk (wr.drewN nq) (w.heap.size + 1) _ _ := n2
        have n3q : Blk (wr.drewN nq) (w.heap.size + 2) _ _ := n3
        have o3q : (wr.drewN nq).ownsRow _ _ _ _ _ _ := o3
        have o4q : (wr.drewN nq).ownsRow _ _ _ _ _ _ := o4
        have c2q : (wr.drewN nq).cell? ⟨g2, k * 3 + 2, none⟩ = some (.int .i64 ts[k].task) := c2'
        clear p0 p1 p2 p3 p4 p5 p6 p7 n1 n2 n3 o3 o4 hBl c0 c1' c2' hb
        generalize wr.drewN nq = wq at *
        obtain ⟨p0, p1, p2, p3, p4, p5, p6, p7⟩ := n1q.four
        have ow := Lib.hid (fun o => (o3q.drew).alloc o)
        have ow4 := Lib.hid (fun o => (o4q.drew).alloc o)
        have rd := Lib.hid (Rd.new' wq.drew 3 #[.int .i64 ts[k].task] wq.heap.size rfl)
        have N := Lib.hid (And.intro n1q (And.intro n2q n3q))
        have hwl := n3q.lt
        have hwy : w.heap.size < wq.heap.size := by omega
        have hne0 := Lib.hid (own_ne (g := w.heap.size) o3q (by omega))
        have hne1 := Lib.hid (own_ne (g := w.heap.size + 1) o3q (by omega))
        have hne2 := Lib.hid (own_ne (g := w.heap.size + 2) o3q (by omega))
        clear n1q n2q n3q
        go_wp2
        go_region_law (refine step_app (base := w.heap.size + 3) (A := A) (n := k) (c := c) (xs := ints (queueT ts k)) (B := some ⟨wq.heap.size, 0, none⟩) (m := 1) (d := 1) (news := [.int .i64 ts[k].task]) rfl st_int (.tmp 47) (.tmp 53) rfl (by simp [Act.eval, Act.put]) (ow.out _) (by simp [Act.eval, Act.put]) rd.out rfl (by simp [Value.oneCell']) (by unfold maxLen; omega) (by omega) (by simp; omega) ?_; intro A' c' w' hown hg hat; obtain ⟨s0, s1, s2, s3, s4, s5, s6, s7⟩ := Blk.four ((hg.block w.heap.size (by simp; omega) hne0.out).trans (N.out.1.alloc _)))
        all_goals
          have z1 : Blk w' w.heap.size 25 _ := (hg.block w.heap.size (by simp; omega) hne0.out).trans (N.out.1.alloc _)
          have z2 : Blk w' (w.heap.size + 1) 25 _ := (hg.block (w.heap.size + 1) (by simp; omega) hne1.out).trans (N.out.2.1.alloc _)
          have z3 : Blk w' (w.heap.size + 2) 27 _ := (hg.block (w.heap.size + 2) (by simp; omega) hne2.out).trans (N.out.2.2.alloc _)
          have o5 := own_other (ow4.out _) (ow.out _) (by decide) hg
          have hB5 : Below w.heap.size w w' := Below.app (hBq.drew.alloc (by simp; omega) _) (ow.out _) hg (by omega) (by simp; omega)
          clear hg hat N ow ow4 rd hne0 hne1 hne2 p0 p1 p2 p3 p4 p5 p6 p7
          by_cases hcc1 : cc = 1
          · subst hcc1
            obtain rfl : mm = 0 := by omega
            go_wp2
            go_roundg 0
            case measure => omega
            case rel =>
              refine ⟨k + 1, 0, A', c', some ⟨g2, k * 3, none⟩, 0, Nat.le_refl _, Lib.hid (by have := HKM.out; omega), fun h => by omega, by omega, Lib.hid (HFI.out.trans HNX.out), ?_, ?_, ?_, ?_, ?_, ?_⟩
              · simpa using (z1.set 2 (.slice A' (k + 1) c')).set 3 (.slice (some ⟨g2, k * 3, none⟩) 0 (0))
              · exact (z2.far (p := ⟨w.heap.size, 2, none⟩) (by simp) _).far (p := ⟨w.heap.size, 3, none⟩) (by simp) _
              · exact (z3.far (p := ⟨w.heap.size, 2, none⟩) (by simp) _).far (p := ⟨w.heap.size, 3, none⟩) (by simp) _
              · rw [queueT_succ ts k hk, ints_append]; exact own_box1 (own_box1 hown (by omega) _) (by omega) _
              · exact own_box1 (own_box1 o5 (by omega) _) (by omega) _
              · exact (by repeat (first | (with_reducible exact hB5) | (with_reducible exact Below.refl _ _) | (with_reducible apply Below.drew) | (with_reducible apply below_drewN) | ((with_reducible refine Below.setCell ?_ ?_ _); rotate_left; (focus (first | (simp; done) | (simp; omega) | omega))) | ((with_reducible refine Below.alloc ?_ ?_ _); rotate_left; (focus (first | (simp; done) | (simp; omega) | omega)))))
          · skip
            go_wp2
            go_roundg mm
            case measure => omega
            case rel =>
              refine ⟨k + 1, mm, A', c', some ⟨g2, k * 3 + 3, none⟩, cc - 1, Nat.le_refl _, Lib.hid (by have := HKM.out; omega), fun h => by rw [show k * 3 + 3 = (k + 1) * 3 by omega], by omega, Lib.hid (HFI.out.trans HNX.out), ?_, ?_, ?_, ?_, ?_, ?_⟩
              · simpa using (z1.set 2 (.slice A' (k + 1) c')).set 3 (.slice (some ⟨g2, k * 3 + 3, none⟩) mm (cc - 1))
              · exact (z2.far (p := ⟨w.heap.size, 2, none⟩) (by simp) _).far (p := ⟨w.heap.size, 3, none⟩) (by simp) _
              · exact (z3.far (p := ⟨w.heap.size, 2, none⟩) (by simp) _).far (p := ⟨w.heap.size, 3, none⟩) (by simp) _
              · rw [queueT_succ ts k hk, ints_append]; exact own_box1 (own_box1 hown (by omega) _) (by omega) _
              · exact own_box1 (own_box1 o5 (by omega) _) (by omega) _
              · exact (by repeat (first | (with_reducible exact hB5) | (with_reducible exact Below.refl _ _) | (with_reducible apply Below.drew) | (with_reducible apply below_drewN) | ((with_reducible refine Below.setCell ?_ ?_ _); rotate_left; (focus (first | (simp; done) | (simp; omega) | omega))) | ((with_reducible refine Below.alloc ?_ ?_ _); rotate_left; (focus (first | (simp; done) | (simp; omega) | omega)))))
end Go.Proofs.Ytgiebofmfkacgaa
