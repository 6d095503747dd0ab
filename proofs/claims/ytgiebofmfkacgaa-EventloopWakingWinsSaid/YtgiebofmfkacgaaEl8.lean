/-
  Contract: the reference's ClockFault.
-/
import Derived.Test.YtgiebofmfkacgaaEl7
namespace Go.Proofs.Ytgiebofmfkacgaa
open Go.RowKit

def cfOk (now ser : Int) (t : Tm) : Bool := inB t.task 0 1000000000000000 && (inB t.at_ (now + 1) 1000000000000000 && inB t.ser 0 (ser - 1))
def cfCode (now ser : Int) (rs : List Int) (pre : List Tm) (prev : Option Tm) (t : Tm) : Int :=
  if cfOk now ser t then (if busy rs pre t.task then 8 else (match prev with | none => 0 | some p => if laterB t p then 0 else 11)) else 4
def cfT (now ser : Int) (rs : List Int) (all : List Tm) : List Tm → Nat → Int × Int
  | [], _ => (0, 0)
  | t :: l, k => if cfCode now ser rs (all.take k) (prevT all k) t = 0 then cfT now ser rs all l (k + 1) else (cfCode now ser rs (all.take k) (prevT all k) t, 1000 + k)
def cfN (n : Int) (seen : List Int) : Int := if inB n 0 1000000000000000 then (if has seen n then 8 else 0) else 4
def cfR (now ser : Int) (ts : List Tm) (rs : List Int) : List Int → Nat → Int × Int
  | [], _ => cfT now ser rs ts ts 0
  | n :: l, k => if cfN n (rs.take k) = 0 then cfR now ser ts rs l (k + 1) else (cfN n (rs.take k), k)
def clockFault (c : Ck) : Int × Int :=
  if inB c.now 0 1000000000000000 && inB c.ser 0 1000000000000000 then (if 1000 < c.rs.length + c.ts.length then (2, -1) else cfR c.now c.ser c.ts c.rs c.rs 0) else (4, -1)
theorem cfR_step (now ser : Int) (ts : List Tm) (rs : List Int) (k : Nat) (h : k < rs.length) :
    cfR now ser ts rs (rs.drop k) k = if cfN rs[k] (rs.take k) = 0 then cfR now ser ts rs (rs.drop (k + 1)) (k + 1) else (cfN rs[k] (rs.take k), (k : Int)) := by
  rw [List.drop_eq_getElem_cons h]; rfl
theorem cfT_step (now ser : Int) (ts : List Tm) (rs : List Int) (k : Nat) (h : k < ts.length) :
    cfT now ser rs ts (ts.drop k) k = if cfCode now ser rs (ts.take k) (prevT ts k) ts[k] = 0 then cfT now ser rs ts (ts.drop (k + 1)) (k + 1) else (cfCode now ser rs (ts.take k) (prevT ts k) ts[k], 1000 + (k : Int)) := by
  rw [List.drop_eq_getElem_cons h]; rfl
theorem cfOk_cases (now ser : Int) (t : Tm) : (cfOk now ser t = true ∧ inB t.task 0 1000000000000000 = true ∧ inB t.at_ (now + 1) 1000000000000000 = true ∧ inB t.ser 0 (ser - 1) = true) ∨ (cfOk now ser t = false ∧ inB t.task 0 1000000000000000 = false) ∨
    (cfOk now ser t = false ∧ inB t.task 0 1000000000000000 = true ∧ inB t.at_ (now + 1) 1000000000000000 = false) ∨ (cfOk now ser t = false ∧ inB t.task 0 1000000000000000 = true ∧ inB t.at_ (now + 1) 1000000000000000 = true ∧ inB t.ser 0 (ser - 1) = false) := by
  unfold cfOk
  cases inB t.task 0 1000000000000000 <;> cases inB t.at_ (now + 1) 1000000000000000 <;> cases inB t.ser 0 (ser - 1) <;> simp
theorem inB_le {n lo hi : Int} (h : inB n lo hi = true) : lo ≤ n ∧ n ≤ hi := by simpa [inB] using h

set_option maxRecDepth 100000 in
set_option maxHeartbeats 4000000 in
theorem clockfault_any (c : Ck) (v : Value) (w : World) (hv : CkAt w c v) :
    Calls Try.prog 13 #[v] w fun e w' => e = .returned (flt (clockFault c)) ∧ Below w.heap.size w w' := by
  obtain ⟨now, ser, rs, ts⟩ := c
  obtain ⟨RA, rc, TA, tc, rfl, hr, ht, hrc, htc, hrl, htl⟩ := hv
  dsimp only at hr ht hrc htc hrl htl ⊢
  generalize hF : clockFault ⟨now, ser, rs, ts⟩ = F
  cases h1 : inB now 0 1000000000000000
  · have H := Lib.hid (show (4, -1) = F by rw [← hF]; simp [clockFault, h1])
    clear hF
    go_enter Try.func13, Try.ntmps13
    go_wp2_with (first | (go_at_call 15; refine (in_any _ _ _ _).mono ?_; rintro e w' ⟨rfl, rfl⟩) | (go_at_call 16; refine (at_ex _ _ _).mono ?_; rintro e w' ⟨rfl, rfl⟩))
    exact bodyPost_ret (v := .agg #[.int .i64 4, .int .i64 (-1)]) (by simp [results, Try.results13, go_sem]) rfl ⟨ret_flt H.out, (by repeat (first | (with_reducible exact Below.refl _ _) | (with_reducible apply Below.drew) | (with_reducible apply below_drewN) | ((with_reducible refine Below.setCell ?_ ?_ _); rotate_left; (focus (first | (simp; done) | (simp; omega) | omega))) | ((with_reducible refine Below.alloc ?_ ?_ _); rotate_left; (focus (first | (simp; done) | (simp; omega) | omega)))))⟩
  cases h2 : inB ser 0 1000000000000000
  · have H := Lib.hid (show (4, -1) = F by rw [← hF]; simp [clockFault, h2])
    clear hF
    go_enter Try.func13, Try.ntmps13
    go_wp2_with (first | (go_at_call 15; refine (in_any _ _ _ _).mono ?_; rintro e w' ⟨rfl, rfl⟩) | (go_at_call 16; refine (at_ex _ _ _).mono ?_; rintro e w' ⟨rfl, rfl⟩))
    exact bodyPost_ret (v := .agg #[.int .i64 4, .int .i64 (-1)]) (by simp [results, Try.results13, go_sem]) rfl ⟨ret_flt H.out, (by repeat (first | (with_reducible exact Below.refl _ _) | (with_reducible apply Below.drew) | (with_reducible apply below_drewN) | ((with_reducible refine Below.setCell ?_ ?_ _); rotate_left; (focus (first | (simp; done) | (simp; omega) | omega))) | ((with_reducible refine Below.alloc ?_ ?_ _); rotate_left; (focus (first | (simp; done) | (simp; omega) | omega)))))⟩
  by_cases h3 : 1000 < rs.length + ts.length
  · have H := Lib.hid (show (2, -1) = F by rw [← hF]; simp [clockFault, h1, h2, h3])
    clear hF
    go_enter Try.func13, Try.ntmps13
    go_wp2_with (first | (go_at_call 15; refine (in_any _ _ _ _).mono ?_; rintro e w' ⟨rfl, rfl⟩) | (go_at_call 16; refine (at_ex _ _ _).mono ?_; rintro e w' ⟨rfl, rfl⟩))
    exact bodyPost_ret (v := .agg #[.int .i64 2, .int .i64 (-1)]) (by simp [results, Try.results13, go_sem]) rfl ⟨ret_flt H.out, (by repeat (first | (with_reducible exact Below.refl _ _) | (with_reducible apply Below.drew) | (with_reducible apply below_drewN) | ((with_reducible refine Below.setCell ?_ ?_ _); rotate_left; (focus (first | (simp; done) | (simp; omega) | omega))) | ((with_reducible refine Below.alloc ?_ ?_ _); rotate_left; (focus (first | (simp; done) | (simp; omega) | omega)))))⟩
  have H0 := Lib.hid (show F = cfR now ser ts rs rs 0 by rw [← hF]; simp [clockFault, h1, h2, h3])
  clear hF
  obtain ⟨n1, n2⟩ := inB_le h1
  obtain ⟨n3, n4⟩ := inB_le h2
  have h3' : decide (1000 < (rs.length : Int) + (ts.length : Int)) = false := by simp; omega
  go_enter Try.func13, Try.ntmps13
  go_wp2_with (go_at_call 15; refine (in_any _ _ _ _).mono ?_; rintro e w' ⟨rfl, rfl⟩)
  go_loopw [3] (fun i wr => ∃ k : Nat, k ≤ rs.length ∧ i = .int .i64 k ∧ F = cfR now ser ts rs (rs.drop k) k ∧ Below (w.heap.size + 2) ((w.alloc (.cells #[.int .i64 now, .int .i64 ser, .slice RA rs.length rc, .slice TA ts.length tc] 25)).alloc (.cells #[.int .i64 0, .int .i64 0] 27)) wr) (fun i _ => rs.length - (intOf i).toNat)
  case atStart => exact ⟨0, Nat.zero_le _, rfl, H0.out, (by repeat (first | (with_reducible exact Below.refl _ _) | (with_reducible apply Below.drew) | (with_reducible apply below_drewN) | ((with_reducible refine Below.setCell ?_ ?_ _); rotate_left; (focus (first | (simp; done) | (simp; omega) | omega))) | ((with_reducible refine Below.alloc ?_ ?_ _); rotate_left; (focus (first | (simp; done) | (simp; omega) | omega)))))⟩
  case round =>
    obtain ⟨k, hk, rfl, hs, hbl⟩ := hrel
    have H := Lib.hid hs; clear hs
    obtain ⟨k1, k2, hz⟩ := box2 (w := w) hbl rfl (by omega)
    have hy : w.heap.size < wr.heap.size := by omega
    have hB : Below w.heap.size w wr := Below.trans (by repeat (first | (with_reducible exact Below.refl _ _) | (with_reducible apply Below.drew) | (with_reducible apply below_drewN) | ((with_reducible refine Below.setCell ?_ ?_ _); rotate_left; (focus (first | (simp; done) | (simp; omega) | omega))) | ((with_reducible refine Below.alloc ?_ ?_ _); rotate_left; (focus (first | (simp; done) | (simp; omega) | omega))))) (hbl.mono (by omega))
    obtain ⟨p0, p1, p2, p3, p4, p5, p6, p7⟩ := Blk.four k1
    obtain ⟨r0, r1, r2, r3⟩ := Blk.two k2
    clear k1 k2
    by_cases hlt : k < rs.length
    · have HS := Lib.hid (cfR_step now ser ts rs k hlt)
      obtain ⟨b, o, rfl, hb, hc⟩ := (hr.below hB).int hlt
      cases g1 : inB rs[k] 0 1000000000000000
      · have HC := Lib.hid (show cfN rs[k] (rs.take k) = 4 by simp [cfN, g1])
        go_wp2_with (first | (go_at_call 15; refine (in_any _ _ _ _).mono ?_; rintro e w' ⟨rfl, rfl⟩) | (go_at_call 16; refine (at_ex _ _ _).mono ?_; rintro e w' ⟨rfl, rfl⟩))
        refine bodyPost_ret (v := .agg #[.int .i64 4, .int .i64 k]) (by simp [results, Try.results13, go_sem, r0, r1, hz, hy]) rfl ⟨ret_flt (by rw [H.out, HS.out, HC.out]; rfl), ?_⟩
        exact (by repeat (first | (with_reducible exact hB) | (with_reducible exact Below.refl _ _) | (with_reducible apply Below.drew) | (with_reducible apply below_drewN) | ((with_reducible refine Below.setCell ?_ ?_ _); rotate_left; (focus (first | (simp; done) | (simp; omega) | omega))) | ((with_reducible refine Below.alloc ?_ ?_ _); rotate_left; (focus (first | (simp; done) | (simp; omega) | omega)))))
      · cases g2 : has (rs.take k) rs[k]
        · have HC := Lib.hid (show cfN rs[k] (rs.take k) = 0 by simp [cfN, g1, g2])
          have i1 : (k : Int) ≤ (rc : Int) := by omega
          have HK := Lib.hid (fun n : Nat => show Calls Try.prog 27 #[.slice (some ⟨b, o, none⟩) k rc, .int .i64 rs[k]] (wr.drewN n) fun e w' => e = .returned (.bool false) ∧ wr.drewN n = w' by
            have := has_len (some ⟨b, o, none⟩) rc k (rs.take k) rs[k] (wr.drewN n) (by simp; omega) (by rw [ints_take]; exact ((hr.below hB).drewN n).take k) (by omega)
            rw [g2] at this; exact this)
          go_wp2_with (go_at_call 15; refine (in_any _ _ _ _).mono ?_; rintro e w' ⟨rfl, rfl⟩)
          go_quiet ((go_at_call 27; exact quiet_same (HK.out _)))
          go_wp2
          go_roundw
          case rel => exact ⟨k + 1, by omega, by go_num, by rw [H.out, HS.out, if_pos HC.out], below_drewN hbl _⟩
          case measure => simp [intOf]; omega
        · have HC := Lib.hid (show cfN rs[k] (rs.take k) = 8 by simp [cfN, g1, g2])
          have i1 : (k : Int) ≤ (rc : Int) := by omega
          have HK := Lib.hid (fun n : Nat => show Calls Try.prog 27 #[.slice (some ⟨b, o, none⟩) k rc, .int .i64 rs[k]] (wr.drewN n) fun e w' => e = .returned (.bool true) ∧ wr.drewN n = w' by
            have := has_len (some ⟨b, o, none⟩) rc k (rs.take k) rs[k] (wr.drewN n) (by simp; omega) (by rw [ints_take]; exact ((hr.below hB).drewN n).take k) (by omega)
            rw [g2] at this; exact this)
          go_wp2_with (go_at_call 15; refine (in_any _ _ _ _).mono ?_; rintro e w' ⟨rfl, rfl⟩)
          go_quiet ((go_at_call 27; exact quiet_same (HK.out _)))
          have hBq : Below w.heap.size w (wr.drewN nq) := below_drewN hB _
          have q0 : (wr.drewN nq).cell? ⟨w.heap.size + 1, 0, none⟩ = some (.int .i64 0) := r0
          have q1 : (wr.drewN nq).cell? ⟨w.heap.size + 1, 1, none⟩ = some (.int .i64 0) := r1
          have q2 : (wr.drewN nq).frozen? ⟨w.heap.size + 1, 0, none⟩ = false := r2
          have q3 : (wr.drewN nq).frozen? ⟨w.heap.size + 1, 1, none⟩ = false := r3
          have hzq : w.heap.size + 1 < (wr.drewN nq).heap.size := hz
          generalize wr.drewN nq = wq at *
          go_wp2_with (go_at_call 16; refine (at_ex _ _ _).mono ?_; rintro e w' ⟨rfl, rfl⟩)
          refine bodyPost_ret (v := .agg #[.int .i64 8, .int .i64 k]) (by simp [results, Try.results13, go_sem, q0, q1, hzq]) rfl ⟨ret_flt (by rw [H.out, HS.out, HC.out]; rfl), ?_⟩
          exact (by repeat (first | (with_reducible exact hBq) | (with_reducible exact Below.refl _ _) | (with_reducible apply Below.drew) | (with_reducible apply below_drewN) | ((with_reducible refine Below.setCell ?_ ?_ _); rotate_left; (focus (first | (simp; done) | (simp; omega) | omega))) | ((with_reducible refine Below.alloc ?_ ?_ _); rotate_left; (focus (first | (simp; done) | (simp; omega) | omega)))))
    · have HT := Lib.hid (show F = cfT now ser rs ts (ts.drop 0) 0 by
        rw [H.out, List.drop_eq_nil_of_le (by omega)]; rfl)
      clear p0 p1 p4 p5 p6 p7 r0 r1 r2 r3
      go_wp2
      obtain ⟨wo, rfl⟩ : ∃ wo : World, wo = wr := ⟨_, rfl⟩
      go_loopw [4] (fun i wr => ∃ k : Nat, k ≤ ts.length ∧ i = .int .i64 k ∧ F = cfT now ser rs ts (ts.drop k) k ∧ Below (w.heap.size + 2) ((w.alloc (.cells #[.int .i64 now, .int .i64 ser, .slice RA rs.length rc, .slice TA ts.length tc] 25)).alloc (.cells #[.int .i64 0, .int .i64 0] 27)) wr) (fun i _ => ts.length - (intOf i).toNat)
      case atStart => exact ⟨0, Nat.zero_le _, rfl, HT.out, hbl⟩
      case round =>
        clear p2 p3 HT H hlt hk hbl hB hz hy
        obtain ⟨j, hj, rfl, hs, hbl⟩ := hrel
        have H := Lib.hid hs; clear hs
        obtain ⟨k1, k2, hz⟩ := box2 (w := w) hbl rfl (by omega)
        have hy : w.heap.size < wr.heap.size := by omega
        have hB : Below w.heap.size w wr := Below.trans (by repeat (first | (with_reducible exact Below.refl _ _) | (with_reducible apply Below.drew) | (with_reducible apply below_drewN) | ((with_reducible refine Below.setCell ?_ ?_ _); rotate_left; (focus (first | (simp; done) | (simp; omega) | omega))) | ((with_reducible refine Below.alloc ?_ ?_ _); rotate_left; (focus (first | (simp; done) | (simp; omega) | omega))))) (hbl.mono (by omega))
        obtain ⟨p0, p1, p2, p3, p4, p5, p6, p7⟩ := Blk.four k1
        obtain ⟨r0, r1, r2, r3⟩ := Blk.two k2
        clear k1 k2
        by_cases hlt : j < ts.length
        rotate_left
        · go_wp2_with (go_at_call 16; refine (at_ex _ _ _).mono ?_; rintro e w' ⟨rfl, rfl⟩)
          refine bodyPost_ret (v := .agg #[.int .i64 0, .int .i64 0]) (by simp [results, Try.results13, go_sem, r0, r1, hz, hy]) rfl ⟨ret_flt (by rw [H.out, List.drop_eq_nil_of_le (by omega)]; rfl), ?_⟩
          exact (by repeat (first | (with_reducible exact hB) | (with_reducible exact Below.refl _ _) | (with_reducible apply Below.drew) | (with_reducible apply below_drewN) | ((with_reducible refine Below.setCell ?_ ?_ _); rotate_left; (focus (first | (simp; done) | (simp; omega) | omega))) | ((with_reducible refine Below.alloc ?_ ?_ _); rotate_left; (focus (first | (simp; done) | (simp; omega) | omega)))))
        have HS := Lib.hid (cfT_step now ser ts rs j hlt)
        obtain ⟨b, o, rfl, hb, hc0, hc1, hc2⟩ := (ht.below hB).tm hlt
        rcases cfOk_cases now ser ts[j] with ⟨ho, g1, g2, g3⟩ | ⟨ho, g1⟩ | ⟨ho, g1, g2⟩ | ⟨ho, g1, g2, g3⟩
        rotate_left
        all_goals try
          have HC := Lib.hid (show cfCode now ser rs (ts.take j) (prevT ts j) ts[j] = 4 by simp [cfCode, ho])
          clear ho
          go_wp2_with (first | (go_at_call 15; refine (in_any _ _ _ _).mono ?_; rintro e w' ⟨rfl, rfl⟩) | (go_at_call 16; refine (at_ex _ _ _).mono ?_; rintro e w' ⟨rfl, rfl⟩))
          refine bodyPost_ret (v := .agg #[.int .i64 4, .int .i64 (1000 + j)]) (by simp [results, Try.results13, go_sem, r0, r1, hz, hy]) rfl ⟨ret_flt (by rw [H.out, HS.out, HC.out]; rfl), ?_⟩
          exact (by repeat (first | (with_reducible exact hB) | (with_reducible exact Below.refl _ _) | (with_reducible apply Below.drew) | (with_reducible apply below_drewN) | ((with_reducible refine Below.setCell ?_ ?_ _); rotate_left; (focus (first | (simp; done) | (simp; omega) | omega))) | ((with_reducible refine Below.alloc ?_ ?_ _); rotate_left; (focus (first | (simp; done) | (simp; omega) | omega)))))
        have hjl : (ts.take j).length = j := by simp; omega
        have HL := Lib.hid hjl; clear hjl
        go_wp2_with (go_at_call 15; refine (in_any _ _ _ _).mono ?_; rintro e w' ⟨rfl, rfl⟩)
        have hbl1 := hbl.alloc (by omega) (.cells #[.int .i64 ts[j].at_, .int .i64 ts[j].ser, .int .i64 ts[j].task] 46)
        have kb := Blk.new wr 46 #[.int .i64 ts[j].at_, .int .i64 ts[j].ser, .int .i64 ts[j].task]
        generalize wr.alloc (.cells #[.int .i64 ts[j].at_, .int .i64 ts[j].ser, .int .i64 ts[j].task] 46) = w1 at *
        clear p0 p1 p2 p3 p4 p5 p6 p7 r0 r1 r2 r3
        obtain ⟨b1, b2, hz1⟩ := box2 (w := w) hbl1 rfl (by omega)
        have hB1 : Below w.heap.size w w1 := Below.trans (by repeat (first | (with_reducible exact Below.refl _ _) | (with_reducible apply Below.drew) | (with_reducible apply below_drewN) | ((with_reducible refine Below.setCell ?_ ?_ _); rotate_left; (focus (first | (simp; done) | (simp; omega) | omega))) | ((with_reducible refine Below.alloc ?_ ?_ _); rotate_left; (focus (first | (simp; done) | (simp; omega) | omega))))) (hbl1.mono (by omega))
        obtain ⟨c0, c1, c2, _, _, _⟩ := kb.three
        obtain ⟨q0, q1, q2, q3, q4, q5, q6, q7⟩ := Blk.four b1
        have kz := kb.lt
        have i1 : (j : Int) ≤ (tc : Int) := by omega
        cases hbu : busy rs (ts.take j) ts[j].task
        · have HC := Lib.hid (show cfCode now ser rs (ts.take j) (prevT ts j) ts[j] = (match prevT ts j with | none => 0 | some p => if laterB ts[j] p then 0 else 11) by simp [cfCode, ho, hbu])
          have HK := Lib.hid (show Calls Try.prog 17 #[.agg #[.int .i64 0, .int .i64 0, .slice RA rs.length rc, .slice (some ⟨b, o, none⟩) j tc], .int .i64 ts[j].task] w1.drew fun e w' => e = .returned (.bool false) ∧ Below w1.drew.heap.size w1.drew w' by
            have := busy_any ⟨0, 0, rs, ts.take j⟩ (.agg #[.int .i64 0, .int .i64 0, .slice RA rs.length rc, .slice (some ⟨b, o, none⟩) j tc]) ts[j].task w1.drew ⟨RA, rc, some ⟨b, o, none⟩, tc, by rw [HL.out], (hr.below hB1).drew, by rw [rows_take Tm.cells_length]; exact ((ht.below hB1).drew).take _, hrc, by rw [HL.out]; omega, hrl, by rw [HL.out]; omega⟩
            rw [hbu] at this; exact this)
          go_region_held3 (fun w' => w'.cell? ⟨w.heap.size, 2, none⟩ = some (.slice RA rs.length rc) ∧ w'.cell? ⟨w.heap.size, 3, none⟩ = some (.slice (some ⟨b, o, none⟩) ts.length tc) ∧ w'.cell? ⟨wr.heap.size, 2, none⟩ = some (.int .i64 ts[j].task))
            (first | exact ⟨q2, q3, c2⟩ | exact ⟨(hb2.cell (p := ⟨w.heap.size, 2, none⟩) (by simp; omega)).trans q2, (hb2.cell (p := ⟨w.heap.size, 3, none⟩) (by simp; omega)).trans q3, (hb2.cell (p := ⟨wr.heap.size, 2, none⟩) (by simp; omega)).trans c2⟩)
            (first | (go_at_call 17; refine HK.out.mono ?_; rintro e w2 ⟨rfl, hb2⟩))
          obtain ⟨s0, s1, s2, s3⟩ := Blk.two ((hb2.block (w.heap.size + 1) (show w.heap.size + 1 < w1.heap.size by omega)).trans b2)
          obtain ⟨t0, t1, t2, t3, t4, t5, t6, t7⟩ := Blk.four ((hb2.block w.heap.size (show w.heap.size < w1.heap.size by omega)).trans b1)
          obtain ⟨d0, d1, d2, _, _, _⟩ := Blk.three ((hb2.block wr.heap.size (show wr.heap.size < w1.heap.size by omega)).trans kb)
          have hB2 : Below w.heap.size w w2 := hB1.drew.trans (hb2.mono (show w.heap.size ≤ w1.heap.size by omega))
          have hbl2 := hbl1.drew.trans (hb2.mono (show w.heap.size + 2 ≤ w1.heap.size by omega))
          have hz2 : w.heap.size + 1 < w2.heap.size := Nat.lt_of_lt_of_le hz1 hb2.size
          have hz3 : wr.heap.size < w2.heap.size := Nat.lt_of_lt_of_le kz hb2.size
          have B2 := Lib.hid ((hb2.block (w.heap.size + 1) (show w.heap.size + 1 < w1.heap.size by omega)).trans b2)
          clear b1 b2 kb q0 q1 q2 q3 q4 q5 q6 q7 c0 c1 c2 ho
          by_cases hj0 : j = 0
          · have HC2 := Lib.hid (show cfCode now ser rs (ts.take j) (prevT ts j) ts[j] = 0 by rw [HC.out]; simp [prevT, hj0])
            have hjz : decide (0 < j) = false := by simp; omega
            clear hj0
            go_wp2
            go_quiet (fail)
            go_wp2
            go_roundw
            case rel => exact ⟨j + 1, by omega, by go_num, by rw [H.out, HS.out, if_pos HC2.out], below_drewN hbl2 _⟩
            case measure => simp [intOf]; omega
          have hjp : 0 < j := by omega
          have hlp : j - 1 < ts.length := by omega
          have HP := Lib.hid (show prevT ts j = some ts[j - 1] by simp [prevT, hj0, hlp])
          have HJ := Lib.hid hj0; clear hj0
          obtain ⟨bb, oo, he, hbb, e0, e1, e2⟩ := (ht.below hB2).tm hlp
          simp only [Option.some.injEq, Addr.mk.injEq, and_true] at he
          obtain ⟨rfl, rfl⟩ := he
          have i1 : IntKind.i64.wrap ((j : Int) - 1) = (j : Int) - 1 := IntWalk.i64_in _ (by omega)
          have i2 : (0 : Int) ≤ (j : Int) - 1 := by omega
          have i3 : (1 : Int) ≤ (j : Int) := by omega
          have i4 : ((j : Int) - 1).toNat = j - 1 := by omega
          have i5 : (j : Int) - 1 < (ts.length : Int) := by omega
          go_wp2_with fail
          go_region_held3 (fun w' => w'.cell? ⟨w.heap.size, 3, none⟩ = some (.slice (some ⟨b, o, none⟩) ts.length tc) ∧ w'.cell? ⟨b, o + (j - 1) * 3, none⟩ = some (.int .i64 ts[j - 1].at_) ∧ w'.cell? ⟨b, o + (j - 1) * 3 + 1, none⟩ = some (.int .i64 ts[j - 1].ser) ∧ w'.cell? ⟨b, o + (j - 1) * 3 + 2, none⟩ = some (.int .i64 ts[j - 1].task) ∧ w'.cell? ⟨wr.heap.size, 0, none⟩ = some (.int .i64 ts[j].at_) ∧ w'.cell? ⟨wr.heap.size, 1, none⟩ = some (.int .i64 ts[j].ser) ∧ w'.cell? ⟨wr.heap.size, 2, none⟩ = some (.int .i64 ts[j].task))
            (first | exact ⟨t3, e0, e1, e2, d0, d1, d2⟩ | exact ⟨(hb3.cell (p := ⟨w.heap.size, 3, none⟩) (by simp; omega)).trans t3, (hb3.cell (p := ⟨b, o + (j - 1) * 3, none⟩) (by simp; omega)).trans e0, (hb3.cell (p := ⟨b, o + (j - 1) * 3 + 1, none⟩) (by simp; omega)).trans e1, (hb3.cell (p := ⟨b, o + (j - 1) * 3 + 2, none⟩) (by simp; omega)).trans e2, (hb3.cell (p := ⟨wr.heap.size, 0, none⟩) (by simp; omega)).trans d0, (hb3.cell (p := ⟨wr.heap.size, 1, none⟩) (by simp; omega)).trans d1, (hb3.cell (p := ⟨wr.heap.size, 2, none⟩) (by simp; omega)).trans d2⟩)
            (first | (go_at_call 39; refine (later_any ts[j] ts[j - 1] _).mono ?_; rintro e w3 ⟨rfl, hb3⟩))
          clear i1 i2 i3 i4 i5
          obtain ⟨u0, u1, u2, u3⟩ := Blk.two ((hb3.block (w.heap.size + 1) (show w.heap.size + 1 < w2.heap.size by omega)).trans B2.out)
          have hB3 : Below w.heap.size w w3 := hB2.drew.trans (hb3.mono (show w.heap.size ≤ w2.heap.size by omega))
          have hbl3 := hbl2.drew.trans (hb3.mono (show w.heap.size + 2 ≤ w2.heap.size by omega))
          have hz4 : w.heap.size + 1 < w3.heap.size := Nat.lt_of_lt_of_le hz2 hb3.size
          cases hla : laterB ts[j] ts[j - 1]
          · have HC2 := Lib.hid (show cfCode now ser rs (ts.take j) (prevT ts j) ts[j] = 11 by rw [HC.out, HP.out]; simp [hla])
            go_wp2_with (go_at_call 16; refine (at_ex _ _ _).mono ?_; rintro e w' ⟨rfl, rfl⟩)
            refine bodyPost_ret (v := .agg #[.int .i64 11, .int .i64 (1000 + j)]) (by simp [results, Try.results13, go_sem, u0, u1, hz4]) rfl ⟨ret_flt (by rw [H.out, HS.out, HC2.out]; rfl), ?_⟩
            exact (by repeat (first | (with_reducible exact hB3) | (with_reducible exact Below.refl _ _) | (with_reducible apply Below.drew) | (with_reducible apply below_drewN) | ((with_reducible refine Below.setCell ?_ ?_ _); rotate_left; (focus (first | (simp; done) | (simp; omega) | omega))) | ((with_reducible refine Below.alloc ?_ ?_ _); rotate_left; (focus (first | (simp; done) | (simp; omega) | omega)))))
          · have HC2 := Lib.hid (show cfCode now ser rs (ts.take j) (prevT ts j) ts[j] = 0 by rw [HC.out, HP.out]; simp [hla])
            go_wp2
            go_roundw
            case rel => exact ⟨j + 1, by omega, by go_num, by rw [H.out, HS.out, if_pos HC2.out], hbl3⟩
            case measure => simp [intOf]; omega
        · have HC := Lib.hid (show cfCode now ser rs (ts.take j) (prevT ts j) ts[j] = 8 by simp [cfCode, ho, hbu])
          have HK := Lib.hid (show Calls Try.prog 17 #[.agg #[.int .i64 0, .int .i64 0, .slice RA rs.length rc, .slice (some ⟨b, o, none⟩) j tc], .int .i64 ts[j].task] w1.drew fun e w' => e = .returned (.bool true) ∧ Below w1.drew.heap.size w1.drew w' by
            have := busy_any ⟨0, 0, rs, ts.take j⟩ (.agg #[.int .i64 0, .int .i64 0, .slice RA rs.length rc, .slice (some ⟨b, o, none⟩) j tc]) ts[j].task w1.drew ⟨RA, rc, some ⟨b, o, none⟩, tc, by rw [HL.out], (hr.below hB1).drew, by rw [rows_take Tm.cells_length]; exact ((ht.below hB1).drew).take _, hrc, by rw [HL.out]; omega, hrl, by rw [HL.out]; omega⟩
            rw [hbu] at this; exact this)
          go_region_held3 (fun w' => w'.cell? ⟨w.heap.size, 2, none⟩ = some (.slice RA rs.length rc) ∧ w'.cell? ⟨w.heap.size, 3, none⟩ = some (.slice (some ⟨b, o, none⟩) ts.length tc) ∧ w'.cell? ⟨wr.heap.size, 2, none⟩ = some (.int .i64 ts[j].task))
            (first | exact ⟨q2, q3, c2⟩ | exact ⟨(hb2.cell (p := ⟨w.heap.size, 2, none⟩) (by simp; omega)).trans q2, (hb2.cell (p := ⟨w.heap.size, 3, none⟩) (by simp; omega)).trans q3, (hb2.cell (p := ⟨wr.heap.size, 2, none⟩) (by simp; omega)).trans c2⟩)
            (first | (go_at_call 17; refine HK.out.mono ?_; rintro e w2 ⟨rfl, hb2⟩))
          obtain ⟨s0, s1, s2, s3⟩ := Blk.two ((hb2.block (w.heap.size + 1) (show w.heap.size + 1 < w1.heap.size by omega)).trans b2)
          have hB2 : Below w.heap.size w w2 := hB1.drew.trans (hb2.mono (show w.heap.size ≤ w1.heap.size by omega))
          have hz2 : w.heap.size + 1 < w2.heap.size := Nat.lt_of_lt_of_le hz1 hb2.size
          clear b1 b2 kb
          go_wp2_with (go_at_call 16; refine (at_ex _ _ _).mono ?_; rintro e w' ⟨rfl, rfl⟩)
          refine bodyPost_ret (v := .agg #[.int .i64 8, .int .i64 (1000 + j)]) (by simp [results, Try.results13, go_sem, s0, s1, hz2]) rfl ⟨ret_flt (by rw [H.out, HS.out, HC.out]; rfl), ?_⟩
          exact (by repeat (first | (with_reducible exact hB2) | (with_reducible exact Below.refl _ _) | (with_reducible apply Below.drew) | (with_reducible apply below_drewN) | ((with_reducible refine Below.setCell ?_ ?_ _); rotate_left; (focus (first | (simp; done) | (simp; omega) | omega))) | ((with_reducible refine Below.alloc ?_ ?_ _); rotate_left; (focus (first | (simp; done) | (simp; omega) | omega)))))
end Go.Proofs.Ytgiebofmfkacgaa
