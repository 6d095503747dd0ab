/-
  Contract: Validate.
-/
import Derived.Test.YtgiebofmfkacgaaEl6
import Derived.IntWalk
namespace Go.Proofs.Ytgiebofmfkacgaa
open Go.RowKit

def okT (now ser : Int) (t : Tm) : Bool := decide (now < t.at_) && (timeB t.at_ && (decide (0 ≤ t.ser) && decide (t.ser < ser)))
def codeT (now ser : Int) (prev : Option Tm) (t : Tm) (seen : List Int) : Int :=
  if okT now ser t then (if freshC t.task seen = 0 then (match prev with | none => 0 | some p => if 0 ≤ orderI p t then 11 else 0) else freshC t.task seen) else 4
def valT (now ser : Int) (prev : Option Tm) : List Tm → Nat → List Int → Int × Int
  | [], _, _ => (0, 0)
  | t :: l, k, seen => if codeT now ser prev t seen = 0 then valT now ser (some t) l (k + 1) (seen ++ [t.task]) else (codeT now ser prev t seen, 1000 + k)
def valR (now ser : Int) (ts : List Tm) : List Int → Nat → List Int → Int × Int
  | [], _, seen => valT now ser none ts 0 seen
  | n :: l, k, seen => if freshC n seen = 0 then valR now ser ts l (k + 1) (seen ++ [n]) else (freshC n seen, k)
def validate (c : Ck) : Int × Int :=
  if timeB c.now && timeB c.ser then (if 1000 < c.rs.length + c.ts.length then (2, -1) else valR c.now c.ser c.ts c.rs 0 []) else (4, -1)

theorem valR_step (now ser : Int) (ts : List Tm) (rs : List Int) (k : Nat) (h : k < rs.length) :
    valR now ser ts (rs.drop k) k (rs.take k) = if freshC rs[k] (rs.take k) = 0 then valR now ser ts (rs.drop (k + 1)) (k + 1) (rs.take (k + 1)) else (freshC rs[k] (rs.take k), (k : Int)) := by
  rw [List.drop_eq_getElem_cons h, List.take_succ_eq_append_getElem h]; rfl
def prevT (ts : List Tm) (k : Nat) : Option Tm := if k = 0 then none else ts[k - 1]?
def seenT (rs : List Int) (ts : List Tm) (k : Nat) : List Int := rs ++ (ts.take k).map (·.task)
theorem seenT_succ (rs : List Int) (ts : List Tm) (k : Nat) (h : k < ts.length) : seenT rs ts (k + 1) = seenT rs ts k ++ [ts[k].task] := by
  unfold seenT; rw [List.take_succ_eq_append_getElem h, List.map_append, ← List.append_assoc]; rfl
theorem seenT_zero (rs : List Int) (ts : List Tm) : seenT rs ts 0 = rs := by simp [seenT]
theorem valT_step (now ser : Int) (ts : List Tm) (rs : List Int) (k : Nat) (h : k < ts.length) :
    valT now ser (prevT ts k) (ts.drop k) k (seenT rs ts k) = if codeT now ser (prevT ts k) ts[k] (seenT rs ts k) = 0 then valT now ser (prevT ts (k + 1)) (ts.drop (k + 1)) (k + 1) (seenT rs ts (k + 1)) else (codeT now ser (prevT ts k) ts[k] (seenT rs ts k), 1000 + (k : Int)) := by
  have hp : prevT ts (k + 1) = some ts[k] := by simp [prevT, h]
  rw [hp, List.drop_eq_getElem_cons h, seenT_succ rs ts k h]; rfl

theorem okT_cases (now ser : Int) (t : Tm) : (okT now ser t = true ∧ now < t.at_ ∧ timeB t.at_ = true ∧ 0 ≤ t.ser ∧ t.ser < ser) ∨ (okT now ser t = false ∧ decide (now < t.at_) = false) ∨ (okT now ser t = false ∧ now < t.at_ ∧ timeB t.at_ = false) ∨
    (okT now ser t = false ∧ now < t.at_ ∧ timeB t.at_ = true ∧ decide (0 ≤ t.ser) = false) ∨ (okT now ser t = false ∧ now < t.at_ ∧ timeB t.at_ = true ∧ 0 ≤ t.ser ∧ decide (t.ser < ser) = false) := by
  unfold okT
  by_cases a : now < t.at_ <;> cases b : timeB t.at_ <;> by_cases c : 0 ≤ t.ser <;> by_cases d : t.ser < ser <;> simp [a, c, d]

/-- The value of a fault. -/
abbrev flt (f : Int × Int) : Value := .agg #[.int .i64 f.1, .int .i64 f.2]
theorem ret_flt {a b : Int} {f : Int × Int} (h : (a, b) = f) : Ending.returned (.agg #[.int .i64 a, .int .i64 b]) = .returned (flt f) := by subst h; rfl

set_option maxRecDepth 100000 in
set_option maxHeartbeats 4000000 in
theorem validate_any (c : Ck) (v : Value) (w : World) (hv : CkAt w c v) :
    Calls Try.prog 14 #[v] w fun e w' => e = .returned (flt (validate c)) ∧ Below w.heap.size w w' := by
  obtain ⟨now, ser, rs, ts⟩ := c
  obtain ⟨RA, rc, TA, tc, rfl, hr, ht, hrc, htc, hrl, htl⟩ := hv
  dsimp only at hr ht hrc htc hrl htl ⊢
  generalize hF : validate ⟨now, ser, rs, ts⟩ = F
  have hmm := @run_makeMap Try.prog
  cases h1 : timeB now
  · have H := Lib.hid (show (4, -1) = F by rw [← hF]; simp [validate, h1])
    clear hF
    go_enter Try.func14, Try.ntmps14
    go_wp2_with (go_at_call 35; refine (time_any _ _).mono ?_; rintro e w' ⟨rfl, rfl⟩)
    exact bodyPost_ret (v := .agg #[.int .i64 4, .int .i64 (-1)]) (by simp [results, Try.results14, go_sem]) rfl ⟨ret_flt H.out, (by repeat (first | (with_reducible exact Below.refl _ _) | (with_reducible apply Below.drew) | (with_reducible apply below_drewN) | ((with_reducible refine Below.setCell ?_ ?_ _); rotate_left; (focus (first | (simp; done) | (simp; omega) | omega))) | ((with_reducible refine Below.alloc ?_ ?_ _); rotate_left; (focus (first | (simp; done) | (simp; omega) | omega)))))⟩
  cases h2 : timeB ser
  · have H := Lib.hid (show (4, -1) = F by rw [← hF]; simp [validate, h2])
    clear hF
    go_enter Try.func14, Try.ntmps14
    go_wp2_with (go_at_call 35; refine (time_any _ _).mono ?_; rintro e w' ⟨rfl, rfl⟩)
    exact bodyPost_ret (v := .agg #[.int .i64 4, .int .i64 (-1)]) (by simp [results, Try.results14, go_sem]) rfl ⟨ret_flt H.out, (by repeat (first | (with_reducible exact Below.refl _ _) | (with_reducible apply Below.drew) | (with_reducible apply below_drewN) | ((with_reducible refine Below.setCell ?_ ?_ _); rotate_left; (focus (first | (simp; done) | (simp; omega) | omega))) | ((with_reducible refine Below.alloc ?_ ?_ _); rotate_left; (focus (first | (simp; done) | (simp; omega) | omega)))))⟩
  by_cases h3 : 1000 < rs.length + ts.length
  · have H := Lib.hid (show (2, -1) = F by rw [← hF]; simp [validate, h1, h2, h3])
    clear hF
    go_enter Try.func14, Try.ntmps14
    go_wp2_with (go_at_call 35; refine (time_any _ _).mono ?_; rintro e w' ⟨rfl, rfl⟩)
    exact bodyPost_ret (v := .agg #[.int .i64 2, .int .i64 (-1)]) (by simp [results, Try.results14, go_sem]) rfl ⟨ret_flt H.out, (by repeat (first | (with_reducible exact Below.refl _ _) | (with_reducible apply Below.drew) | (with_reducible apply below_drewN) | ((with_reducible refine Below.setCell ?_ ?_ _); rotate_left; (focus (first | (simp; done) | (simp; omega) | omega))) | ((with_reducible refine Below.alloc ?_ ?_ _); rotate_left; (focus (first | (simp; done) | (simp; omega) | omega)))))⟩
  have H0 := Lib.hid (show F = valR now ser ts rs 0 [] by rw [← hF]; simp [validate, h1, h2, h3])
  clear hF
  have h3' : decide (1000 < (rs.length : Int) + (ts.length : Int)) = false := by simp; omega
  go_enter Try.func14, Try.ntmps14
  go_wp2_with (go_at_call 35; refine (time_any _ _).mono ?_; rintro e w' ⟨rfl, rfl⟩)
  go_loopw [36] (fun i wr => ∃ k : Nat, k ≤ rs.length ∧ i = .int .i64 k ∧ F = valR now ser ts (rs.drop k) k (rs.take k) ∧ MapAt wr (w.heap.size + 1 + 1) (Value.int .i64) (sset (rs.take k)) ∧ Below (w.heap.size + 2) ((w.alloc (.cells #[.int .i64 now, .int .i64 ser, .slice RA rs.length rc, .slice TA ts.length tc] 25)).alloc (.cells #[.int .i64 0, .int .i64 0] 27)) wr) (fun i _ => rs.length - (intOf i).toNat)
  case atStart => exact ⟨0, Nat.zero_le _, rfl, by simpa using H0.out, by have := MapAt.new ((w.alloc (.cells #[.int .i64 now, .int .i64 ser, .slice RA rs.length rc, .slice TA ts.length tc] 25)).alloc (.cells #[.int .i64 0, .int .i64 0] 27)) (Value.int .i64); simpa [sset] using this, (by repeat (first | (with_reducible exact Below.refl _ _) | (with_reducible apply Below.drew) | (with_reducible apply below_drewN) | ((with_reducible refine Below.setCell ?_ ?_ _); rotate_left; (focus (first | (simp; done) | (simp; omega) | omega))) | ((with_reducible refine Below.alloc ?_ ?_ _); rotate_left; (focus (first | (simp; done) | (simp; omega) | omega)))))⟩
  case round =>
    obtain ⟨k, hk, rfl, hs, hm, hbl⟩ := hrel
    have H := Lib.hid hs; clear hs
    obtain ⟨k1, k2, hz⟩ := box2 (w := w) hbl rfl (by omega)
    have hB : Below w.heap.size w wr := Below.trans (by repeat (first | (with_reducible exact Below.refl _ _) | (with_reducible apply Below.drew) | (with_reducible apply below_drewN) | ((with_reducible refine Below.setCell ?_ ?_ _); rotate_left; (focus (first | (simp; done) | (simp; omega) | omega))) | ((with_reducible refine Below.alloc ?_ ?_ _); rotate_left; (focus (first | (simp; done) | (simp; omega) | omega))))) (hbl.mono (by omega))
    by_cases hlt : k < rs.length
    · have HS := Lib.hid (valR_step now ser ts rs k hlt)
      obtain ⟨b, o, rfl, hb, hc⟩ := (hr.below hB).int hlt
      by_cases hf : freshC rs[k] (rs.take k) = 0
      · have HF := Lib.hid hf; clear hf
        have K1 := Lib.hid k1; have K2 := Lib.hid k2; clear k1 k2
        go_wp2_with (go_at_call 40; refine (fresh_ok _ _ _ _ hm HF.out).mono ?_; rintro e w1 ⟨rfl, hm1, hg1⟩)
        go_roundw
        case rel =>
          refine ⟨k + 1, by omega, by go_num, by rw [H.out, HS.out, if_pos HF.out], ?_, ?_⟩
          · rw [List.take_succ_eq_append_getElem hlt]; exact hm1
          · exact hbl.grown hg1 (by omega) (by simp)
        case measure => simp [intOf]; omega
      · have hq : (freshC rs[k] (rs.take k) != 0) = true := by simpa using hf
        have HF := Lib.hid hf; clear hf
        obtain ⟨r0, r1, r2, r3⟩ := Blk.two k2
        clear k1 k2
        go_wp2_with (go_at_call 40; refine (fresh_bad _ _ _ _ hm HF.out).mono ?_; rintro e w1 ⟨rfl, rfl⟩)
        refine bodyPost_ret (v := .agg #[.int .i64 (freshC rs[k] (rs.take k)), .int .i64 k]) (by simp [results, Try.results14, go_sem, r0, r1]) rfl ⟨ret_flt (by rw [H.out, HS.out, if_neg HF.out]), ?_⟩
        exact (by repeat (first | (with_reducible exact hB) | (with_reducible exact Below.refl _ _) | (with_reducible apply Below.drew) | (with_reducible apply below_drewN) | ((with_reducible refine Below.setCell ?_ ?_ _); rotate_left; (focus (first | (simp; done) | (simp; omega) | omega))) | ((with_reducible refine Below.alloc ?_ ?_ _); rotate_left; (focus (first | (simp; done) | (simp; omega) | omega)))))
    · obtain ⟨p0, p1, p2, p3, p4, p5, p6, p7⟩ := Blk.four k1
      have HT := Lib.hid (show F = valT now ser (prevT ts 0) (ts.drop 0) 0 (seenT rs ts 0) by
        rw [H.out, List.drop_eq_nil_of_le (by omega), List.take_of_length_le (by omega), seenT_zero]; simp [prevT, valR])
      have HM := Lib.hid (show MapAt wr (w.heap.size + 1 + 1) (Value.int .i64) (sset (seenT rs ts 0)) by
        rw [List.take_of_length_le (by omega)] at hm; rw [seenT_zero]; exact hm)
      clear k1 k2 hm
      go_wp2
      obtain ⟨wo, rfl⟩ : ∃ wo : World, wo = wr := ⟨_, rfl⟩
      go_loopw [53] (fun i wr => ∃ k : Nat, k ≤ ts.length ∧ i = .int .i64 k ∧ F = valT now ser (prevT ts k) (ts.drop k) k (seenT rs ts k) ∧ MapAt wr (w.heap.size + 1 + 1) (Value.int .i64) (sset (seenT rs ts k)) ∧ Below (w.heap.size + 2) ((w.alloc (.cells #[.int .i64 now, .int .i64 ser, .slice RA rs.length rc, .slice TA ts.length tc] 25)).alloc (.cells #[.int .i64 0, .int .i64 0] 27)) wr) (fun i _ => ts.length - (intOf i).toNat)
      case atStart => exact ⟨0, Nat.zero_le _, rfl, HT.out, HM.out, hbl⟩
      case round =>
        clear p0 p1 p2 p3 p4 p5 p6 p7 HM HT H hlt hk hbl hB hz
        obtain ⟨j, hj, rfl, hs, hm, hbl⟩ := hrel
        have H := Lib.hid hs; clear hs
        obtain ⟨k1, k2, hz⟩ := box2 (w := w) hbl rfl (by omega)
        have hy : w.heap.size < wr.heap.size := by omega
        have hB : Below w.heap.size w wr := Below.trans (by repeat (first | (with_reducible exact Below.refl _ _) | (with_reducible apply Below.drew) | (with_reducible apply below_drewN) | ((with_reducible refine Below.setCell ?_ ?_ _); rotate_left; (focus (first | (simp; done) | (simp; omega) | omega))) | ((with_reducible refine Below.alloc ?_ ?_ _); rotate_left; (focus (first | (simp; done) | (simp; omega) | omega))))) (hbl.mono (by omega))
        obtain ⟨p0, p1, p2, p3, p4, p5, p6, p7⟩ := Blk.four k1
        obtain ⟨r0, r1, r2, r3⟩ := Blk.two k2
        have K1 := Lib.hid k1; have K2 := Lib.hid k2; clear k1 k2
        by_cases hlt : j < ts.length
        · have HS := Lib.hid (valT_step now ser ts rs j hlt)
          obtain ⟨b, o, rfl, hb, hc0, hc1, hc2⟩ := (ht.below hB).tm hlt
          rcases okT_cases now ser ts[j] with ⟨ho, g1, g2, g3, g4⟩ | ⟨ho, g1⟩ | ⟨ho, g1, g2⟩ | ⟨ho, g1, g2, g3⟩ | ⟨ho, g1, g2, g3, g4⟩
          rotate_left
          all_goals try
            have HC := Lib.hid (show codeT now ser (prevT ts j) ts[j] (seenT rs ts j) = 4 by simp [codeT, ho])
            clear ho
            go_wp2_with (go_at_call 35; refine (time_any _ _).mono ?_; rintro e w' ⟨rfl, rfl⟩)
            go_quiet (fail)
            go_wp2
            refine bodyPost_ret (v := .agg #[.int .i64 4, .int .i64 (1000 + j)]) (by simp [results, Try.results14, go_sem, r0, r1, hz]) rfl ⟨ret_flt (by rw [H.out, HS.out, HC.out]; rfl), ?_⟩
            exact (by repeat (first | (with_reducible exact hB) | (with_reducible exact Below.refl _ _) | (with_reducible apply Below.drew) | (with_reducible apply below_drewN) | ((with_reducible refine Below.setCell ?_ ?_ _); rotate_left; (focus (first | (simp; done) | (simp; omega) | omega))) | ((with_reducible refine Below.alloc ?_ ?_ _); rotate_left; (focus (first | (simp; done) | (simp; omega) | omega)))))
          have hmlt := hm.lt
          by_cases hf : freshC ts[j].task (seenT rs ts j) = 0
          rotate_left
          · have hq : (freshC ts[j].task (seenT rs ts j) != 0) = true := by simpa using hf
            have hq2 : (freshC ts[j].task (seenT rs ts j) == 0) = false := by simpa using hf
            have HF := Lib.hid hf
            have HC := Lib.hid (show codeT now ser (prevT ts j) ts[j] (seenT rs ts j) = freshC ts[j].task (seenT rs ts j) by simp [codeT, ho, hf])
            clear hf ho
            go_wp2_with (first | (go_at_call 35; refine (time_any _ _).mono ?_; rintro e w' ⟨rfl, rfl⟩) | (go_at_call 40; refine (fresh_bad _ _ _ _ (by exact hm.alloc _) HF.out).mono ?_; rintro e w1 ⟨rfl, rfl⟩))
            go_quiet (fail)
            go_wp2
            refine bodyPost_ret (v := .agg #[.int .i64 (freshC ts[j].task (seenT rs ts j)), .int .i64 (1000 + j)]) (by simp [results, Try.results14, go_sem, r0, r1, hz]) rfl ⟨ret_flt (by rw [H.out, HS.out, HC.out, if_neg HF.out]), ?_⟩
            exact (by repeat (first | (with_reducible exact hB) | (with_reducible exact Below.refl _ _) | (with_reducible apply Below.drew) | (with_reducible apply below_drewN) | ((with_reducible refine Below.setCell ?_ ?_ _); rotate_left; (focus (first | (simp; done) | (simp; omega) | omega))) | ((with_reducible refine Below.alloc ?_ ?_ _); rotate_left; (focus (first | (simp; done) | (simp; omega) | omega)))))
          have HF := Lib.hid hf
          by_cases hj0 : j = 0
          · have hp : prevT ts j = none := by simp [prevT, hj0]
            have HC := Lib.hid (show codeT now ser (prevT ts j) ts[j] (seenT rs ts j) = 0 by simp [codeT, ho, hf, hp])
            have hjz : decide (0 < j) = false := by simp; omega
            clear hf ho hp hj0
            go_wp2_with (first | (go_at_call 35; refine (time_any _ _).mono ?_; rintro e w' ⟨rfl, rfl⟩) | (go_at_call 40; refine (fresh_ok _ _ _ _ (by exact hm.alloc _) HF.out).mono ?_; rintro e w1 ⟨rfl, hm1, hg1⟩))
            go_quiet (fail)
            go_wp2
            go_roundw
            case rel =>
              refine ⟨j + 1, by omega, by go_num, by rw [H.out, HS.out, if_pos HC.out], ?_, ?_⟩
              · rw [seenT_succ rs ts j hlt]; exact hm1
              · refine below_drewN ?_ _
                exact (hbl.alloc (by omega) _).grown hg1 (by simp; omega) (by simp)
            case measure => simp [intOf]; omega
          have hjp : 0 < j := by omega
          have hlp : j - 1 < ts.length := by omega
          have HP := Lib.hid (show prevT ts j = some ts[j - 1] by simp [prevT, hj0, hlp])
          have HJ := Lib.hid hj0; clear hj0
          go_wp2_with (go_at_call 35; refine (time_any _ _).mono ?_; rintro e w' ⟨rfl, rfl⟩)
          refine (fresh_ok _ _ _ _ (by exact hm.alloc _) HF.out).mono ?_
          rintro e w1 ⟨rfl, hm1, hg1⟩
          have hbl1 := (hbl.alloc (by omega) (.cells #[.int .i64 ts[j].at_, .int .i64 ts[j].ser, .int .i64 ts[j].task] 46)).grown hg1 (by simp; omega) (by simp)
          obtain ⟨b1, b2, hz1⟩ := box2 (w := w) hbl1 rfl (by omega)
          have hB1 : Below w.heap.size w w1 := Below.trans (by repeat (first | (with_reducible exact Below.refl _ _) | (with_reducible apply Below.drew) | (with_reducible apply below_drewN) | ((with_reducible refine Below.setCell ?_ ?_ _); rotate_left; (focus (first | (simp; done) | (simp; omega) | omega))) | ((with_reducible refine Below.alloc ?_ ?_ _); rotate_left; (focus (first | (simp; done) | (simp; omega) | omega))))) (hbl1.mono (by omega))
          have kb : Blk w1 wr.heap.size 46 #[.int .i64 ts[j].at_, .int .i64 ts[j].ser, .int .i64 ts[j].task] := (hg1.block wr.heap.size (by simp) (by simp; omega)).trans (Blk.new wr _ _)
          obtain ⟨c0, c1, c2, _, _, _⟩ := kb.three
          obtain ⟨q0, q1, q2, q3, q4, q5, q6, q7⟩ := Blk.four b1
          obtain ⟨s0, s1, s2, s3⟩ := Blk.two b2
          obtain ⟨bb, oo, he, hbb, d0, d1, d2⟩ := (ht.below hB1).tm hlp
          simp only [Option.some.injEq, Addr.mk.injEq, and_true] at he
          obtain ⟨rfl, rfl⟩ := he
          have kz := kb.lt
          clear b1 b2 kb hf
          go_wp2_with fail
          have i1 : IntKind.i64.wrap ((j : Int) - 1) = (j : Int) - 1 := IntWalk.i64_in _ (by omega)
          have i2 : (0 : Int) ≤ (j : Int) - 1 := by omega
          have i3 : (1 : Int) ≤ (j : Int) := by omega
          have i4 : ((j : Int) - 1).toNat = j - 1 := by omega
          have i5 : (j : Int) - 1 < (ts.length : Int) := by omega
          go_region_held3 (fun w' => w'.cell? ⟨w.heap.size, 3, none⟩ = some (.slice (some ⟨b, o, none⟩) ts.length tc) ∧ w'.cell? ⟨b, o + (j - 1) * 3, none⟩ = some (.int .i64 ts[j - 1].at_) ∧ w'.cell? ⟨b, o + (j - 1) * 3 + 1, none⟩ = some (.int .i64 ts[j - 1].ser) ∧ w'.cell? ⟨b, o + (j - 1) * 3 + 2, none⟩ = some (.int .i64 ts[j - 1].task) ∧ w'.cell? ⟨wr.heap.size, 0, none⟩ = some (.int .i64 ts[j].at_) ∧ w'.cell? ⟨wr.heap.size, 1, none⟩ = some (.int .i64 ts[j].ser) ∧ w'.cell? ⟨wr.heap.size, 2, none⟩ = some (.int .i64 ts[j].task))
            (first | exact ⟨q3, d0, d1, d2, c0, c1, c2⟩ | exact ⟨(hb2.cell (p := ⟨w.heap.size, 3, none⟩) (by simp; omega)).trans q3, (hb2.cell (p := ⟨b, o + (j - 1) * 3, none⟩) (by simp; omega)).trans d0, (hb2.cell (p := ⟨b, o + (j - 1) * 3 + 1, none⟩) (by simp; omega)).trans d1, (hb2.cell (p := ⟨b, o + (j - 1) * 3 + 2, none⟩) (by simp; omega)).trans d2, (hb2.cell (p := ⟨wr.heap.size, 0, none⟩) (by simp; omega)).trans c0, (hb2.cell (p := ⟨wr.heap.size, 1, none⟩) (by simp; omega)).trans c1, (hb2.cell (p := ⟨wr.heap.size, 2, none⟩) (by simp; omega)).trans c2⟩)
            (first | (go_at_call 37; refine (order_any ts[j - 1] ts[j] _).mono ?_; rintro e w2 ⟨rfl, hb2⟩))
          clear i1 i2 i3 i4 i5
          have t0 := (hb2.cell (p := ⟨w.heap.size + 1, 0, none⟩) (by simp; omega)).trans s0
          have t1 := (hb2.cell (p := ⟨w.heap.size + 1, 1, none⟩) (by simp; omega)).trans s1
          have t2 := (hb2.frozen (p := ⟨w.heap.size + 1, 0, none⟩) (by simp; omega)).trans s2
          have t3 := (hb2.frozen (p := ⟨w.heap.size + 1, 1, none⟩) (by simp; omega)).trans s3
          have hB2 : Below w.heap.size w w2 := hB1.drew.trans (hb2.mono (show w.heap.size ≤ w1.heap.size by omega))
          have hbl2 := hbl1.drew.trans (hb2.mono (show w.heap.size + 2 ≤ w1.heap.size by omega))
          have hm2 : MapAt w2 (w.heap.size + 1 + 1) (Value.int .i64) (sset (seenT rs ts j ++ [ts[j].task])) := hm1.of_block (hb2.block _ (show w.heap.size + 1 + 1 < w1.heap.size by omega))
          by_cases hO : 0 ≤ orderI ts[j - 1] ts[j]
          · have HC := Lib.hid (show codeT now ser (prevT ts j) ts[j] (seenT rs ts j) = 11 by simp [codeT, ho, HF.out, HP.out, hO])
            clear ho
            go_wp2
            refine bodyPost_ret (v := .agg #[.int .i64 11, .int .i64 (1000 + j)]) (by simp [results, Try.results14, go_sem, t0, t1]) rfl ⟨ret_flt (by rw [H.out, HS.out, HC.out]; rfl), ?_⟩
            exact (by repeat (first | (with_reducible exact hB2) | (with_reducible exact Below.refl _ _) | (with_reducible apply Below.drew) | (with_reducible apply below_drewN) | ((with_reducible refine Below.setCell ?_ ?_ _); rotate_left; (focus (first | (simp; done) | (simp; omega) | omega))) | ((with_reducible refine Below.alloc ?_ ?_ _); rotate_left; (focus (first | (simp; done) | (simp; omega) | omega)))))
          · have HC := Lib.hid (show codeT now ser (prevT ts j) ts[j] (seenT rs ts j) = 0 by simp [codeT, ho, HF.out, HP.out, hO])
            clear ho
            go_wp2
            go_roundw
            case rel =>
              refine ⟨j + 1, by omega, by go_num, by rw [H.out, HS.out, if_pos HC.out], ?_, ?_⟩
              · rw [seenT_succ rs ts j hlt]; exact hm2
              · exact hbl2
            case measure => simp [intOf]; omega
        · go_wp2
          refine bodyPost_ret (v := .agg #[.int .i64 0, .int .i64 0]) (by simp [results, Try.results14, go_sem, r0, r1]) rfl ⟨ret_flt (by rw [H.out, List.drop_eq_nil_of_le (by omega)]; rfl), ?_⟩
          exact (by repeat (first | (with_reducible exact hB) | (with_reducible exact Below.refl _ _) | (with_reducible apply Below.drew) | (with_reducible apply below_drewN) | ((with_reducible refine Below.setCell ?_ ?_ _); rotate_left; (focus (first | (simp; done) | (simp; omega) | omega))) | ((with_reducible refine Below.alloc ?_ ?_ _); rotate_left; (focus (first | (simp; done) | (simp; omega) | omega)))))
end Go.Proofs.Ytgiebofmfkacgaa
