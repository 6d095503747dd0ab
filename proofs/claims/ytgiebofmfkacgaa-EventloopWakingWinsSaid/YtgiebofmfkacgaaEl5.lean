/-
  Contracts: slices.Index, Contains, IndexFunc at timers, timer, clone of a clock.
-/
import Derived.Test.YtgiebofmfkacgaaEl4
namespace Go.Proofs.Ytgiebofmfkacgaa
open Go.RowKit

/-- The place of x, from k on, or -1. -/
def idx (zs : List Int) (x : Int) : Int := match zs.findIdx? (· == x) with | some i => i | none => -1
def idxFrom (zs : List Int) (x : Int) (k : Nat) : Int := match (zs.drop k).findIdx? (· == x) with | some i => i + k | none => -1
theorem idxFrom_zero (zs : List Int) (x : Int) : idx zs x = idxFrom zs x 0 := by simp [idx, idxFrom]
theorem idxFrom_hit (zs : List Int) (x : Int) (k : Nat) (h : k < zs.length) (hx : (zs[k] == x) = true) : idxFrom zs x k = k := by
  unfold idxFrom; rw [List.drop_eq_getElem_cons h, List.findIdx?_cons, hx]; simp
theorem idxFrom_miss (zs : List Int) (x : Int) (k : Nat) (h : k < zs.length) (hx : (zs[k] == x) = false) : idxFrom zs x k = idxFrom zs x (k + 1) := by
  unfold idxFrom; rw [List.drop_eq_getElem_cons h, List.findIdx?_cons, hx]
  cases (zs.drop (k + 1)).findIdx? (· == x) <;> simp; omega
theorem idxFrom_end (zs : List Int) (x : Int) (k : Nat) (h : zs.length ≤ k) : idxFrom zs x k = -1 := by
  unfold idxFrom; rw [List.drop_eq_nil_of_le h]; rfl
theorem idx_has (zs : List Int) (x : Int) : decide (0 ≤ idx zs x) = has zs x := by
  unfold idx has
  cases h : zs.findIdx? (· == x)
  · rw [List.findIdx?_eq_none_iff] at h
    simp; exact fun y hy e => by have := h y hy; simp [e] at this
  · rename_i i
    have := (List.findIdx?_isSome (p := (· == x)) (xs := zs))
    rw [h] at this
    simp at this
    simp [this]

set_option maxHeartbeats 400000 in
theorem index_int (A : Option Addr) (c : Nat) (zs : List Int) (x : Int) (w : World) (hr : Rd w A (ints zs)) (hl : zs.length ≤ 9223372036854775807) :
    Calls Try.prog 56 #[.slice A zs.length c, .int .i64 x] w fun e w' => e = .returned (.int .i64 (idx zs x)) ∧ w = w' := by
  go_enter Try.func56, Try.ntmps56
  go_wp2
  go_loop [8] (fun i => ∃ k : Nat, k ≤ zs.length ∧ i = .int .i64 k ∧ idx zs x = idxFrom zs x k) (fun i => zs.length - (intOf i).toNat)
  case atStart => exact ⟨0, Nat.zero_le _, rfl, idxFrom_zero zs x⟩
  case round =>
    obtain ⟨k, hk, rfl, hs⟩ := hrel
    have H := Lib.hid hs; clear hs
    by_cases hlt : k < zs.length
    · obtain ⟨b, o, rfl, hb, hc⟩ := hr.int hlt
      by_cases hx : (zs[k] == x) = true
      · have hx' : (x == zs[k]) = true := by rw [beq_iff_eq] at hx ⊢; exact hx.symm
        go_wp2
        go_ret
        exact ⟨ret_int (by rw [H.out, idxFrom_hit zs x k hlt hx]), rfl⟩
      · have hx : (zs[k] == x) = false := by simpa using hx
        have hx' : (x == zs[k]) = false := by rw [beq_eq_false_iff_ne] at hx ⊢; exact hx.symm
        go_wp2
        go_round
        case rel => exact ⟨k + 1, by omega, by go_num, by rw [H.out, idxFrom_miss zs x k hlt hx]⟩
        case measure => simp [intOf]; omega
    · go_wp2
      go_ret
      exact ⟨ret_int (by rw [H.out, idxFrom_end zs x k (by omega)]), rfl⟩

set_option maxHeartbeats 400000 in
theorem contains_int (A : Option Addr) (c : Nat) (zs : List Int) (x : Int) (w : World) (hr : Rd w A (ints zs)) (hl : zs.length ≤ 9223372036854775807) :
    Calls Try.prog 42 #[.slice A zs.length c, .int .i64 x] w fun e w' => e = .returned (.bool (has zs x)) ∧ w = w' := by
  go_enter Try.func42, Try.ntmps42
  go_wp2_with (go_at_call 56; refine (index_int _ _ zs x _ hr hl).mono ?_; rintro e w' ⟨rfl, rfl⟩)
  go_ret
  exact ⟨ret_bool (idx_has zs x), rfl⟩

/-- The place of task x among the timers, or -1. -/
def tidx (ts : List Tm) (x : Int) : Int := match ts.findIdx? (·.task == x) with | some i => i | none => -1
def tidxFrom (zs : List Tm) (x : Int) (k : Nat) : Int := match (zs.drop k).findIdx? (·.task == x) with | some i => i + k | none => -1
theorem tidxFrom_zero (zs : List Tm) (x : Int) : tidx zs x = tidxFrom zs x 0 := by simp [tidx, tidxFrom]
theorem tidxFrom_hit (zs : List Tm) (x : Int) (k : Nat) (h : k < zs.length) (hx : (zs[k].task == x) = true) : tidxFrom zs x k = k := by
  unfold tidxFrom; rw [List.drop_eq_getElem_cons h, List.findIdx?_cons, hx]; simp
theorem tidxFrom_miss (zs : List Tm) (x : Int) (k : Nat) (h : k < zs.length) (hx : (zs[k].task == x) = false) : tidxFrom zs x k = tidxFrom zs x (k + 1) := by
  unfold tidxFrom; rw [List.drop_eq_getElem_cons h, List.findIdx?_cons, hx]
  cases (zs.drop (k + 1)).findIdx? (·.task == x) <;> simp; omega
theorem tidxFrom_end (zs : List Tm) (x : Int) (k : Nat) (h : zs.length ≤ k) : tidxFrom zs x k = -1 := by
  unfold tidxFrom; rw [List.drop_eq_nil_of_le h]; rfl
theorem tidx_busy (zs : List Tm) (x : Int) : decide (0 ≤ tidx zs x) = busyT zs x := by
  unfold tidx busyT
  cases h : zs.findIdx? (·.task == x)
  · rw [List.findIdx?_eq_none_iff] at h
    simp; exact fun y hy e => by have := h y hy; simp [e] at this
  · rename_i i
    have := (List.findIdx?_isSome (p := (·.task == x)) (xs := zs))
    rw [h] at this
    simp at this
    simp [this]

set_option maxHeartbeats 400000 in
theorem timer1_any (t : Tm) (g : Nat) (x : Int) (w : World) (hg : w.cell? ⟨g, 0, none⟩ = some (.int .i64 x)) (hgl : g < w.heap.size) :
    Calls Try.prog 58 #[t.val, .pointer (some ⟨g, 0, none⟩)] w fun e w' => e = .returned (.bool (t.task == x)) ∧ Below w.heap.size w w' := by
  obtain ⟨a, b, c⟩ := t
  unfold Tm.val
  dsimp only
  go_enter Try.func58, Try.ntmps58
  go_wp2
  go_ret
  exact ⟨rfl, (by repeat (first | (with_reducible exact Below.refl _ _) | (with_reducible apply Below.drew) | (with_reducible apply below_drewN) | ((with_reducible refine Below.setCell ?_ ?_ _); rotate_left; (focus (first | (simp; done) | (simp; omega) | omega))) | ((with_reducible refine Below.alloc ?_ ?_ _); rotate_left; (focus (first | (simp; done) | (simp; omega) | omega)))))⟩

set_option maxHeartbeats 800000 in
theorem indexfunc_tm (A : Option Addr) (c : Nat) (zs : List Tm) (x : Int) (g : Nat) (w : World) (hr : Rd w A (rows Tm.cells zs)) (hl : zs.length ≤ 9223372036854775807) (hg : w.cell? ⟨g, 0, none⟩ = some (.int .i64 x)) (hgl : g < w.heap.size) :
    Calls Try.prog 57 #[.slice A zs.length c, .func (.func 58) #[] #[.pointer (some ⟨g, 0, none⟩)]] w fun e w' => e = .returned (.int .i64 (tidx zs x)) ∧ Below w.heap.size w w' := by
  go_enter Try.func57, Try.ntmps57
  go_wp2
  go_loopw [8] (fun i wr => ∃ k : Nat, k ≤ zs.length ∧ i = .int .i64 k ∧ tidx zs x = tidxFrom zs x k ∧ Below w.heap.size w wr) (fun i _ => zs.length - (intOf i).toNat)
  case atStart => exact ⟨0, Nat.zero_le _, rfl, tidxFrom_zero zs x, Below.refl _ _⟩
  case round =>
    obtain ⟨k, hk, rfl, hs, hbl⟩ := hrel
    have H := Lib.hid hs; clear hs
    by_cases hlt : k < zs.length
    · obtain ⟨b, o, rfl, hb, hc0, hc1, hc2⟩ := (hr.below hbl).tm hlt
      have hg' : wr.cell? ⟨g, 0, none⟩ = some (.int .i64 x) := (hbl.cell (p := ⟨g, 0, none⟩) hgl).trans hg
      have hgl' : g < wr.heap.size := Nat.lt_of_lt_of_le hgl hbl.size
      by_cases hx : (zs[k].task == x) = true
      · go_wp2_with (go_at_call 58; refine (timer1_any zs[k] g x _ hg' hgl').mono ?_; rintro e w' ⟨rfl, hb1⟩)
        go_ret
        exact ⟨ret_int (by rw [H.out, tidxFrom_hit zs x k hlt hx]), hbl.trans (hb1.mono hbl.size)⟩
      · have hx : (zs[k].task == x) = false := by simpa using hx
        go_wp2_with (go_at_call 58; refine (timer1_any zs[k] g x _ hg' hgl').mono ?_; rintro e w' ⟨rfl, hb1⟩)
        go_roundw
        case rel => exact ⟨k + 1, by omega, by go_num, by rw [H.out, tidxFrom_miss zs x k hlt hx], hbl.trans (hb1.mono hbl.size)⟩
        case measure => simp [intOf]; omega
    · go_wp2
      go_ret
      exact ⟨ret_int (by rw [H.out, tidxFrom_end zs x k (by omega)]), hbl⟩

set_option maxHeartbeats 400000 in
theorem timer_any (c : Ck) (v : Value) (x : Int) (w : World) (hv : CkAt w c v) :
    Calls Try.prog 43 #[v, .int .i64 x] w fun e w' => e = .returned (.int .i64 (tidx c.ts x)) ∧ Below w.heap.size w w' := by
  obtain ⟨now, ser, rs, ts⟩ := c
  obtain ⟨RA, rc, TA, tc, rfl, hr, ht, hrc, htc, hrl, htl⟩ := hv
  dsimp only at hr ht hrc htc hrl htl ⊢
  go_enter Try.func43, Try.ntmps43
  go_wp2_with fail
  refine (indexfunc_tm _ _ ts x _ _ ((ht.alloc _).alloc _) (by omega) (by go_simp) (by simp)).mono ?_
  rintro e w' ⟨rfl, hb⟩
  go_wp2
  go_ret
  refine ⟨rfl, Below.trans ?_ (hb.mono (by simp; omega))⟩
  exact (by repeat (first | (with_reducible exact Below.refl _ _) | (with_reducible apply Below.drew) | (with_reducible apply below_drewN) | ((with_reducible refine Below.setCell ?_ ?_ _); rotate_left; (focus (first | (simp; done) | (simp; omega) | omega))) | ((with_reducible refine Below.alloc ?_ ?_ _); rotate_left; (focus (first | (simp; done) | (simp; omega) | omega)))))

set_option maxHeartbeats 800000 in
theorem clone_any (c : Ck) (v : Value) (w : World) (hv : CkAt w c v) (hl2 : c.ts.length * 24 ≤ 140737488355328) :
    Calls Try.prog 34 #[v] w fun e w' => ∃ RA rc TA tc, e = .returned (.agg #[.int .i64 c.now, .int .i64 c.ser, .slice RA c.rs.length rc, .slice TA c.ts.length tc]) ∧
      w'.ownsRow w.heap.size 3 1 (.slice RA c.rs.length rc) c.rs.length (ints c.rs) ∧ w'.ownsRow w.heap.size 46 3 (.slice TA c.ts.length tc) c.ts.length (rows Tm.cells c.ts) ∧ Below w.heap.size w w' := by
  obtain ⟨now, ser, rs, ts⟩ := c
  obtain ⟨RA, rc, TA, tc, rfl, hr, ht, hrc, htc, hrl, htl⟩ := hv
  dsimp only at hr ht hrc htc hrl htl hl2 ⊢
  go_enter Try.func34, Try.ntmps34
  go_wp2_with fail
  go_region_with (first
    | (go_at_call 50; refine (clone_int _ _ rs _ (by exact (hr.alloc _).alloc _) (by omega)).mono ?_; rintro e w1 ⟨A1, c1, rfl, ho1, hb1⟩; obtain ⟨k1, k2, hz1⟩ := box2 (w := w) hb1 rfl (by simp); obtain ⟨p0, p1, p2, p3, p4, p5, p6, p7⟩ := Blk.four k1; replace ho1 := own_mono (base' := w.heap.size + 2) ho1 (by simp); have hB1 : Below w.heap.size w w1 := Below.trans (by repeat (first | (with_reducible exact Below.refl _ _) | (with_reducible apply Below.drew) | (with_reducible apply below_drewN) | ((with_reducible refine Below.setCell ?_ ?_ _); rotate_left; (focus (first | (simp; done) | (simp; omega) | omega))) | ((with_reducible refine Below.alloc ?_ ?_ _); rotate_left; (focus (first | (simp; done) | (simp; omega) | omega))))) (hb1.mono (by simp; omega)))
    | (go_at_call 51; refine (clone_tm _ _ ts _ (by exact (((ht.alloc _).alloc _).drew).below hb1) (by omega) (by omega)).mono ?_; rintro e w2 ⟨A2, c2, rfl, ho2, hb2⟩; obtain ⟨q0, q1, q2, q3, q4, q5, q6, q7⟩ := Blk.four ((hb2.block w.heap.size (by omega)).trans k1); obtain ⟨r0, r1, r2, r3, r4, r5, r6, r7⟩ := Blk.four ((hb2.block (w.heap.size + 1) (by omega)).trans k2); clear k1 k2; replace ho2 := own_mono (base' := w.heap.size + 2) ho2 (by omega); replace ho1 := own_below ho1 hb2; have hB2 : Below w.heap.size w w2 := hB1.trans (hb2.mono (by omega)); clear hb1 hb2))
  all_goals
    go_wp2
    refine bodyPost_ret (v := .agg #[.int .i64 now, .int .i64 ser, .slice A1 rs.length c1, .slice A2 ts.length c2]) (by simp [results, Try.results34, go_sem, r0, r1, r2, r3]) rfl ⟨A1, c1, A2, c2, rfl, ?_, ?_, ?_⟩
    · refine own_mono (base := w.heap.size + 2) ?_ (by omega)
      repeat (refine ownsRow_setCell_below ?_ (by simp) _)
      exact ho1
    · refine own_mono (base := w.heap.size + 2) ?_ (by omega)
      repeat (refine ownsRow_setCell_below ?_ (by simp) _)
      exact ho2
    · exact (by repeat (first | (with_reducible exact hB2) | (with_reducible exact Below.refl _ _) | (with_reducible apply Below.drew) | (with_reducible apply below_drewN) | ((with_reducible refine Below.setCell ?_ ?_ _); rotate_left; (focus (first | (simp; done) | (simp; omega) | omega))) | ((with_reducible refine Below.alloc ?_ ?_ _); rotate_left; (focus (first | (simp; done) | (simp; omega) | omega)))))
end Go.Proofs.Ytgiebofmfkacgaa
