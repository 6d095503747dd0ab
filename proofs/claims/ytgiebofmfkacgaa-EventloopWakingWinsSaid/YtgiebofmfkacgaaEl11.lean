/-
  Contracts: the reference's Enqueued; slices.BinarySearchFunc at timers.
-/
import Derived.Test.YtgiebofmfkacgaaEl10
namespace Go.Proofs.Ytgiebofmfkacgaa
open Go.RowKit

def enq (c : Ck) (n : Int) : Ck := ⟨c.now, c.ser, c.rs ++ [n], c.ts⟩
/-- A clock handed back. -/
def RetC (m : Ck) (w : World) (e : Ending) (w' : World) : Prop := ∃ v, e = .returned v ∧ CkAt w' m v ∧ Below w.heap.size w w'

set_option maxHeartbeats 2000000 in
theorem enqueued_any (c : Ck) (v : Value) (n : Int) (w : World) (hv : CkAt w c v) (hl : c.rs.length ≤ 1000000) :
    Calls Try.prog 21 #[v, .int .i64 n] w (RetC (enq c n) w) := by
  obtain ⟨now, ser, rs, ts⟩ := c
  obtain ⟨RA, rc, TA, tc, rfl, hr, ht, hrc, htc, hrl, htl⟩ := hv
  dsimp only at hr ht hrc htc hrl htl hl ⊢
  have ho : (((w.alloc (.cells #[.int .i64 now, .int .i64 ser, .slice RA rs.length rc, .slice TA ts.length tc] 25)).alloc (.cells #[.int .i64 0, .int .i64 0, .slice none 0 0, .slice none 0 0] 25)).alloc (.cells #[] 3)).ownsRow (w.heap.size + 2) 3 1 (.slice (some ⟨w.heap.size + 1 + 1, 0, none⟩) 0 0) 0 [] := own_new' ((w.alloc (.cells #[.int .i64 now, .int .i64 ser, .slice RA rs.length rc, .slice TA ts.length tc] 25)).alloc (.cells #[.int .i64 0, .int .i64 0, .slice none 0 0, .slice none 0 0] 25)) 3 1 #[] 0 (w.heap.size + 2) _ (by simp) (by omega) (Nat.zero_le _) rfl
  have hr1 := ((hr.alloc (.cells #[.int .i64 now, .int .i64 ser, .slice RA rs.length rc, .slice TA ts.length tc] 25)).alloc (.cells #[.int .i64 0, .int .i64 0, .slice none 0 0, .slice none 0 0] 25)).alloc (.cells #[] 3)
  have hbb : Below (w.heap.size + 2) ((w.alloc (.cells #[.int .i64 now, .int .i64 ser, .slice RA rs.length rc, .slice TA ts.length tc] 25)).alloc (.cells #[.int .i64 0, .int .i64 0, .slice none 0 0, .slice none 0 0] 25)) (((w.alloc (.cells #[.int .i64 now, .int .i64 ser, .slice RA rs.length rc, .slice TA ts.length tc] 25)).alloc (.cells #[.int .i64 0, .int .i64 0, .slice none 0 0, .slice none 0 0] 25)).alloc (.cells #[] 3)) := (by repeat (first | (with_reducible exact Below.refl _ _) | (with_reducible apply Below.drew) | (with_reducible apply below_drewN) | ((with_reducible refine Below.setCell ?_ ?_ _); rotate_left; (focus (first | (simp; done) | (simp; omega) | omega))) | ((with_reducible refine Below.alloc ?_ ?_ _); rotate_left; (focus (first | (simp; done) | (simp; omega) | omega)))))
  have HO := Lib.hid ho; have HR := Lib.hid hr1; have HB := Lib.hid hbb
  clear ho hr1 hbb
  go_enter Try.func21, Try.ntmps21
  go_wp2_with (first | (at_builtin; refine wpList_app (base := w.heap.size + 2) (xs := []) (news := ints rs) rfl st_int (.tmp 5) (.tmp 7) rfl rfl HO.out rfl HR.out (by simp [ints]) (ints_one rs) (by unfold maxLen; omega) (by omega) (by first | (simp; done) | (simp; omega) | omega | (simp [World.setCell]; done) | (simp [World.setCell]; omega)) ?_; intro A1 c1 w1 hown hg hat; have hb1 := Below.app HB.out HO.out hg (by omega) (by first | (simp; done) | (simp; omega) | omega | (simp [World.setCell]; done) | (simp [World.setCell]; omega)); obtain ⟨k1, k2, hz1⟩ := box2 (w := w) hb1 rfl (by omega); simp only [Nat.zero_add, List.nil_append] at hown; have O1 := Lib.hid hown; have K1 := Lib.hid k1; have K2 := Lib.hid k2; have hy1 : w.heap.size < w1.heap.size := (by omega); clear k1 k2 hown hg hat HO) | (at_builtin; refine wpList_app (base := w.heap.size + 2) (xs := ints rs) (news := [.int .i64 n]) rfl st_int (.tmp 8) (.tmp 10) rfl rfl (O1.out.alloc _) rfl (Rd.new _ _ _) rfl (by simp [Value.oneCell']) (by unfold maxLen; omega) (by omega) (by first | (simp; done) | (simp; omega) | omega | (simp [World.setCell]; done) | (simp [World.setCell]; omega)) ?_; intro A2 c2 w2 hown2 hg2 hat2; have hb2 := Below.app (hb1.alloc (by omega) _) (O1.out.alloc _) hg2 (Nat.le_refl _) (by first | (simp; done) | (simp; omega) | omega | (simp [World.setCell]; done) | (simp [World.setCell]; omega)); obtain ⟨k1, k2, hz2⟩ := box2 (w := w) hb2 rfl (by omega); obtain ⟨p0, p1, p2, p3, p4, p5, p6, p7⟩ := Blk.four k1; obtain ⟨q0, q1, q2, q3, q4, q5, q6, q7⟩ := Blk.four k2; clear k1 k2 hg2 hat2))
  refine bodyPost_ret (v := .agg #[.int .i64 now, .int .i64 ser, .slice A2 (rs.length + 1) c2, .slice TA ts.length tc]) (by simp [results, Try.results21, go_sem, q0, q1, q2, q3]) rfl ?_
  have hl1 : (rs ++ [n]).length = rs.length + 1 := by simp
  rw [show ints rs ++ [Value.int .i64 n] = ints (rs ++ [n]) by simp [ints], ← hl1] at hown2
  have hB2 : Below w.heap.size w w2 := Below.trans (by repeat (first | (with_reducible exact Below.refl _ _) | (with_reducible apply Below.drew) | (with_reducible apply below_drewN) | ((with_reducible refine Below.setCell ?_ ?_ _); rotate_left; (focus (first | (simp; done) | (simp; omega) | omega))) | ((with_reducible refine Below.alloc ?_ ?_ _); rotate_left; (focus (first | (simp; done) | (simp; omega) | omega))))) (hb2.mono (by omega))
  obtain ⟨A', c', ev, hc1, _⟩ := own_form hown2
  injection ev with e1 e2 e3
  subst e1 e3
  refine ⟨_, rfl, ⟨A2, c2, TA, tc, by rw [← hl1]; rfl, Rd.of_own (base := w.heap.size + 2) (size := 1) (e := 3) (n := (rs ++ [n]).length) (c := c2) ?_, ht.below (by repeat (first | (with_reducible exact hB2) | (with_reducible exact Below.refl _ _) | (with_reducible apply Below.drew) | (with_reducible apply below_drewN) | ((with_reducible refine Below.setCell ?_ ?_ _); rotate_left; (focus (first | (simp; done) | (simp; omega) | omega))) | ((with_reducible refine Below.alloc ?_ ?_ _); rotate_left; (focus (first | (simp; done) | (simp; omega) | omega))))), hc1, htc, by simp [enq]; omega, htl⟩, (by repeat (first | (with_reducible exact hB2) | (with_reducible exact Below.refl _ _) | (with_reducible apply Below.drew) | (with_reducible apply below_drewN) | ((with_reducible refine Below.setCell ?_ ?_ _); rotate_left; (focus (first | (simp; done) | (simp; omega) | omega))) | ((with_reducible refine Below.alloc ?_ ?_ _); rotate_left; (focus (first | (simp; done) | (simp; omega) | omega)))))⟩
  repeat (refine ownsRow_setCell_below ?_ (by simp; try omega) _)
  exact hown2
end Go.Proofs.Ytgiebofmfkacgaa
