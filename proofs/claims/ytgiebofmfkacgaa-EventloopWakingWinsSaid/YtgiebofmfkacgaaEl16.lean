/-
  Contracts: the reference's Enqueued, its form; Following.
-/
import Derived.Test.YtgiebofmfkacgaaEl15
namespace Go.Proofs.Ytgiebofmfkacgaa
open Go.RowKit

set_option maxHeartbeats 2000000 in
theorem enqueued_form (now ser : Int) (RA : Option Addr) (rc : Nat) (rs : List Int) (TA : Option Addr) (tn tc : Nat) (n : Int) (w : World) (hr : Rd w RA (ints rs)) (hl : rs.length ≤ 1000000) :
    Calls Try.prog 21 #[.agg #[.int .i64 now, .int .i64 ser, .slice RA rs.length rc, .slice TA tn tc], .int .i64 n] w fun e w' =>
      ∃ A c, e = .returned (.agg #[.int .i64 now, .int .i64 ser, .slice A (rs.length + 1) c, .slice TA tn tc]) ∧ w'.ownsRow (w.heap.size + 2) 3 1 (.slice A (rs.length + 1) c) (rs.length + 1) (ints (rs ++ [n])) ∧ Below w.heap.size w w' := by
  have ho : (((w.alloc (.cells #[.int .i64 now, .int .i64 ser, .slice RA rs.length rc, .slice TA tn tc] 25)).alloc (.cells #[.int .i64 0, .int .i64 0, .slice none 0 0, .slice none 0 0] 25)).alloc (.cells #[] 3)).ownsRow (w.heap.size + 2) 3 1 (.slice (some ⟨w.heap.size + 1 + 1, 0, none⟩) 0 0) 0 [] := own_new' ((w.alloc (.cells #[.int .i64 now, .int .i64 ser, .slice RA rs.length rc, .slice TA tn tc] 25)).alloc (.cells #[.int .i64 0, .int .i64 0, .slice none 0 0, .slice none 0 0] 25)) 3 1 #[] 0 (w.heap.size + 2) _ (by simp) (by omega) (Nat.zero_le _) rfl
  have hr1 := ((hr.alloc (.cells #[.int .i64 now, .int .i64 ser, .slice RA rs.length rc, .slice TA tn tc] 25)).alloc (.cells #[.int .i64 0, .int .i64 0, .slice none 0 0, .slice none 0 0] 25)).alloc (.cells #[] 3)
  have hbb : Below (w.heap.size + 2) ((w.alloc (.cells #[.int .i64 now, .int .i64 ser, .slice RA rs.length rc, .slice TA tn tc] 25)).alloc (.cells #[.int .i64 0, .int .i64 0, .slice none 0 0, .slice none 0 0] 25)) (((w.alloc (.cells #[.int .i64 now, .int .i64 ser, .slice RA rs.length rc, .slice TA tn tc] 25)).alloc (.cells #[.int .i64 0, .int .i64 0, .slice none 0 0, .slice none 0 0] 25)).alloc (.cells #[] 3)) := (by repeat (first | (with_reducible exact Below.refl _ _) | (with_reducible apply Below.drew) | (with_reducible apply below_drewN) | ((with_reducible refine Below.setCell ?_ ?_ _); rotate_left; (focus (first | (simp; done) | (simp; omega) | omega))) | ((with_reducible refine Below.alloc ?_ ?_ _); rotate_left; (focus (first | (simp; done) | (simp; omega) | omega)))))
  have HO := Lib.hid ho; have HR := Lib.hid hr1; have HB := Lib.hid hbb
  clear ho hr1 hbb
  go_enter Try.func21, Try.ntmps21
  go_wp2_with (first | (at_builtin; refine wpList_app (base := w.heap.size + 2) (xs := []) (news := ints rs) rfl st_int (.tmp 5) (.tmp 7) rfl rfl HO.out rfl HR.out (by simp [ints]) (ints_one rs) (by unfold maxLen; omega) (by omega) (by first | (simp; done) | (simp; omega) | omega | (simp [World.setCell]; done) | (simp [World.setCell]; omega)) ?_; intro A1 c1 w1 hown hg hat; have hb1 := Below.app HB.out HO.out hg (by omega) (by first | (simp; done) | (simp; omega) | omega | (simp [World.setCell]; done) | (simp [World.setCell]; omega)); obtain ⟨k1, k2, hz1⟩ := box2 (w := w) hb1 rfl (by omega); simp only [Nat.zero_add, List.nil_append] at hown; have O1 := Lib.hid hown; have K1 := Lib.hid k1; have K2 := Lib.hid k2; have hy1 : w.heap.size < w1.heap.size := (by omega); clear k1 k2 hown hg hat HO) | (at_builtin; refine wpList_app (base := w.heap.size + 2) (xs := ints rs) (news := [.int .i64 n]) rfl st_int (.tmp 8) (.tmp 10) rfl rfl (O1.out.alloc _) rfl (Rd.new _ _ _) rfl (by simp [Value.oneCell']) (by unfold maxLen; omega) (by omega) (by first | (simp; done) | (simp; omega) | omega | (simp [World.setCell]; done) | (simp [World.setCell]; omega)) ?_; intro A2 c2 w2 hown2 hg2 hat2; have hb2 := Below.app (hb1.alloc (by omega) _) (O1.out.alloc _) hg2 (Nat.le_refl _) (by first | (simp; done) | (simp; omega) | omega | (simp [World.setCell]; done) | (simp [World.setCell]; omega)); obtain ⟨k1, k2, hz2⟩ := box2 (w := w) hb2 rfl (by omega); obtain ⟨p0, p1, p2, p3, p4, p5, p6, p7⟩ := Blk.four k1; obtain ⟨q0, q1, q2, q3, q4, q5, q6, q7⟩ := Blk.four k2; clear k1 k2 hg2 hat2))
  refine bodyPost_ret (v := .agg #[.int .i64 now, .int .i64 ser, .slice A2 (rs.length + 1) c2, .slice TA tn tc]) (by simp [results, Try.results21, go_sem, q0, q1, q2, q3]) rfl ?_
  rw [show ints rs ++ [Value.int .i64 n] = ints (rs ++ [n]) by simp [ints]] at hown2
  have hB2 : Below w.heap.size w w2 := Below.trans (by repeat (first | (with_reducible exact Below.refl _ _) | (with_reducible apply Below.drew) | (with_reducible apply below_drewN) | ((with_reducible refine Below.setCell ?_ ?_ _); rotate_left; (focus (first | (simp; done) | (simp; omega) | omega))) | ((with_reducible refine Below.alloc ?_ ?_ _); rotate_left; (focus (first | (simp; done) | (simp; omega) | omega))))) (hb2.mono (by omega))
  refine ⟨A2, c2, rfl, ?_, (by repeat (first | (with_reducible exact hB2) | (with_reducible exact Below.refl _ _) | (with_reducible apply Below.drew) | (with_reducible apply below_drewN) | ((with_reducible refine Below.setCell ?_ ?_ _); rotate_left; (focus (first | (simp; done) | (simp; omega) | omega))) | ((with_reducible refine Below.alloc ?_ ?_ _); rotate_left; (focus (first | (simp; done) | (simp; omega) | omega)))))⟩
  repeat (refine ownsRow_setCell_below ?_ (by simp; try omega) _)
  exact hown2

/-- The queue and the rest, as Following gathers them. -/
def folF (a : Int) : List Int → List Tm → List Tm → List Int × List Tm
  | rs, acc, [] => (rs, acc)
  | rs, acc, t :: l => if t.at_ == a then folF a (rs ++ [t.task]) acc l else folF a rs (acc ++ [t]) l
def folC (c : Ck) : Ck := match c.rs, c.ts with
  | [], t :: l => ⟨t.at_, c.ser, (folF t.at_ [] [] (t :: l)).1, (folF t.at_ [] [] (t :: l)).2⟩
  | _, _ => c
def popF (c : Ck) : Ck × (Int × Bool) := match c.rs with
  | [] => (⟨0, 0, [], []⟩, (0, false))
  | n :: l => (⟨c.now, c.ser, l, c.ts⟩, (n, true))
def RetF (m : Ck × (Int × Bool)) (w : World) (e : Ending) (w' : World) : Prop := ∃ v, e = .returned (.tuple #[v, .int .i64 m.2.1, .bool m.2.2]) ∧ CkAt w' m.1 v ∧ Below w.heap.size w w'

theorem folF_hit (ts : List Tm) (a : Int) (rs : List Int) (acc : List Tm) (k : Nat) (hk : k < ts.length) (h : (ts[k].at_ == a) = true) : folF a rs acc (ts.drop k) = folF a (rs ++ [ts[k].task]) acc (ts.drop (k + 1)) := by
  rw [List.drop_eq_getElem_cons hk]; simp only [folF, h, if_true]
theorem folF_miss (ts : List Tm) (a : Int) (rs : List Int) (acc : List Tm) (k : Nat) (hk : k < ts.length) (h : (ts[k].at_ == a) = false) : folF a rs acc (ts.drop k) = folF a rs (acc ++ [ts[k]]) (ts.drop (k + 1)) := by
  rw [List.drop_eq_getElem_cons hk]; simp only [folF, h, Bool.false_eq_true, if_false]

/-- A queue that is empty or of the call's own. -/
def OwnQ (w : World) (base : Nat) (A : Option Addr) (c : Nat) (q : List Int) : Prop := (q = [] ∨ w.ownsRow base 3 1 (.slice A q.length c) q.length (ints q)) ∧ q.length ≤ c
section
variable {w w' : World} {base c : Nat} {A : Option Addr} {q : List Int}
theorem OwnQ.rd (h : OwnQ w base A c q) : Rd w A (ints q) := by
  rcases h.1 with rfl | h
  · exact Rd.nil
  · exact Rd.of_own h
theorem OwnQ.below (h : OwnQ w base A c q) (hb : Below w.heap.size w w') : OwnQ w' base A c q := ⟨h.1.imp id fun h => own_below h hb, h.2⟩
theorem OwnQ.box1 {g i : Nat} (h : OwnQ w base A c q) (hg : g < base) (x : Value) : OwnQ (w.setCell ⟨g, i, none⟩ x) base A c q := ⟨h.1.imp id fun h => own_box1 h hg x, h.2⟩
theorem OwnQ.box4 {g : Nat} (h : OwnQ w base A c q) (hg : g < base) (x0 x1 x2 x3 : Value) : OwnQ ((((w.setCell ⟨g, 0, none⟩ x0).setCell ⟨g, 1, none⟩ x1).setCell ⟨g, 2, none⟩ x2).setCell ⟨g, 3, none⟩ x3) base A c q := ⟨h.1.imp id fun h => own_box4 h hg x0 x1 x2 x3, h.2⟩
end
end Go.Proofs.Ytgiebofmfkacgaa
