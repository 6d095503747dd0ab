/-
  Contract: the law's clocked.
-/
import Derived.Test.YtgiebofmfkacgaaEl14
namespace Go.Proofs.Ytgiebofmfkacgaa
open Go.RowKit

theorem ck_s1 : sleepM ⟨0, 0, [], []⟩ 7 5 = (⟨0, 1, [], [⟨5, 0, 7⟩]⟩, (0, 0)) := by decide +kernel
theorem ck_s2 : sleepM ⟨0, 1, [], [⟨5, 0, 7⟩]⟩ 8 5 = (⟨0, 2, [], [⟨5, 0, 7⟩, ⟨5, 1, 8⟩]⟩, (0, 0)) := by decide +kernel
theorem ck_n1 : nextM ⟨0, 2, [], [⟨5, 0, 7⟩, ⟨5, 1, 8⟩]⟩ = (⟨5, 2, [8], []⟩, (7, (0, 0))) := by decide +kernel
theorem ck_n2 : nextM ⟨5, 2, [8], []⟩ = (⟨5, 2, [], []⟩, (8, (0, 0))) := by decide +kernel

set_option maxRecDepth 100000 in
set_option maxHeartbeats 2000000 in
theorem clocked_any (w : World) : Calls Try.prog 19 #[] w fun e w' => e = .returned (.bool true) ∧ Below w.heap.size w w' := by
  go_enter Try.func19, Try.ntmps19
  go_wp2_with fail
  refine (sleep_any ⟨0, 0, [], []⟩ _ 7 5 _ (zero_ckat _ (fun _ => True)).at_).mono ?_
  rintro e w1 ⟨v1, rfl, hv1, hb1⟩
  rw [ck_s1] at hv1 ⊢
  have HV1 := Lib.hid hv1
  obtain ⟨A1, c1, A2, c2, rfl, _⟩ := hv1
  dsimp only [List.length_nil, List.length_cons]
  go_upto_region 2 with (fail)
  go_wp2_with fail
  refine (sleep_any ⟨0, 1, [], [⟨5, 0, 7⟩]⟩ _ 8 5 _ (HV1.out.at_.below (by repeat (first | (with_reducible exact Below.refl _ _) | (with_reducible apply Below.drew) | (with_reducible apply below_drewN) | ((with_reducible refine Below.setCell ?_ ?_ _); rotate_left; (focus (first | (simp; done) | (simp; omega) | omega))) | ((with_reducible refine Below.alloc ?_ ?_ _); rotate_left; (focus (first | (simp; done) | (simp; omega) | omega))))))).mono ?_
  rintro e w2 ⟨v2, rfl, hv2, hb2⟩
  rw [ck_s2] at hv2 ⊢
  obtain ⟨k1, k2, hz2⟩ := box2 (w := w1) hb2 rfl (by simp)
  have hw1 : w.heap.size ≤ w1.heap.size := hb1.size
  have hB2 : Below w.heap.size w w2 := Below.trans (by repeat (first | (with_reducible exact hb1) | (with_reducible exact Below.refl _ _) | (with_reducible apply Below.drew) | (with_reducible apply below_drewN) | ((with_reducible refine Below.setCell ?_ ?_ _); rotate_left; (focus (first | (simp; done) | (simp; omega) | omega))) | ((with_reducible refine Below.alloc ?_ ?_ _); rotate_left; (focus (first | (simp; done) | (simp; omega) | omega))))) (hb2.mono (by first | (simp; done) | (simp; omega) | omega | (simp [World.setCell]; done) | (simp [World.setCell]; omega)))
  replace hv2 := hv2.weaken (ok' := (w1.heap.size + 2 ≤ ·)) (fun b hb => by simpa using hb)
  have HV2 := Lib.hid hv2
  obtain ⟨A3, c3, A4, c4, rfl, _⟩ := hv2
  dsimp only [List.length_nil, List.length_cons]
  obtain ⟨p0, p1, p2, p3, p4, p5, p6, p7⟩ := Blk.four k1
  have hy2 : w1.heap.size < w2.heap.size := by omega
  have K1 : Blk w2 w1.heap.size 25 _ := k1
  have K2 : Blk w2 (w1.heap.size + 1) 27 _ := k2
  have L := Lib.hid (And.intro K1 K2)
  clear k1 k2 K1 K2 hb2 HV1 hb1
  go_upto_region 3 with (fail)
  have m1 := (L.out.1.set4 (.int .i64 0) (.int .i64 2) (.slice A3 0 c3) (.slice A4 2 c4)).alloc (.cells #[.int .i64 0, .int .i64 0] 27)
  have m2 := (L.out.2.far4 (g' := w1.heap.size) (by omega) (.int .i64 0) (.int .i64 2) (.slice A3 0 c3) (.slice A4 2 c4)).alloc (.cells #[.int .i64 0, .int .i64 0] 27)
  have m3 : Blk (((((w2.setCell ⟨w1.heap.size, 0, none⟩ (.int .i64 0)).setCell ⟨w1.heap.size, 1, none⟩ (.int .i64 2)).setCell ⟨w1.heap.size, 2, none⟩ (.slice A3 0 c3)).setCell ⟨w1.heap.size, 3, none⟩ (.slice A4 2 c4)).alloc (.cells #[.int .i64 0, .int .i64 0] 27)) w2.heap.size 27 #[.int .i64 0, .int .i64 0] := by
    have := Blk.new ((((w2.setCell ⟨w1.heap.size, 0, none⟩ (.int .i64 0)).setCell ⟨w1.heap.size, 1, none⟩ (.int .i64 2)).setCell ⟨w1.heap.size, 2, none⟩ (.slice A3 0 c3)).setCell ⟨w1.heap.size, 3, none⟩ (.slice A4 2 c4)) 27 #[.int .i64 0, .int .i64 0]
    rwa [show ((((w2.setCell ⟨w1.heap.size, 0, none⟩ (.int .i64 0)).setCell ⟨w1.heap.size, 1, none⟩ (.int .i64 2)).setCell ⟨w1.heap.size, 2, none⟩ (.slice A3 0 c3)).setCell ⟨w1.heap.size, 3, none⟩ (.slice A4 2 c4)).heap.size = w2.heap.size by simp [World.setCell]] at this
  have hB3 : Below w.heap.size w (((((w2.setCell ⟨w1.heap.size, 0, none⟩ (.int .i64 0)).setCell ⟨w1.heap.size, 1, none⟩ (.int .i64 2)).setCell ⟨w1.heap.size, 2, none⟩ (.slice A3 0 c3)).setCell ⟨w1.heap.size, 3, none⟩ (.slice A4 2 c4)).alloc (.cells #[.int .i64 0, .int .i64 0] 27)) := (below_box4 (g := w1.heap.size) hB2 hw1 (.int .i64 0) (.int .i64 2) (.slice A3 0 c3) (.slice A4 2 c4)).alloc (by simp [World.setCell]; omega) _
  have hv3 : CkIn (((((w2.setCell ⟨w1.heap.size, 0, none⟩ (.int .i64 0)).setCell ⟨w1.heap.size, 1, none⟩ (.int .i64 2)).setCell ⟨w1.heap.size, 2, none⟩ (.slice A3 0 c3)).setCell ⟨w1.heap.size, 3, none⟩ (.slice A4 2 c4)).alloc (.cells #[.int .i64 0, .int .i64 0] 27)) (w1.heap.size + 2 ≤ ·) _ _ := ((((HV2.out.setCell (p := ⟨w1.heap.size, 0, none⟩) (by simp) (.int .i64 0)).setCell (p := ⟨w1.heap.size, 1, none⟩) (by simp) (.int .i64 2)).setCell (p := ⟨w1.heap.size, 2, none⟩) (by simp) (.slice A3 0 c3)).setCell (p := ⟨w1.heap.size, 3, none⟩) (by simp) (.slice A4 2 c4)).below ((Below.refl _ _).alloc (Nat.le_refl _) _)
  have hs3 : (((((w2.setCell ⟨w1.heap.size, 0, none⟩ (.int .i64 0)).setCell ⟨w1.heap.size, 1, none⟩ (.int .i64 2)).setCell ⟨w1.heap.size, 2, none⟩ (.slice A3 0 c3)).setCell ⟨w1.heap.size, 3, none⟩ (.slice A4 2 c4)).alloc (.cells #[.int .i64 0, .int .i64 0] 27)).heap.size = w2.heap.size + 1 := by simp [World.setCell]
  generalize (((((w2.setCell ⟨w1.heap.size, 0, none⟩ (.int .i64 0)).setCell ⟨w1.heap.size, 1, none⟩ (.int .i64 2)).setCell ⟨w1.heap.size, 2, none⟩ (.slice A3 0 c3)).setCell ⟨w1.heap.size, 3, none⟩ (.slice A4 2 c4)).alloc (.cells #[.int .i64 0, .int .i64 0] 27)) = wa at *
  have HV3 := Lib.hid hv3
  have M := Lib.hid (And.intro m1 (And.intro m2 m3))
  clear p0 p1 p2 p3 p4 p5 p6 p7 hv3 L HV2 hB2
  obtain ⟨p0, p1, p2, p3, p4, p5, p6, p7⟩ := m1.four
  clear m1 m2 m3
  go_wp2_with fail
  refine (next_any ⟨0, 2, [], [⟨5, 0, 7⟩, ⟨5, 1, 8⟩]⟩ _ _ HV3.out.at_).mono ?_
  rintro e w3 ⟨v3, rfl, hv3, hb3⟩
  rw [ck_n1] at hv3 ⊢
  have k1 := M.out.1.below' hb3
  have k2 := M.out.2.1.below' hb3
  have k3 := M.out.2.2.below' hb3
  have hB4 : Below w.heap.size w w3 := hB3.trans (hb3.mono (by omega))
  have hw3 : wa.heap.size ≤ w3.heap.size := hb3.size
  replace hv3 := hv3.weaken (ok' := (w1.heap.size + 2 ≤ ·)) (fun b hb => Nat.le_trans (by omega) hb)
  have HV4 := Lib.hid hv3
  obtain ⟨A5, c5, A6, c6, rfl, _⟩ := hv3
  dsimp only [List.length_nil, List.length_cons]
  clear p0 p1 p2 p3 p4 p5 p6 p7 M HV3 hB3 hb3
  obtain ⟨p0, p1, p2, p3, p4, p5, p6, p7⟩ := k1.four
  have M := Lib.hid (And.intro k1 (And.intro k2 k3))
  have hy3 : w1.heap.size < w3.heap.size := by omega
  clear k1 k2 k3
  go_upto_region 4 with (fail)
  have m1 := (M.out.1.set4 (.int .i64 5) (.int .i64 2) (.slice A5 1 c5) (.slice A6 0 c6)).alloc (.cells #[.int .i64 0, .int .i64 0] 27)
  have m2 := (M.out.2.1.far4 (g' := w1.heap.size) (by omega) (.int .i64 5) (.int .i64 2) (.slice A5 1 c5) (.slice A6 0 c6)).alloc (.cells #[.int .i64 0, .int .i64 0] 27)
  have m3 := (M.out.2.2.far4 (g' := w1.heap.size) (by omega) (.int .i64 5) (.int .i64 2) (.slice A5 1 c5) (.slice A6 0 c6)).alloc (.cells #[.int .i64 0, .int .i64 0] 27)
  have m4 : Blk (((((w3.setCell ⟨w1.heap.size, 0, none⟩ (.int .i64 5)).setCell ⟨w1.heap.size, 1, none⟩ (.int .i64 2)).setCell ⟨w1.heap.size, 2, none⟩ (.slice A5 1 c5)).setCell ⟨w1.heap.size, 3, none⟩ (.slice A6 0 c6)).alloc (.cells #[.int .i64 0, .int .i64 0] 27)) w3.heap.size 27 #[.int .i64 0, .int .i64 0] := by
    have := Blk.new ((((w3.setCell ⟨w1.heap.size, 0, none⟩ (.int .i64 5)).setCell ⟨w1.heap.size, 1, none⟩ (.int .i64 2)).setCell ⟨w1.heap.size, 2, none⟩ (.slice A5 1 c5)).setCell ⟨w1.heap.size, 3, none⟩ (.slice A6 0 c6)) 27 #[.int .i64 0, .int .i64 0]
    rwa [show ((((w3.setCell ⟨w1.heap.size, 0, none⟩ (.int .i64 5)).setCell ⟨w1.heap.size, 1, none⟩ (.int .i64 2)).setCell ⟨w1.heap.size, 2, none⟩ (.slice A5 1 c5)).setCell ⟨w1.heap.size, 3, none⟩ (.slice A6 0 c6)).heap.size = w3.heap.size by simp [World.setCell]] at this
  have hB5 : Below w.heap.size w (((((w3.setCell ⟨w1.heap.size, 0, none⟩ (.int .i64 5)).setCell ⟨w1.heap.size, 1, none⟩ (.int .i64 2)).setCell ⟨w1.heap.size, 2, none⟩ (.slice A5 1 c5)).setCell ⟨w1.heap.size, 3, none⟩ (.slice A6 0 c6)).alloc (.cells #[.int .i64 0, .int .i64 0] 27)) := (below_box4 (g := w1.heap.size) hB4 hw1 (.int .i64 5) (.int .i64 2) (.slice A5 1 c5) (.slice A6 0 c6)).alloc (by simp [World.setCell]; omega) _
  have hv5 : CkIn (((((w3.setCell ⟨w1.heap.size, 0, none⟩ (.int .i64 5)).setCell ⟨w1.heap.size, 1, none⟩ (.int .i64 2)).setCell ⟨w1.heap.size, 2, none⟩ (.slice A5 1 c5)).setCell ⟨w1.heap.size, 3, none⟩ (.slice A6 0 c6)).alloc (.cells #[.int .i64 0, .int .i64 0] 27)) (w1.heap.size + 2 ≤ ·) _ _ := ((((HV4.out.setCell (p := ⟨w1.heap.size, 0, none⟩) (by simp) (.int .i64 5)).setCell (p := ⟨w1.heap.size, 1, none⟩) (by simp) (.int .i64 2)).setCell (p := ⟨w1.heap.size, 2, none⟩) (by simp) (.slice A5 1 c5)).setCell (p := ⟨w1.heap.size, 3, none⟩) (by simp) (.slice A6 0 c6)).below ((Below.refl _ _).alloc (Nat.le_refl _) _)
  have hs5 : (((((w3.setCell ⟨w1.heap.size, 0, none⟩ (.int .i64 5)).setCell ⟨w1.heap.size, 1, none⟩ (.int .i64 2)).setCell ⟨w1.heap.size, 2, none⟩ (.slice A5 1 c5)).setCell ⟨w1.heap.size, 3, none⟩ (.slice A6 0 c6)).alloc (.cells #[.int .i64 0, .int .i64 0] 27)).heap.size = w3.heap.size + 1 := by simp [World.setCell]
  generalize (((((w3.setCell ⟨w1.heap.size, 0, none⟩ (.int .i64 5)).setCell ⟨w1.heap.size, 1, none⟩ (.int .i64 2)).setCell ⟨w1.heap.size, 2, none⟩ (.slice A5 1 c5)).setCell ⟨w1.heap.size, 3, none⟩ (.slice A6 0 c6)).alloc (.cells #[.int .i64 0, .int .i64 0] 27)) = wb at *
  have HV5 := Lib.hid hv5
  clear p0 p1 p2 p3 p4 p5 p6 p7 hv5 M HV4 hB4
  obtain ⟨p0, p1, p2, p3, p4, p5, p6, p7⟩ := m1.four
  have M := Lib.hid (And.intro m1 (And.intro m2 (And.intro m3 m4)))
  clear m1 m2 m3 m4
  go_wp2_with fail
  refine (next_any ⟨5, 2, [8], []⟩ _ _ HV5.out.at_).mono ?_
  rintro e w4 ⟨v4, rfl, hv4, hb4⟩
  rw [ck_n2] at hv4 ⊢
  obtain ⟨x0, x1, x2, x3, _, _, _, _⟩ := (M.out.1.below' hb4).four
  obtain ⟨y0, y1, _, _⟩ := (M.out.2.1.below' hb4).two
  obtain ⟨z0, z1, _, _⟩ := (M.out.2.2.1.below' hb4).two
  obtain ⟨a0, a1, _, _⟩ := (M.out.2.2.2.below' hb4).two
  have hB6 : Below w.heap.size w w4 := hB5.trans (hb4.mono (by omega))
  have l1 : w1.heap.size < w4.heap.size := by have := hb4.size; omega
  have l2 : w1.heap.size + 1 < w4.heap.size := by have := hb4.size; omega
  have l3 : w2.heap.size < w4.heap.size := by have := hb4.size; omega
  have l4 : w3.heap.size < w4.heap.size := by have := hb4.size; omega
  obtain ⟨A7, c7, A8, c8, rfl, _⟩ := hv4
  clear p0 p1 p2 p3 p4 p5 p6 p7 M hB5 hb4 HV5
  dsimp only [List.length_nil, List.length_cons]
  go_wp2
  go_ret
  exact ⟨rfl, (by repeat (first | (with_reducible exact hB6) | (with_reducible exact Below.refl _ _) | (with_reducible apply Below.drew) | (with_reducible apply below_drewN) | ((with_reducible refine Below.setCell ?_ ?_ _); rotate_left; (focus (first | (simp; done) | (simp; omega) | omega))) | ((with_reducible refine Below.alloc ?_ ?_ _); rotate_left; (focus (first | (simp; done) | (simp; omega) | omega)))))⟩
end Go.Proofs.Ytgiebofmfkacgaa
