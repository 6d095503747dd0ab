/-
  Contract: slices.Insert at timers, one value, onto a row of the call's own.
-/
import Derived.Test.YtgiebofmfkacgaaCopy
import Derived.Test.YtgiebofmfkacgaaEl12
namespace Go.Proofs.Ytgiebofmfkacgaa
open Go.RowKit

def insT (ts : List Tm) (i : Nat) (t : Tm) : List Tm := ts.take i ++ t :: ts.drop i
theorem insT_length (ts : List Tm) (i : Nat) (t : Tm) (h : i ≤ ts.length) : (insT ts i t).length = ts.length + 1 := by simp [insT]; omega
theorem insT_cells (ts : List Tm) (i : Nat) (t : Tm) : rows Tm.cells (insT ts i t) = rows Tm.cells (ts.take i) ++ t.cells ++ rows Tm.cells (ts.drop i) := by
  unfold insT; rw [rows_append, rows_cons, List.append_assoc]
theorem insT_end (ts : List Tm) (t : Tm) : insT ts ts.length t = ts ++ [t] := by simp [insT]
/-- A row handed back. -/
def RetRow (base : Nat) (own : Option Nat) (n : Nat) (cells : List Value) (w : World) (e : Ending) (w' : World) : Prop :=
  ∃ A c, e = .returned (.slice A n c) ∧ w'.ownsRow base 46 3 (.slice A n c) n cells ∧ w.grownBy w' own

theorem grown_trans {a b c : World} {row : Option Nat} (h : a.grownBy b row) (k : b.grownBy c row) : a.grownBy c row := World.grownBy.trans h k

set_option maxHeartbeats 1000000 in
theorem insert_end (base : Nat) (A : Option Addr) (c : Nat) (ts : List Tm) (t : Tm) (g : Nat) (w : World) (ho : w.ownsRow base 46 3 (.slice A ts.length c) ts.length (rows Tm.cells ts)) (hb : base ≤ w.heap.size)
    (hv : Blk w g 46 #[.int .i64 t.at_, .int .i64 t.ser, .int .i64 t.task]) (hl : ts.length ≤ 1000000) :
    Calls Try.prog 38 #[.slice A ts.length c, .int .i64 ts.length, .slice (some ⟨g, 0, none⟩) 1 1] w (RetRow base (Value.slice A ts.length c).ownBlock (ts.length + 1) (rows Tm.cells (insT ts ts.length t)) w) := by
  have hc : ts.length ≤ c := by
    obtain ⟨A', c', ev, h1, h2⟩ := own_form ho
    injection ev with e1 e2 e3; omega
  have HR := Lib.hid (show Rd w (some ⟨g, 0, none⟩) t.cells from fun _ => ⟨g, 0, rfl, hv.lt, fun j u hu => by rw [Nat.zero_add, hv.cell]; simpa [Tm.cells] using hu⟩)
  have HO := Lib.hid ho; clear ho
  have i1 : (0 : Int) ≤ (ts.length : Int) := by omega
  go_enter Try.func38, Try.ntmps38
  go_wp2_with (at_builtin; refine wpList_app (base := base) (xs := rows Tm.cells ts) (news := t.cells) rfl st_tm (.tmp 23) (.tmp 24) rfl rfl HO.out rfl HR.out rfl (by simp [Tm.cells, Value.oneCell']) (by unfold maxLen; omega) (by omega) hb ?_; intro A1 c1 w1 hown hg hat)
  all_goals
    go_ret
    exact ⟨A1, c1, rfl, by rw [insT_end, rows_append, rows_one]; exact hown, by rcases A with _ | a <;> exact hg⟩

set_option maxRecDepth 100000 in
set_option maxHeartbeats 1000000 in
theorem insert_room (base c i : Nat) (ts : List Tm) (t : Tm) (g gs : Nat) (L : List Value) (w : World) (hb : base ≤ gs) (hs : w.heap[gs]? = some (.cells L.toArray 46 (0, 0))) (hL : L.length = c * 3) (hLt : L.take (ts.length * 3) = rows Tm.cells ts)
    (hv : Blk w g 46 #[.int .i64 t.at_, .int .i64 t.ser, .int .i64 t.task]) (hne : g ≠ gs) (hl : ts.length ≤ 1000000) (hi : i < ts.length) (hr : ts.length + 1 ≤ c) (hc63 : c ≤ 9223372036854775807) :
    Calls Try.prog 38 #[.slice (some ⟨gs, 0, none⟩) ts.length c, .int .i64 i, .slice (some ⟨g, 0, none⟩) 1 1] w (RetRow base (some gs) (ts.length + 1) (rows Tm.cells (insT ts i t)) w) := by
  have i1 : (0 : Int) ≤ (i : Int) := by omega
  have i2 : (i : Int) ≤ (ts.length : Int) := by omega
  have i3 : ((i : Int) == (ts.length : Int)) = false := by rw [beq_eq_false_iff_ne]; omega
  have i4 : ¬ (c = i) := by omega
  have i5 : ¬ (c = i + 1) := by omega
  have i6 : (ts.length : Int) + 1 ≤ (c : Int) := by omega
  have hov : ∀ oo lb cb, (callFunc 54 #[.slice (some ⟨g, 0, none⟩) 1 1, .slice (some ⟨gs, oo, none⟩) lb cb]).run Try.prog w = .ok (.value (.bool false)) w := fun oo lb cb => by
    rw [run_callFunc_extern Try.func54 (by kernel_rfl) (by kernel_rfl) (by kernel_rfl) (e := Extern.SlicesOverlaps.overlaps #[23, 23] #[4]) (by kernel_rfl),
      Lib.run_overlaps_apart w 23 4 46 Try.underlying23 3 (fun w => by kernel_rfl) ⟨g, 0, none⟩ ⟨gs, oo, none⟩ 1 1 lb cb hne 46 46 3 (c * 3) (by unfold Blk at hv; simp [World.shape?, hv]) (by simp [World.shape?, hs, hL]) (by omega) (hv.frozen 0) (hv.frozen 3)]
    rfl
  go_enter Try.func38, Try.ntmps38
  go_wp2_with fail
  have hYl : (rows Tm.cells (ts.drop i)).length = (ts.length - i) * 3 := by rw [rows_length Tm.cells_length, List.length_drop]
  have hYd : rows Tm.cells (ts.drop i) = (L.take (ts.length * 3)).drop (i * 3) := by rw [hLt, ← rows_drop Tm.cells_length]
  have hsrcY : ∀ j v, (rows Tm.cells (ts.drop i))[j]? = some v → w.cell? ⟨gs, i * 3 + j, none⟩ = some v := fun j v hj => by
    rw [hYd, List.getElem?_drop, List.getElem?_take] at hj
    split at hj
    · simp [World.cell?, hs, hj]
    · cases hj
  have HC1 := Lib.hid (fun ty dc sc => run_copyK (w := w.drew) (sT := 23) (dCap := dc) (sCap := sc) st_tm ty (g := gs) (o := (i + 1) * 3) (dLen := ts.length - i) (sb := gs) (so := i * 3) (sLen := ts.length + 1 - i) (cur := L) (t := 46) (cs := rows Tm.cells (ts.drop i)) (n := ts.length - i) hs (by simp only [Nat.min_def]; split <;> omega) hYl hsrcY (by omega) (tms_one _))
  have hrow1 := setRow_at (w := w.drew) hs (splice L ((i + 1) * 3) (rows Tm.cells (ts.drop i)))
  have hgr1 := setRow_grown (w := w.drew) gs (splice L ((i + 1) * 3) (rows Tm.cells (ts.drop i))).toArray
  have w1 : IntKind.i64.wrap ((i : Int) + 1) = (i : Int) + 1 := IntWalk.i64_in _ (by omega)
  have w2 : (0 : Int) ≤ (i : Int) + 1 := by omega
  have w3 : ((i : Int) + 1).toNat = i + 1 := by omega
  have w4 : (i : Int) ≤ (ts.length : Int) + 1 := by omega
  generalize (w.drew.setRow gs (splice L ((i + 1) * 3) (rows Tm.cells (ts.drop i))).toArray) = W1 at *
  have hc1 := HC1.out 3 (c - (i + 1)) (c - i)
  go_region
  clear hc1 w1 w2 w3 w4
  have hfit1 : (i + 1) * 3 + (rows Tm.cells (ts.drop i)).length ≤ L.length := by omega
  have hsl := length_splice L ((i + 1) * 3) (rows Tm.cells (ts.drop i)) hfit1
  have hv1 : Blk W1 g 46 #[.int .i64 t.at_, .int .i64 t.ser, .int .i64 t.task] := (hgr1.block g hv.lt (by simp; exact hne)).trans hv
  have hc2 := run_copyK (w := W1) (sT := 23) (dCap := c - i) (sCap := 1) st_tm 3 (g := gs) (o := i * 3) (dLen := ts.length + 1 - i) (sb := g) (so := 0) (sLen := 1) (cur := splice L ((i + 1) * 3) (rows Tm.cells (ts.drop i))) (t := 46) (cs := t.cells) (n := 1) hrow1 (by simp only [Nat.min_def]; split <;> omega) rfl (fun j v hj => by rw [Nat.zero_add, hv1.cell]; simpa [Tm.cells] using hj) (by rw [hsl, Tm.cells_length]; omega) (by simp [Tm.cells, Value.oneCell'])
  have hrow2 := setRow_at (w := W1) hrow1 (splice (splice L ((i + 1) * 3) (rows Tm.cells (ts.drop i))) (i * 3) t.cells)
  have hgr2 := setRow_grown (w := W1) gs (splice (splice L ((i + 1) * 3) (rows Tm.cells (ts.drop i))) (i * 3) t.cells).toArray
  generalize (W1.setRow gs (splice (splice L ((i + 1) * 3) (rows Tm.cells (ts.drop i))) (i * 3) t.cells).toArray) = W2 at *
  have HROW := Lib.hid hrow2
  clear hrow2 hrow1 hov
  go_wp2
  go_ret
  have hX : (rows Tm.cells (ts.take i)).length = i * 3 := by rw [rows_length Tm.cells_length, List.length_take]; congr 1; omega
  have hsp := splice_insert (cur := L) (X := rows Tm.cells (ts.take i)) (Y := rows Tm.cells (ts.drop i)) (V := t.cells) (R := L.drop (ts.length * 3)) (by rw [← rows_append, List.take_append_drop, ← hLt, List.take_append_drop]) (by rw [Tm.cells_length, List.length_drop]; omega)
  rw [hX, Tm.cells_length, hYl, ← insT_cells, show i * 3 + 3 = (i + 1) * 3 by omega, show (i + 1) * 3 + (ts.length - i) * 3 = (ts.length + 1) * 3 by omega] at hsp
  have hsl2 := length_splice (splice L ((i + 1) * 3) (rows Tm.cells (ts.drop i))) (i * 3) t.cells (by rw [hsl, Tm.cells_length]; omega)
  refine ⟨some ⟨gs, 0, none⟩, c, rfl, ⟨?_, .inr ⟨gs, c, _, rfl, hb, HROW.out, hr, by unfold maxLen; omega, ?_, ?_⟩⟩, ?_⟩
  · rw [rows_length Tm.cells_length, insT_length ts i t (by omega)]
  · simp; rw [hsl2, hsl, hL]
  · exact hsp
  · exact ⟨hgr2.os.trans hgr1.os, hgr2.tape.trans hgr1.tape, hgr2.output.trans hgr1.output, Nat.le_trans hgr1.size hgr2.size, fun k hk hkn => (hgr2.block k (Nat.lt_of_lt_of_le hk hgr1.size) hkn).trans (hgr1.block k hk hkn)⟩

set_option maxRecDepth 100000 in
set_option maxHeartbeats 1000000 in
theorem insert_grow (base c i : Nat) (ts : List Tm) (t : Tm) (g gs : Nat) (L : List Value) (w : World) (hb : base ≤ w.heap.size) (hs : w.heap[gs]? = some (.cells L.toArray 46 (0, 0))) (hLt : L.take (ts.length * 3) = rows Tm.cells ts)
    (hv : Blk w g 46 #[.int .i64 t.at_, .int .i64 t.ser, .int .i64 t.task]) (hl : ts.length ≤ 1000000) (hi : i < ts.length) (hn : ts.length ≤ c) (hr : c < ts.length + 1) :
    Calls Try.prog 38 #[.slice (some ⟨gs, 0, none⟩) ts.length c, .int .i64 i, .slice (some ⟨g, 0, none⟩) 1 1] w (RetRow base (some gs) (ts.length + 1) (rows Tm.cells (insT ts i t)) w) := by
  have i1 : (0 : Int) ≤ (i : Int) := by omega
  have i2 : (i : Int) ≤ (ts.length : Int) := by omega
  have i3 : ((i : Int) == (ts.length : Int)) = false := by rw [beq_eq_false_iff_ne]; omega
  have i4 : ¬ (c = i) := by omega
  have i6 : (c : Int) < (ts.length : Int) + 1 := by omega
  have i7 : (i : Int) ≤ (c : Int) := by omega
  have hgl : gs < w.heap.size := Blk.lt (w := w) (g := gs) hs
  have hX : (rows Tm.cells (ts.take i)).length = i * 3 := by rw [rows_length Tm.cells_length, List.length_take]; congr 1; omega
  have hXd : rows Tm.cells (ts.take i) = L.take (i * 3) := by rw [rows_take Tm.cells_length, ← hLt, List.take_take, Nat.min_eq_left (by omega)]
  obtain ⟨i0, hi0, hz0, hz1, hz2⟩ := info_parts (P := Try.prog) (e := 46) (z := .agg #[.int .i64 0, .int .i64 0, .int .i64 0]) (size := 3) (bytes := 24) (by kernel_rfl)
  have hold : (Builtin.firstCells i0.size i (.slice (some ⟨gs, 0, none⟩) i c)).run Try.prog w.drew = .ok (rows Tm.cells (ts.take i)).toArray w.drew := by
    rw [hz1]
    exact run_firstCells_some w.drew 3 i ⟨gs, 0, none⟩ i c (rows Tm.cells (ts.take i)) hX (fun j v hj => by
      rw [hXd, List.getElem?_take] at hj
      have e : (⟨gs, 0, none⟩ : Addr).add j = ⟨gs, j, none⟩ := by unfold Addr.add; split <;> simp_all
      rw [e]
      split at hj
      · show w.cell? _ = _; simp [World.cell?, hs, hj]
      · cases hj)
  have hrz0 := Lib.run_append_grow_zeros w 23 3 23 46 i0 _ .i64 .i64 Try.underlying23 Try.underlying3 hi0 hz0 (some ⟨gs, 0, none⟩) i c (rows Tm.cells (ts.take i)) hold (ts.length + 1 - i) (by omega) (by omega) (by omega) (by omega) (by rw [hz2]; omega) (by rw [hz2, show i + (ts.length + 1 - i) = ts.length + 1 by omega]; exact growslice_fits hr (by omega))
  rw [show i + (ts.length + 1 - i) = ts.length + 1 by omega, show ((ts.length + 1 - i : Nat) : Int) = (ts.length : Int) + 1 - (i : Int) by omega] at hrz0
  have hG1 := grownCap_ge w (ts.length + 1) c 46
  have hG2 := grownCap_le_maxLen w (ts.length + 1) c 46 (by unfold maxLen; omega)
  generalize grownCap w (ts.length + 1) c 46 = G at hrz0 hG1 hG2
  unfold maxLen at hG2
  obtain ⟨Z, hZ, hZl⟩ : ∃ Z : List Value, ((rows Tm.cells (ts.take i)).toArray ++ Builtin.zeroCells (Value.agg #[.int .i64 0, .int .i64 0, .int .i64 0]).cells (ts.length + 1 - i) ++ Builtin.zeroCells (Value.agg #[.int .i64 0, .int .i64 0, .int .i64 0]).cells (G - (ts.length + 1))) = (rows Tm.cells (ts.take i) ++ Z).toArray ∧ Z.length = (ts.length + 1 - i) * 3 + (G - (ts.length + 1)) * 3 :=
    ⟨(Builtin.zeroCells (Value.agg #[.int .i64 0, .int .i64 0, .int .i64 0]).cells (ts.length + 1 - i)).toList ++ (Builtin.zeroCells (Value.agg #[.int .i64 0, .int .i64 0, .int .i64 0]).cells (G - (ts.length + 1))).toList, by
      apply Array.toList_inj.1; simp, by simp [Builtin.zeroCells, Value.cells]⟩
  rw [hZ] at hrz0
  have hrow0 : (w.drew.alloc (.cells (rows Tm.cells (ts.take i) ++ Z).toArray 46)).heap[w.heap.size]? = some (.cells (rows Tm.cells (ts.take i) ++ Z).toArray 46 (0, 0)) := heap_alloc_new w.drew _
  have hb0 : Below w.heap.size w (w.drew.alloc (.cells (rows Tm.cells (ts.take i) ++ Z).toArray 46)) := (Below.refl _ _).drew.alloc (Nat.le_refl _) _
  have hs0 : (w.drew.alloc (.cells (rows Tm.cells (ts.take i) ++ Z).toArray 46)).heap.size = w.heap.size + 1 := by simp
  have HZ := Lib.hid (And.intro hZ hZl)
  clear hZ
  generalize (w.drew.alloc (.cells (rows Tm.cells (ts.take i) ++ Z).toArray 46)) = W1 at *
  have hRl : (rows Tm.cells (ts.take i) ++ Z).length = G * 3 := by rw [List.length_append, hX, hZl]; omega
  have hv1 : Blk W1 g 46 _ := hv.below' hb0
  have hc2 := run_copyK (w := W1) (sT := 23) (dCap := G - i) (sCap := 1) st_tm 3 (g := w.heap.size) (o := i * 3) (dLen := ts.length + 1 - i) (sb := g) (so := 0) (sLen := 1) (cur := rows Tm.cells (ts.take i) ++ Z) (t := 46) (cs := t.cells) (n := 1) hrow0 (by simp only [Nat.min_def]; split <;> omega) rfl (fun j v hj => by rw [Nat.zero_add, hv1.cell]; simpa [Tm.cells] using hj) (by rw [hRl, Tm.cells_length]; omega) (by simp [Tm.cells, Value.oneCell'])
  have hrow1 := setRow_at (w := W1) hrow0 (splice (rows Tm.cells (ts.take i) ++ Z) (i * 3) t.cells)
  have hgr1 := setRow_grown (w := W1) w.heap.size (splice (rows Tm.cells (ts.take i) ++ Z) (i * 3) t.cells).toArray
  have hsl := length_splice (rows Tm.cells (ts.take i) ++ Z) (i * 3) t.cells (by rw [hRl, Tm.cells_length]; omega)
  generalize (W1.setRow w.heap.size (splice (rows Tm.cells (ts.take i) ++ Z) (i * 3) t.cells).toArray) = W2 at *
  have hb2 : Below w.heap.size w W2 := hb0.grown hgr1 (by omega) (by simp)
  have hYl : (rows Tm.cells (ts.drop i)).length = (ts.length - i) * 3 := by rw [rows_length Tm.cells_length, List.length_drop]
  have hYd : rows Tm.cells (ts.drop i) = (L.take (ts.length * 3)).drop (i * 3) := by rw [hLt, ← rows_drop Tm.cells_length]
  have hsrcY : ∀ j v, (rows Tm.cells (ts.drop i))[j]? = some v → W2.drew.cell? ⟨gs, i * 3 + j, none⟩ = some v := fun j v hj => by
    rw [hYd, List.getElem?_drop, List.getElem?_take] at hj
    split at hj
    · refine (hb2.cell (p := ⟨gs, i * 3 + j, none⟩) hgl).trans ?_
      simp [World.cell?, hs, hj]
    · cases hj
  have hc3 := run_copyK (w := W2.drew) (sT := 23) (dCap := G - (i + 1)) (sCap := c - i) st_tm 3 (g := w.heap.size) (o := (i + 1) * 3) (dLen := ts.length - i) (sb := gs) (so := i * 3) (sLen := ts.length - i) (cur := splice (rows Tm.cells (ts.take i) ++ Z) (i * 3) t.cells) (t := 46) (cs := rows Tm.cells (ts.drop i)) (n := ts.length - i) hrow1 (by simp [Nat.min_def]) hYl hsrcY (by rw [hsl, hRl, hYl]; omega) (tms_one _)
  have hrow2 := setRow_at (w := W2.drew) hrow1 (splice (splice (rows Tm.cells (ts.take i) ++ Z) (i * 3) t.cells) ((i + 1) * 3) (rows Tm.cells (ts.drop i)))
  have hgr2 := setRow_grown (w := W2.drew) w.heap.size (splice (splice (rows Tm.cells (ts.take i) ++ Z) (i * 3) t.cells) ((i + 1) * 3) (rows Tm.cells (ts.drop i))).toArray
  have hsl2 := length_splice (splice (rows Tm.cells (ts.take i) ++ Z) (i * 3) t.cells) ((i + 1) * 3) (rows Tm.cells (ts.drop i)) (by rw [hsl, hRl, hYl]; omega)
  generalize (W2.drew.setRow w.heap.size (splice (splice (rows Tm.cells (ts.take i) ++ Z) (i * 3) t.cells) ((i + 1) * 3) (rows Tm.cells (ts.drop i))).toArray) = W3 at *
  have hb3 : Below w.heap.size w W3 := hb2.drew.grown hgr2 (by have := hgr1.size; show w.heap.size ≤ W2.heap.size; omega) (by simp)
  have g1 : ¬ (G = i) := by omega
  have g2 : ¬ (G = i + 1) := by omega
  have HALL := Lib.hid (And.intro hrow2 (And.intro hsl (And.intro hsl2 (And.intro hRl hb3))))
  have HX := Lib.hid hX; have HY := Lib.hid hYl; have HZl := Lib.hid hZl
  clear hrow0 hrow1 hrow2 hgr1 hgr2 hsl hsl2 hRl hb0 hb2 hb3 hsrcY hYd hYl hX hXd hZl hold hs0 hv1 HZ hi0 hz0 hz1 hz2
  have HRZ := Lib.hid hrz0; clear hrz0
  go_enter Try.func38, Try.ntmps38
  go_wp2_with (at_builtin; refine wpList_appR rfl (.tmp 34) (.tmp 39) 23 3 rfl _ _ rfl rfl HRZ.out ?_)
  have w1 : IntKind.i64.wrap ((i : Int) + 1) = (i : Int) + 1 := IntWalk.i64_in _ (by omega)
  have w2 : (0 : Int) ≤ (i : Int) + 1 := by omega
  have w3 : ((i : Int) + 1).toNat = i + 1 := by omega
  have w4 : (i : Int) ≤ (ts.length : Int) + 1 := by omega
  go_region
  clear w1 w2 w3 w4
  go_wp2
  go_ret
  obtain ⟨hrow2, hsl, hsl2, hRl, hb3⟩ := HALL.out
  have hsp := splice_insert2 (cur := rows Tm.cells (ts.take i) ++ Z) (X := rows Tm.cells (ts.take i)) (Y := rows Tm.cells (ts.drop i)) (V := t.cells) (Z := Z) rfl (by rw [Tm.cells_length, HY.out, HZl.out]; omega)
  rw [HX.out, Tm.cells_length, HY.out, ← insT_cells, show i * 3 + 3 = (i + 1) * 3 by omega, show (i + 1) * 3 + (ts.length - i) * 3 = (ts.length + 1) * 3 by omega] at hsp
  refine ⟨some ⟨w.heap.size, 0, none⟩, G, rfl, ⟨?_, .inr ⟨w.heap.size, G, _, rfl, hb, hrow2, hG1, by unfold maxLen; omega, ?_, ?_⟩⟩, ?_⟩
  · rw [rows_length Tm.cells_length, insT_length ts i t (by omega)]
  · simp; rw [hsl2, hsl]; simpa using hRl
  · exact hsp
  · exact ⟨hb3.os, hb3.tape, hb3.output, hb3.size, fun k hk _ => hb3.block k hk⟩
end Go.Proofs.Ytgiebofmfkacgaa
