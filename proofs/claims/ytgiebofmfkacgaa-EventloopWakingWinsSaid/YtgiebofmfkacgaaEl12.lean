/-
  Contract: slices.BinarySearchFunc at timers, with order.
-/
import Derived.Test.YtgiebofmfkacgaaEl11
namespace Go.Proofs.Ytgiebofmfkacgaa
open Go.RowKit

def bsGo (p : Nat → Bool) : Nat → Nat → Nat → Nat
  | 0, i, _ => i
  | f + 1, i, j => if i < j then (if p ((i + j) / 2) then bsGo p f ((i + j) / 2 + 1) j else bsGo p f i ((i + j) / 2)) else i
theorem bsGo_fuel (p : Nat → Bool) : ∀ f f' i j, j - i ≤ f → j - i ≤ f' → bsGo p f i j = bsGo p f' i j
  | 0, 0, i, j, _, _ => rfl
  | 0, f' + 1, i, j, h, _ => by simp [bsGo, show ¬ i < j by omega]
  | f + 1, 0, i, j, _, h => by simp [bsGo, show ¬ i < j by omega]
  | f + 1, f' + 1, i, j, h, h' => by
    simp only [bsGo]
    by_cases hij : i < j
    · rw [if_pos hij, if_pos hij, bsGo_fuel p f f' ((i + j) / 2 + 1) j (by omega) (by omega), bsGo_fuel p f f' i ((i + j) / 2) (by omega) (by omega)]
    · rw [if_neg hij, if_neg hij]
def bs (p : Nat → Bool) (i j : Nat) : Nat := bsGo p (j - i) i j
theorem bs_step (p : Nat → Bool) (i j : Nat) (h : i < j) : bs p i j = if p ((i + j) / 2) then bs p ((i + j) / 2 + 1) j else bs p i ((i + j) / 2) := by
  unfold bs
  rw [show j - i = (j - i - 1) + 1 by omega]
  simp only [bsGo, if_pos h]
  rw [bsGo_fuel p (j - i - 1) (j - ((i + j) / 2 + 1)) _ _ (by omega) (by omega), bsGo_fuel p (j - i - 1) ((i + j) / 2 - i) _ _ (by omega) (by omega)]
theorem bs_end (p : Nat → Bool) (i j : Nat) (h : j ≤ i) : bs p i j = i := by
  unfold bs
  rw [show j - i = 0 by omega]; rfl
theorem bs_spec (p : Nat → Bool) (n : Nat) (hp : ∀ a b, a < b → b < n → p b = true → p a = true) : ∀ (f i j : Nat), j - i ≤ f → i ≤ j → j ≤ n → i ≤ bs p i j ∧ bs p i j ≤ j ∧ (∀ a, i ≤ a → a < bs p i j → p a = true) ∧ (∀ a, bs p i j ≤ a → a < j → p a = false)
  | 0, i, j, h, hij, _ => by
    have : i = j := by omega
    subst this
    rw [bs_end p i i (Nat.le_refl _)]
    exact ⟨Nat.le_refl _, Nat.le_refl _, fun a _ _ => by omega, fun a _ _ => by omega⟩
  | f + 1, i, j, h, hij, hj => by
    by_cases hlt : i < j
    · rw [bs_step p i j hlt]
      cases hm : p ((i + j) / 2)
      · obtain ⟨h1, h2, h3, h4⟩ := bs_spec p n hp f i ((i + j) / 2) (by omega) (by omega) (by omega)
        simp only [Bool.false_eq_true, if_false]
        refine ⟨h1, by omega, h3, fun a ha haj => ?_⟩
        rcases Nat.lt_or_ge a ((i + j) / 2) with hc | hc
        · exact h4 a ha hc
        · cases hpa : p a
          · rfl
          · rcases Nat.eq_or_lt_of_le hc with e | e
            · rw [← e, hm] at hpa; cases hpa
            · rw [hp _ _ e (by omega) hpa] at hm; cases hm
      · obtain ⟨h1, h2, h3, h4⟩ := bs_spec p n hp f ((i + j) / 2 + 1) j (by omega) (by omega) hj
        simp only [if_true]
        refine ⟨by omega, h2, fun a ha har => ?_, h4⟩
        rcases Nat.lt_or_ge a ((i + j) / 2 + 1) with hc | hc
        · rcases Nat.eq_or_lt_of_le (show a ≤ (i + j) / 2 by omega) with e | e
          · rw [e]; exact hm
          · exact hp _ _ e (by omega) hm
        · exact h3 a hc har
    · have : i = j := by omega
      subst this
      rw [bs_end p i i (Nat.le_refl _)]
      exact ⟨Nat.le_refl _, Nat.le_refl _, fun a _ _ => by omega, fun a _ _ => by omega⟩

def before (ts : List Tm) (t : Tm) (i : Nat) : Bool := match ts[i]? with | some x => decide (orderI x t < 0) | none => false
def bsf (ts : List Tm) (t : Tm) : Nat := bs (before ts t) 0 ts.length
def RetIB (n : Int) (w : World) (e : Ending) (w' : World) : Prop := ∃ b : Bool, e = .returned (.tuple #[.int .i64 n, .bool b]) ∧ Below w.heap.size w w'

set_option maxHeartbeats 2000000 in
theorem bsearch_any (A : Option Addr) (c : Nat) (ts : List Tm) (t : Tm) (w : World) (ht : Rd w A (rows Tm.cells ts)) (hl : ts.length ≤ 17592186043904) :
    Calls Try.prog 36 #[.slice A ts.length c, t.val, .func (.func 37) #[] #[]] w (RetIB (bsf ts t) w) := by
  obtain ⟨t1, t2, t3⟩ := t
  unfold Tm.val
  dsimp only
  generalize hF : bsf ts ⟨t1, t2, t3⟩ = F
  have H0 := Lib.hid (show F = bs (before ts ⟨t1, t2, t3⟩) 0 ts.length from hF.symm)
  clear hF
  go_enter Try.func36, Try.ntmps36
  go_wp2
  go_loopw [9, 10] (fun x y wr => ∃ i j : Nat, i ≤ j ∧ j ≤ ts.length ∧ x = .int .i64 i ∧ y = .int .i64 j ∧ F = bs (before ts ⟨t1, t2, t3⟩) i j ∧ Below (w.heap.size + 1) (w.alloc (.cells #[.int .i64 t1, .int .i64 t2, .int .i64 t3] 46)) wr) (fun x y _ => (intOf y).toNat - (intOf x).toNat)
  case atStart => exact ⟨0, ts.length, Nat.zero_le _, Nat.le_refl _, rfl, rfl, H0.out, Below.refl _ _⟩
  case round =>
    obtain ⟨i, j, hij, hj, rfl, rfl, hs, hbl⟩ := hrel
    have H := Lib.hid hs; clear hs
    obtain ⟨k1, hz⟩ := box1 (w := w) hbl rfl (by omega)
    have hB : Below w.heap.size w wr := Below.trans (by repeat (first | (with_reducible exact Below.refl _ _) | (with_reducible apply Below.drew) | (with_reducible apply below_drewN) | ((with_reducible refine Below.setCell ?_ ?_ _); rotate_left; (focus (first | (simp; done) | (simp; omega) | omega))) | ((with_reducible refine Below.alloc ?_ ?_ _); rotate_left; (focus (first | (simp; done) | (simp; omega) | omega))))) (hbl.mono (by omega))
    obtain ⟨p0, p1, p2, _, _, _⟩ := Blk.three k1
    have K1 := Lib.hid k1; clear k1
    by_cases hlt : i < j
    · have HS := Lib.hid (bs_step (before ts ⟨t1, t2, t3⟩) i j hlt)
      have hm : (i + j) / 2 < ts.length := by omega
      have i0 : (i : Int) < (j : Int) := by omega
      go_wp2_with fail
      obtain ⟨m, em⟩ : ∃ m, m = (i + j) / 2 := ⟨_, rfl⟩
      have e2 : ((i : Int) + (j : Int)) / 2 = (m : Int) := by omega
      rw [← em] at HS hm
      have hmj : m < j := by omega
      have him : i ≤ m := by omega
      rw [e2]
      clear em e2
      obtain ⟨b, o, rfl, hb, hc0, hc1, hc2⟩ := (ht.below hB).tm hm
      have i1 : (0 : Int) ≤ (m : Int) := by omega
      have i2 : (m : Int) < (ts.length : Int) := by omega
      have HP := Lib.hid (show before ts ⟨t1, t2, t3⟩ m = decide (orderI ts[m] ⟨t1, t2, t3⟩ < 0) by simp [before, hm])
      go_region_held3 (fun w' => w'.cell? ⟨b, o + m * 3, none⟩ = some (.int .i64 ts[m].at_) ∧ w'.cell? ⟨b, o + m * 3 + 1, none⟩ = some (.int .i64 ts[m].ser) ∧ w'.cell? ⟨b, o + m * 3 + 2, none⟩ = some (.int .i64 ts[m].task) ∧ w'.cell? ⟨w.heap.size, 0, none⟩ = some (.int .i64 t1) ∧ w'.cell? ⟨w.heap.size, 1, none⟩ = some (.int .i64 t2) ∧ w'.cell? ⟨w.heap.size, 2, none⟩ = some (.int .i64 t3))
        (first | exact ⟨hc0, hc1, hc2, p0, p1, p2⟩ | exact ⟨(hb2.cell (p := ⟨b, o + m * 3, none⟩) (by simp; omega)).trans hc0, (hb2.cell (p := ⟨b, o + m * 3 + 1, none⟩) (by simp; omega)).trans hc1, (hb2.cell (p := ⟨b, o + m * 3 + 2, none⟩) (by simp; omega)).trans hc2, (hb2.cell (p := ⟨w.heap.size, 0, none⟩) (by simp; omega)).trans p0, (hb2.cell (p := ⟨w.heap.size, 1, none⟩) (by simp; omega)).trans p1, (hb2.cell (p := ⟨w.heap.size, 2, none⟩) (by simp; omega)).trans p2⟩)
        (first | (go_at_call 37; refine (order_any ts[m] ⟨t1, t2, t3⟩ _).mono ?_; rintro e w2 ⟨rfl, hb2⟩))
      have hbl2 := hbl.drew.trans (hb2.mono (show w.heap.size + 1 ≤ wr.heap.size by omega))
      clear i1 i2
      by_cases hO : orderI ts[m] ⟨t1, t2, t3⟩ < 0
      · go_wp2
        go_roundw
        case rel => exact ⟨m + 1, j, by omega, hj, by go_num, rfl, by rw [H.out, HS.out, HP.out, if_pos (by simpa using hO)], hbl2⟩
        case measure => simp [intOf]; omega
      · go_wp2
        go_roundw
        case rel => exact ⟨i, m, by omega, by omega, rfl, rfl, by rw [H.out, HS.out, HP.out, if_neg (by simpa using hO)], hbl2⟩
        case measure => simp [intOf]; omega
    · have HE := Lib.hid (bs_end (before ts ⟨t1, t2, t3⟩) i j (by omega))
      have i0 : ¬ (i : Int) < (j : Int) := by omega
      by_cases hn : i < ts.length
      · have i1 : (i : Int) < (ts.length : Int) := by omega
        obtain ⟨b, o, rfl, hb, hc0, hc1, hc2⟩ := (ht.below hB).tm hn
        go_wp2_with fail
        go_region_held3 (fun w' => w'.cell? ⟨b, o + i * 3, none⟩ = some (.int .i64 ts[i].at_) ∧ w'.cell? ⟨b, o + i * 3 + 1, none⟩ = some (.int .i64 ts[i].ser) ∧ w'.cell? ⟨b, o + i * 3 + 2, none⟩ = some (.int .i64 ts[i].task) ∧ w'.cell? ⟨w.heap.size, 0, none⟩ = some (.int .i64 t1) ∧ w'.cell? ⟨w.heap.size, 1, none⟩ = some (.int .i64 t2) ∧ w'.cell? ⟨w.heap.size, 2, none⟩ = some (.int .i64 t3))
          (first | exact ⟨hc0, hc1, hc2, p0, p1, p2⟩ | exact ⟨(hb2.cell (p := ⟨b, o + i * 3, none⟩) (by simp; omega)).trans hc0, (hb2.cell (p := ⟨b, o + i * 3 + 1, none⟩) (by simp; omega)).trans hc1, (hb2.cell (p := ⟨b, o + i * 3 + 2, none⟩) (by simp; omega)).trans hc2, (hb2.cell (p := ⟨w.heap.size, 0, none⟩) (by simp; omega)).trans p0, (hb2.cell (p := ⟨w.heap.size, 1, none⟩) (by simp; omega)).trans p1, (hb2.cell (p := ⟨w.heap.size, 2, none⟩) (by simp; omega)).trans p2⟩)
          (first | (go_at_call 37; refine (order_any ts[i] ⟨t1, t2, t3⟩ _).mono ?_; rintro e w2 ⟨rfl, hb2⟩))
        go_wp2
        go_ret2
        exact ⟨orderI ts[i] ⟨t1, t2, t3⟩ == 0, by rw [H.out, HE.out]; rfl, hB.drew.trans (hb2.mono (show w.heap.size ≤ wr.heap.size by omega))⟩
      · have i1 : decide (i < ts.length) = false := by simpa using hn
        go_wp2_with fail
        go_quiet (fail)
        go_wp2
        go_ret2
        exact ⟨false, by rw [H.out, HE.out]; rfl, below_drewN hB _⟩
end Go.Proofs.Ytgiebofmfkacgaa
