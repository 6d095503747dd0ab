/-
  Contracts over clocks: Busy, SameClock, none.
-/
import Derived.Test.YtgiebofmfkacgaaEl1
namespace Go.Proofs.Ytgiebofmfkacgaa
open Go.RowKit

theorem Tm.cells_length (t : Tm) : t.cells.length = 3 := rfl
theorem Rd.tm {w : World} {A : Option Addr} {ts : List Tm} {k : Nat} (h : Rd w A (rows Tm.cells ts)) (hk : k < ts.length) :
    ∃ b o, A = some ⟨b, o, none⟩ ∧ b < w.heap.size ∧ w.cell? ⟨b, o + k * 3, none⟩ = some (.int .i64 ts[k].at_) ∧ w.cell? ⟨b, o + k * 3 + 1, none⟩ = some (.int .i64 ts[k].ser) ∧ w.cell? ⟨b, o + k * 3 + 2, none⟩ = some (.int .i64 ts[k].task) := by
  obtain ⟨b, o, e, hb, hc⟩ := h.row Tm.cells_length hk (by omega)
  exact ⟨b, o, e, hb, hc 0 _ rfl, hc 1 _ rfl, hc 2 _ rfl⟩

structure Ck where
  now : Int
  ser : Int
  rs : List Int
  ts : List Tm
  deriving DecidableEq

/-- The value v reads as the clock c. -/
def CkAt (w : World) (c : Ck) (v : Value) : Prop :=
  ∃ RA rc TA tc, v = .agg #[.int .i64 c.now, .int .i64 c.ser, .slice RA c.rs.length rc, .slice TA c.ts.length tc] ∧ Rd w RA (ints c.rs) ∧ Rd w TA (rows Tm.cells c.ts) ∧
    c.rs.length ≤ rc ∧ c.ts.length ≤ tc ∧ c.rs.length ≤ 17592186043904 ∧ c.ts.length ≤ 17592186043904
theorem CkAt.below {w w' : World} {c : Ck} {v : Value} (h : CkAt w c v) (hb : Below w.heap.size w w') : CkAt w' c v := by
  obtain ⟨RA, rc, TA, tc, e, h1, h2, h3⟩ := h
  exact ⟨RA, rc, TA, tc, e, h1.below hb, h2.below hb, h3⟩

/-- The value v reads as the clock c; its rows lie in blocks that are let. -/
def CkIn (w : World) (ok : Nat → Prop) (c : Ck) (v : Value) : Prop :=
  ∃ RA rc TA tc, v = .agg #[.int .i64 c.now, .int .i64 c.ser, .slice RA c.rs.length rc, .slice TA c.ts.length tc] ∧ RdIn w ok RA (ints c.rs) ∧ RdIn w ok TA (rows Tm.cells c.ts) ∧
    c.rs.length ≤ rc ∧ c.ts.length ≤ tc ∧ c.rs.length ≤ 17592186043904 ∧ c.ts.length ≤ 17592186043904
section
variable {w w' : World} {ok ok' : Nat → Prop} {c : Ck} {v : Value}
theorem CkIn.at_ (h : CkIn w ok c v) : CkAt w c v := by
  obtain ⟨RA, rc, TA, tc, e, h1, h2, h3⟩ := h
  exact ⟨RA, rc, TA, tc, e, h1.rd, h2.rd, h3⟩
theorem CkIn.below (h : CkIn w ok c v) (hb : Below w.heap.size w w') : CkIn w' ok c v := by
  obtain ⟨RA, rc, TA, tc, e, h1, h2, h3⟩ := h
  exact ⟨RA, rc, TA, tc, e, h1.below hb, h2.below hb, h3⟩
theorem CkIn.weaken (h : CkIn w ok c v) (hk : ∀ b, ok b → ok' b) : CkIn w ok' c v := by
  obtain ⟨RA, rc, TA, tc, e, h1, h2, h3⟩ := h
  exact ⟨RA, rc, TA, tc, e, h1.weaken hk, h2.weaken hk, h3⟩
theorem CkIn.setCell (h : CkIn w ok c v) {p : Addr} (hp : ¬ ok p.block) (u : Value) : CkIn (w.setCell p u) ok c v := by
  obtain ⟨RA, rc, TA, tc, e, h1, h2, h3⟩ := h
  exact ⟨RA, rc, TA, tc, e, h1.setCell hp u, h2.setCell hp u, h3⟩
theorem CkAt.within (h : CkAt w c v) {n : Nat} (hn : w.heap.size ≤ n) : CkIn w (· < n) c v := by
  obtain ⟨RA, rc, TA, tc, e, h1, h2, h3⟩ := h
  exact ⟨RA, rc, TA, tc, e, h1.within hn, h2.within hn, h3⟩
end

def busyT (ts : List Tm) (x : Int) : Bool := ts.any (·.task == x)
def busy (rs : List Int) (ts : List Tm) (x : Int) : Bool := busyT ts x || has rs x
theorem busyT_drop (ts : List Tm) (x : Int) (k : Nat) (h : k < ts.length) : busyT (ts.drop k) x = ((ts[k].task == x) || busyT (ts.drop (k + 1)) x) := by
  unfold busyT; rw [List.drop_eq_getElem_cons h, List.any_cons]

set_option maxHeartbeats 400000 in
theorem busy_any (c : Ck) (v : Value) (x : Int) (w : World) (hv : CkAt w c v) :
    Calls Try.prog 17 #[v, .int .i64 x] w fun e w' => e = .returned (.bool (busy c.rs c.ts x)) ∧ Below w.heap.size w w' := by
  obtain ⟨now, ser, rs, ts⟩ := c
  obtain ⟨RA, rc, TA, tc, rfl, hr, ht, hrc, htc, hrl, htl⟩ := hv
  dsimp only at hr ht hrc htc hrl htl ⊢
  go_enter Try.func17, Try.ntmps17
  go_wp2
  go_loop [5] (fun i => ∃ k : Nat, k ≤ ts.length ∧ i = .int .i64 k ∧ busy rs ts x = busy rs (ts.drop k) x) (fun i => ts.length - (intOf i).toNat)
  case atStart => exact ⟨0, Nat.zero_le _, rfl, rfl⟩
  case round =>
    obtain ⟨k, hk, rfl, hs⟩ := hrel
    have H := Lib.hid hs; clear hs
    by_cases hlt : k < ts.length
    · obtain ⟨b, o, rfl, hb, hc0, hc1, hc2⟩ := ht.tm hlt
      have H2 := Lib.hid (busyT_drop ts x k hlt)
      by_cases hx : (ts[k].task == x) = true
      · go_wp2
        go_ret
        exact ⟨ret_bool (by rw [H.out, busy, H2.out, hx]; rfl), (Below.refl _ _).alloc (Nat.le_refl _) _⟩
      · have hx : (ts[k].task == x) = false := by simpa using hx
        go_wp2
        go_round
        case rel => exact ⟨k + 1, by omega, by go_num, by rw [H.out, busy, H2.out, hx]; rfl⟩
        case measure => simp [intOf]; omega
    · have hr' := hr.alloc (.cells #[.int .i64 now, .int .i64 ser, .slice RA rs.length rc, .slice TA ts.length tc] 25)
      go_wp2_with (go_at_call 27; refine (has_any _ _ rs x _ hr' (by omega)).mono ?_; rintro e w' ⟨rfl, rfl⟩)
      go_ret
      exact ⟨ret_bool (by rw [H.out, List.drop_eq_nil_of_le (by omega)]; rfl), (Below.refl _ _).alloc (Nat.le_refl _) _⟩
end Go.Proofs.Ytgiebofmfkacgaa
