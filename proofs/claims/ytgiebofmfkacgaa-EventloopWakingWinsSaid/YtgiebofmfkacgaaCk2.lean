/-
  The elder contracts on clocks as contracts on trees.
-/
import Derived.Test.YtgiebofmfkacgaaCk
namespace Go.Proofs.Ytgiebofmfkacgaa
open Go.RowKit

theorem flt_den (p : Int × Int) (ρ : Rho) (z : Fz) : DenS ρ z (.a (fd p)) (flt p) := .a (us := [_, _]) (.cons (.u (.int _ _)) (.cons (.u (.int _ _)) .nil))
theorem in_T (n lo hi : Int) : CallsA Try.prog 15 [di n, di lo, di hi] [] (Is (db (inB n lo hi))) :=
  callsA_flat ⟨_, _, Try.func15, rfl, rfl⟩ (fun _ _ => .d (.u (.bool _))) fun ρ G w vs h => by
    obtain ⟨v, u, x, rfl, h1, h2, h3⟩ := args3 h
    rw [den_int h1, den_int h2, den_int h3]
    exact (in_any n lo hi w).mono fun e w' ⟨h1, h2⟩ => ⟨h1, h2 ▸ Below.refl _ _⟩
theorem at_T (a b : Int) : CallsA Try.prog 16 [di a, di b] [] (Is (.a (fd (a, b)))) :=
  callsA_flat ⟨_, _, Try.func16, rfl, rfl⟩ (fun _ _ => flt_den (a, b) _ _) fun ρ G w vs h => by
    obtain ⟨v, u, rfl, h1, h2⟩ := args2 h
    rw [den_int h1, den_int h2]
    exact at_any a b w
theorem has_T (zs : List Int) (x : Int) : CallsA Try.prog 27 [.d (.u (ivs zs)), di x] [] (Is (db (has zs x))) :=
  callsA_flat ⟨_, _, Try.func27, rfl, rfl⟩ (fun _ _ => .d (.u (.bool _))) fun ρ G w vs h => by
    obtain ⟨v, u, rfl, h1, h2⟩ := args2 h
    rw [den_int h2]
    cases h1 with | d h1 => cases h1 with | u h1 =>
    obtain ⟨A, cc, rfl, q1, q2, q3⟩ := den_rows (g := fun n : Int => [V.int .i64 n]) (xs := zs) (cs := ints zs) h1 h.2.2 (fun z us h => den_ints h)
    exact (has_any A cc zs x w q1 (by unfold maxLen at q3; omega)).mono fun e w' ⟨h1, h2⟩ => ⟨h1, h2 ▸ Below.refl _ _⟩
theorem later_T (a b : Tm) : CallsA Try.prog 39 [.a (upT a.v), .a (upT b.v)] [] (Is (db (laterB a b))) :=
  callsA_flat ⟨_, _, Try.func39, rfl, rfl⟩ (fun _ _ => .d (.u (.bool _))) fun ρ G w vs h => by
    obtain ⟨v, u, rfl, h1, h2⟩ := args2 h
    have key : ∀ (t : Tm) v, DenS ρ ⟨G, w⟩ (.a (upT t.v)) v → v = t.val := fun t v h => by
      cases h with
      | @a _ us h =>
        have hl := h.len
        match us, hl with
        | [u0, u1, u2], _ =>
          have d0 := h.den 0 _ _ rfl rfl
          have d1 := h.den 1 _ _ rfl rfl
          have d2 := h.den 2 _ _ rfl rfl
          cases d0 with | u d0 => cases d0 with | int =>
          cases d1 with | u d1 => cases d1 with | int =>
          cases d2 with | u d2 => cases d2 with | int => rfl
    rw [key a _ h1, key b _ h2]
    exact later_any a b w
theorem busy_T (c : Ck) (hs : Small c) (x : Int) : CallsA Try.prog 17 [.a c.d, di x] [] (Is (db (busy c.rs c.ts x))) :=
  callsA_flat ⟨_, _, Try.func17, rfl, rfl⟩ (fun _ _ => .d (.u (.bool _))) fun ρ G w vs h => by
    obtain ⟨v, u, rfl, h1, h2⟩ := args2 h
    rw [den_int h2]
    exact busy_any c v x w (den_ck h1 h.2.2 hs)
theorem sameclock_T (c d : Ck) (hs : Small c) (hd : Small d) : CallsA Try.prog 20 [.a c.d, .a d.d] [] (Is (db (sameCk c d))) :=
  callsA_flat ⟨_, _, Try.func20, rfl, rfl⟩ (fun _ _ => .d (.u (.bool _))) fun ρ G w vs h => by
    obtain ⟨v, u, rfl, h1, h2⟩ := args2 h
    exact sameclock_any c d v u w (den_ck h1 h.2.2 hs) (den_ck h2 h.2.2 hd)
theorem none_T (c : Ck) (hs : Small c) : CallsA Try.prog 18 [.a c.d] [] (Is (db (sameCk c ⟨0, 0, [], []⟩))) :=
  callsA_flat ⟨_, _, Try.func18, rfl, rfl⟩ (fun _ _ => .d (.u (.bool _))) fun ρ G w vs h => by
    obtain ⟨v, rfl, h1⟩ := args1 h
    exact none_any c v w (den_ck h1 h.2.2 hs)
theorem clocked_T : CallsA Try.prog 19 [] [] (Is (db true)) :=
  callsA_flat ⟨_, _, Try.func19, rfl, rfl⟩ (fun _ _ => .d (.u (.bool _))) fun ρ G w vs h => by
    obtain rfl : vs = [] := List.eq_nil_of_length_eq_zero h.1
    exact clocked_any w
theorem validate_T (c : Ck) (hs : Small c) : CallsA Try.prog 14 [.a c.d] [] (Is (.a (fd (validate c)))) :=
  callsA_flat ⟨_, _, Try.func14, rfl, rfl⟩ (fun _ _ => flt_den _ _ _) fun ρ G w vs h => by
    obtain ⟨v, rfl, h1⟩ := args1 h
    exact validate_any c v w (den_ck h1 h.2.2 hs)
theorem clockfault_T (c : Ck) (hs : Small c) : CallsA Try.prog 13 [.a c.d] [] (Is (.a (fd (clockFault c)))) :=
  callsA_flat ⟨_, _, Try.func13, rfl, rfl⟩ (fun _ _ => flt_den _ _ _) fun ρ G w vs h => by
    obtain ⟨v, rfl, h1⟩ := args1 h
    exact clockfault_any c v w (den_ck h1 h.2.2 hs)
theorem ck_fresh {w w' : World} {c : Ck} {v : Value} (h : CkIn w' (w.heap.size ≤ ·) c v) (ρ : Rho) {G : FG} (hG : ∀ b, w.heap.size ≤ b → b < w'.heap.size → G b) : DenC ρ ⟨G, w'⟩ (.a c.d) v := by
  cases ck_den h (G := G) hG ρ with | a hh => exact .a hh
theorem ready_T (c : Ck) (hs : Small c) (n : Int) : CallsA Try.prog 11 [.a c.d, di n] [] (Is (.t [.a (readyM c n).1.d, .a (fd (readyM c n).2)])) :=
  callsA_fresh ⟨_, _, Try.func11, rfl, rfl⟩ fun ρ G w vs h => by
    obtain ⟨v, u, rfl, h1, h2⟩ := args2 h
    rw [den_int h2]
    refine (ready_any c v n w (den_ck h1 h.2.2 hs)).mono ?_
    rintro e w' ⟨v', rfl, h3, h4⟩
    refine ⟨_, rfl, h4, fun ρ G hG => .t (vs := [v', flt (readyM c n).2]) rfl fun j s u e1 e2 => ?_⟩
    match j with
    | 0 => simp at e1 e2; subst e1 e2; exact ck_fresh h3 ρ hG
    | 1 => simp at e1 e2; subst e1 e2; cases flt_den (readyM c n).2 ρ ⟨G, w'⟩ with | a h => exact .a h
    | j + 2 => simp at e1
theorem sleep_T (c : Ck) (hs : Small c) (n d : Int) : CallsA Try.prog 12 [.a c.d, di n, di d] [] (Is (.t [.a (sleepM c n d).1.d, .a (fd (sleepM c n d).2)])) :=
  callsA_fresh ⟨_, _, Try.func12, rfl, rfl⟩ fun ρ G w vs h => by
    obtain ⟨v, u, x, rfl, h1, h2, h3⟩ := args3 h
    rw [den_int h2, den_int h3]
    refine (sleep_any c v n d w (den_ck h1 h.2.2 hs)).mono ?_
    rintro e w' ⟨v', rfl, h3, h4⟩
    refine ⟨_, rfl, h4, fun ρ G hG => .t (vs := [v', flt (sleepM c n d).2]) rfl fun j s u e1 e2 => ?_⟩
    match j with
    | 0 => simp at e1 e2; subst e1 e2; exact ck_fresh h3 ρ hG
    | 1 => simp at e1 e2; subst e1 e2; cases flt_den (sleepM c n d).2 ρ ⟨G, w'⟩ with | a h => exact .a h
    | j + 2 => simp at e1
theorem next_T (c : Ck) (hs : Small c) : CallsA Try.prog 23 [.a c.d] [] (Is (.t [.a (nextM c).1.d, .d (.u (.int .i64 (nextM c).2.1)), .a (fd (nextM c).2.2)])) :=
  callsA_fresh ⟨_, _, Try.func23, rfl, rfl⟩ fun ρ G w vs h => by
    obtain ⟨v, rfl, h1⟩ := args1 h
    refine (next_any c v w (den_ck h1 h.2.2 hs)).mono ?_
    rintro e w' ⟨v', rfl, h3, h4⟩
    refine ⟨_, rfl, h4, fun ρ G hG => .t (vs := [v', .int .i64 (nextM c).2.1, flt (nextM c).2.2]) rfl fun j s u e1 e2 => ?_⟩
    match j with
    | 0 => simp at e1 e2; subst e1 e2; exact ck_fresh h3 ρ hG
    | 1 => simp at e1 e2; subst e1 e2; exact .d (.u (.int _ _))
    | 2 => simp at e1 e2; subst e1 e2; cases flt_den (nextM c).2.2 ρ ⟨G, w'⟩ with | a h => exact .a h
    | j + 3 => simp at e1
end Go.Proofs.Ytgiebofmfkacgaa
