/-
  Part 9 of the proofs of dchanges_holds, dshown_holds: laws and contracts that they need.
-/
import Derived.Test.YtabmcfnefjipbaaGreatDoorU8
set_option linter.unusedVariables false
set_option linter.unusedSimpArgs false
namespace Go.Proofs.YtabmcfnefjipbaaGreatDoor
open Go.RowKit
def NorP : Ob → Prop
  | .bx _ cs => ∀ x ∈ cs, norD x = true
  | .ar _ _ _ => True
  | .fm _ rs => ∀ row ∈ rs, ∀ e ∈ row, ∃ x, e = .v x
  | .mp _ _ _ => True
  | .fa _ _ _ => False
  | .ab cs _ _ _ => ∀ x ∈ cs, norD x = true
section
variable {ρ ρ' : Rho} {z : Fz}
theorem ObsOk.norP (e : ∀ k, ρ' k = ρ k) : ∀ {ob : List (Nat × Ob)} {hp : List (Nat × Hb)}, (∀ p ∈ ob, NorP p.2) → ObsOk ρ z ob hp → ObsOk ρ' z ob hp
  | [], _, _, h => h
  | (k, .bx t cs) :: r, _, ho, ⟨X, hp', h1, ⟨b, us, h2, h3, h4⟩, h5⟩ => ⟨X, hp', h1, ⟨b, us, h2, by rw [e]; exact h3, h4.nor e (ho (k, .bx t cs) (by simp))⟩, h5.norP e fun p hp => ho p (by simp [hp])⟩
  | (k, .ar t sz rs) :: r, _, ho, ⟨X, hp', h1, ⟨A, c, us, h2, h3, h4⟩, h5⟩ => ⟨X, hp', h1, ⟨A, c, us, h2, by rw [e]; exact h3, h4⟩, h5.norP e fun p hp => ho p (by simp [hp])⟩
  | (k, .fm t rs) :: r, _, ho, ⟨X, hp', h1, ⟨h2, h3⟩, h5⟩ => ⟨X, hp', h1, ⟨h2.nor (ho (k, .fm t rs) (by simp)), h3⟩, h5.norP e fun p hp => ho p (by simp [hp])⟩
  | (k, .mp kg vg es) :: r, _, ho, ⟨X, hp', h1, ⟨b, vs, h2, h3, h4⟩, h5⟩ => ⟨X, hp', h1, ⟨b, vs, h2, by rw [e]; exact h3, h4⟩, h5.norP e fun p hp => ho p (by simp [hp])⟩
  | (k, .fa t sz rs) :: r, _, ho, _ => (ho (k, .fa t sz rs) (by simp) : False).elim
  | (k, .ab cs us zb φ) :: r, _, ho, ⟨X, hp', h1, ⟨h2, h3, h4⟩, h5⟩ => ⟨X, hp', h1, ⟨h2, h3, h4.nor e (ho (k, .ab cs us zb φ) (by simp))⟩, h5.norP e fun p hp => ho p (by simp [hp])⟩
end
/-- Boxes that are pinned stay where they are. -/
theorem CallsP.ofP {P : Program} {f : FuncId} {ss : List SV} {obP ob0 : List (Nat × Ob)} {s0 : SV} (K : Nat) (ks : List Nat) (hs : NorS s0) (ho : ∀ p ∈ ob0, NorP p.2) (hb : ∀ k ∈ ks, ∃ t cs t' cs', lk k obP = some (.bx t cs) ∧ lk k ob0 = some (.bx t' cs') ∧ cs.length = cs'.length)
    (h : ∀ us zb, CallsA P f ss ((K, .ab (ks.map fun k => .p k 0) us zb (· = [])) :: obP) (Iso s0 ((K, .ab (ks.map fun k => .p k 0) us zb (· = [])) :: ob0))) : CallsP P f ss obP ks (Iso s0 ob0) := by
  refine ⟨(h [] ⟨⟨fun _ => False, fun _ => [], fun _ => False⟩, ⟨#[], fun _ _ => 0, 0, default, #[]⟩⟩).fn, fun c ρ hp vs w hw hl g => ?_⟩
  have hpin : ∀ l : List Nat, (∀ k ∈ l, k ∈ ks) → ∃ us : List Value, DenL ρ ⟨c.G, c.w⟩ (l.map fun k => D.p k 0) us := by
    intro l
    induction l with
    | nil => exact fun _ => ⟨[], .nil⟩
    | cons k r ih =>
      intro hm
      obtain ⟨us, hus⟩ := ih fun j hj => hm j (by simp [hj])
      obtain ⟨t, cs, t', cs', q1, _, _⟩ := hb k (hm k (by simp))
      obtain ⟨b, hb1⟩ := g.ob.bx q1
      exact ⟨_ :: us, hus.cons (.p hb1)⟩
  obtain ⟨us, hus⟩ := hpin ks fun _ h => h
  refine ((h us ⟨c.G, c.w⟩).out c ρ hp vs w hw hl ⟨g.fF, g.fw, g.gF, g.gx, g.fm, g.tm, ⟨[], hp, rfl, ⟨rfl, .refl, hus⟩, g.ob⟩⟩).mono ?_
  rintro e w' ⟨v, h', s, ob', ρ', G', rfl, hw', g', rfl, rfl⟩
  obtain ⟨X, hp', e1, ⟨e2, e3, e4⟩, e5⟩ := g'.ob
  have e2' : X = [] := e2
  subst e2'
  have hloc : ∀ k, inN ks k = true → ρ' k = ρ k := fun k hk => by
    have hm : k ∈ ks := mem_inN hk
    obtain ⟨t, cs, t', cs', q1, q2, q3⟩ := hb k hm
    obtain ⟨b, b1⟩ := g.ob.bx q1
    obtain ⟨b', b2⟩ := e5.bx q2
    obtain ⟨j, hj⟩ := List.mem_iff_getElem?.1 hm
    have hj' : (ks.map fun k => D.p k 0)[j]? = some (.p k 0) := by rw [List.getElem?_map, hj]; rfl
    obtain ⟨u, u1, u2⟩ := e4.get hj'
    have u3 := hus.den j _ u hj' u1
    cases u2 with | p z1 =>
    cases u3 with | p z2 =>
    rw [b2] at z1
    rw [b1] at z2
    injection z1 with z1; injection z1 with z1 _ _; injection z1 with z1; injection z1 with z1 _ _
    injection z2 with z2; injection z2 with z2 _ _; injection z2 with z2; injection z2 with z2 _ _
    rw [b1, b2, z1, z2, q3]
  have hee : ∀ k, (⟨ρ'.loc, fun k => if inN ks k = true then ρ.os k else ρ'.os k⟩ : Rho) k = ρ' k := fun _ => rfl
  refine ⟨v, h', s, ob0, ⟨ρ'.loc, fun k => if inN ks k = true then ρ.os k else ρ'.os k⟩, G', rfl, hw', ⟨g'.fF, g'.fw, g'.gF, g'.gx, g'.fm, fun k s' hk => ?_, ?_⟩, ⟨rfl, rfl⟩, fun k hk => ⟨hloc k hk, if_pos hk⟩⟩
  · obtain ⟨u, u1, u2⟩ := g'.tm k s' hk
    refine ⟨u, u1, u2.nor hee ?_⟩
    simp only [lk] at hk
    cases hk0 : Nat.beq k 0 <;> rw [hk0] at hk
    · cases hk
    · simp only [cond_true, Option.some.injEq] at hk
      rw [← hk]; exact hs
  · rw [e1]
    exact e5.norP hee ho
end Go.Proofs.YtabmcfnefjipbaaGreatDoor
namespace Go.Proofs.YtabmcfnefjipbaaGreatDoor
open Go.RowKit
theorem dottedD_size {s : ByteArray} (h : dottedM s = true) : s.size ≤ 60 := by
  unfold dottedM at h
  grind
theorem nameD_size {s : ByteArray} (h : nameB s = true) : s.size ≤ 24 := by
  unfold nameB at h
  simp only [Bool.and_eq_true, decide_eq_true_eq] at h
  omega
structure PcOk (a : Pc) : Prop where
  md : a.md.size ≤ 60
  fn : a.fn.size ≤ 24
  lo : 0 ≤ a.line
  hi : a.line ≤ 9223372036854775807
theorem avAt_ok {l : List Ev} (hv : Vd l) (hn : ∀ e ∈ l, e.line ≤ 9223372036854775807) {q : Nat} : ∀ i, i ≤ l.length → ∀ a ∈ avAt l q i, PcOk a.pc
  | 0, _, a, h => by simp [avAt] at h
  | i + 1, hi, a, h => by
    have he : l[i]? = some l[i] := List.getElem?_eq_getElem (by omega)
    have ok := hv.ok he
    have hm := hn l[i] (List.getElem_mem (by omega))
    have ih := avAt_ok hv hn (q := q) i (by omega)
    have h1 := dottedD_size ok.name.1
    have h2 := nameD_size ok.name.2
    have h3 := ok.line
    rw [avAt_succ he] at h
    unfold stepV at h
    split at h
    · rcases List.mem_append.1 h with h | h
      · exact ih a h
      · simp at h; subst h; exact ⟨h1, h2, h3, hm⟩
    · split at h
      · unfold setAv at h
        split at h
        · rename_i b hb
          rcases List.mem_append.1 h with h | h
          · exact ih a (List.dropLast_subset _ h)
          · simp at h
            subst h
            have := ih b (List.mem_of_getLast? hb)
            exact ⟨this.md, this.fn, h3, hm⟩
        · exact ih a h
      · split at h
        · exact ih a (List.dropLast_subset _ h)
        · exact ih a h
theorem activeM_ok {l : List Ev} (hv : Vd l) (hn : ∀ e ∈ l, e.line ≤ 9223372036854775807) {p : Int} (hp : -1 ≤ p ∧ p ≤ (l.length : Int)) : ∀ a ∈ (activeM l p).map Av.pc, PcOk a := by
  intro a h
  obtain ⟨b, hb, rfl⟩ := List.mem_map.1 h
  unfold activeM at hb
  split at hb
  · cases hb
  · exact avAt_ok hv hn _ (by omega) b hb
theorem whereB_size {a : Pc} (h : PcOk a) : (whereB a).size ≤ 110 := by
  have := itoaB_size (n := a.line) (by have := h.lo; omega) h.hi
  have h1 : (ByteArray.mk #[58]).size = 1 := rfl
  have h2 : (ByteArray.mk #[32]).size = 1 := rfl
  have := h.md
  have := h.fn
  simp only [whereB, ByteArray.size_append]
  omega
theorem total_leD {l : List ByteArray} {sep : ByteArray} {m : Nat} (h : ∀ x ∈ l, x.size ≤ m) : ∀ n, total l sep n ≤ n * (sep.size + m)
  | 0 => by simp [total]
  | n + 1 => by
    have ih := total_leD (sep := sep) h n
    have hx : (l[n]?.getD (ByteArray.mk #[])).size ≤ m := by
      cases hn : l[n]? with
      | none => exact Nat.zero_le _
      | some x => exact h x (List.mem_of_getElem? hn)
    rw [total, Nat.add_mul]
    omega
theorem cutR_size (c : ByteArray) : (cutR' c).size ≤ c.size := by
  unfold cutR'
  split
  · simp
  · exact Nat.zero_le _
theorem add_P (l : List Ev) (p : Int) (bs : List Bp) (ws : List ByteArray) (hb : bs.length ≤ 1000) (hw : ws.length = 2 ∨ ws.length = 4) (h1 : 1 ≤ (ws[1]?.getD emB).size) (h9 : (ws[1]?.getD emB).size ≤ 9) (hd : digsB (ws[1]?.getD emB)) (zt : Fz) (hz : Tab zt) :
    CallsP Tryz.prog 100 [.d (.p 1 0), .d (.u (.sl 1 (strs ws)))] [(1, .bx 120 (sesV l p bs)), (907, tbOb zt)] [1] (Iso (dsr (addM bs ws).1) [(1, .bx 120 (sesV l p (addM bs ws).2)), (907, tbOb zt)]) := by
  refine .ofP 902 [1] rfl (fun p hp => ?_) (fun j hj => ?_) fun us zb => addA_T us zb l p bs ws hb hw h1 h9 hd zt hz
  · simp only [List.mem_cons, List.not_mem_nil, or_false] at hp
    rcases hp with rfl | rfl
    · simp [NorP, norD]
    · simp [NorP]
  · simp only [List.mem_cons, List.not_mem_nil, or_false] at hj
    subst hj
    exact ⟨_, _, _, _, rfl, rfl, rfl⟩
end Go.Proofs.YtabmcfnefjipbaaGreatDoor
namespace Go.Proofs.YtabmcfnefjipbaaGreatDoor
open Go.RowKit
abbrev startB : ByteArray := ByteArray.mk #[115, 116, 97, 114, 116]
abbrev endB : ByteArray := ByteArray.mk #[101, 110, 100]
abbrev clearedB : ByteArray := ByteArray.mk #[99, 108, 101, 97, 114, 101, 100]
abbrev clearK : ByteArray := ByteArray.mk #[99, 108, 101, 97, 114]
abbrev whereK : ByteArray := ByteArray.mk #[119, 104, 101, 114, 101]
abbrev breakK : ByteArray := ByteArray.mk #[98, 114, 101, 97, 107]
abbrev nowhereB : ByteArray := ByteArray.mk #[110, 111, 119, 104, 101, 114, 101]
abbrev unknownB : ByteArray := ByteArray.mk #[117, 110, 107, 110, 111, 119, 110]
abbrev semiSp : ByteArray := ByteArray.mk #[59, 32]
/-- Where a session is. -/
structure Ses where
  p : Int
  bs : List Bp
def evP (e : Ev) : Pc := ⟨e.md, e.fn, e.line⟩
/-- The line that names a position. -/
def atB (l : List Ev) (q : Int) : ByteArray := if q = -1 then startB else if q = (l.length : Int) then endB else match l[q.toNat]? with
  | some e => whereB (evP e)
  | none => endB
/-- A text for all places, the innermost first. -/
def whereL (ps : List Pc) : ByteArray := if ps = [] then nowhereB else joinB (ps.reverse.map whereB) semiSp (ps.reverse.map whereB).length
def doM (l : List Ev) (s : Ses) (c : ByteArray) : ByteArray × Ses :=
  match cmdM (depM l s.p) s.bs c with
  | some (st, g) => (atB l (mvM g l st (s.p + st)), ⟨mvM g l st (s.p + st), s.bs⟩)
  | none =>
    if c = clearK then (clearedB, ⟨s.p, []⟩)
    else if c = whereK then (whereL ((activeM l s.p).map Av.pc), s)
    else if cutW c = breakK ∧ ((spN 3 (cutR' c)).length = 2 ∨ (spN 3 (cutR' c)).length = 4) then ((addM s.bs (spN 3 (cutR' c))).1, ⟨s.p, (addM s.bs (spN 3 (cutR' c))).2⟩)
    else if isShow c = true then ((if (showM l s.p (cutR' c)).isSome = true ∧ nameB (cutR' c) = true then (showM l s.p (cutR' c)).getD emB else unknownB), s)
    else (whatB, s)
/-- A loop's objects: the texts so far. -/
def accW (ps : List Pc) (i : Nat) : List ByteArray := (ps.reverse.map whereB).take i
abbrev whOb (zt : Fz) (ps : List Pc) (i : Nat) : List (Nat × Ob) := [(12, .bx 23 [.ow 901 (accW ps i).length]), (901, .ar 9 1 (strs (accW ps i))), (907, tbOb zt)]
theorem whOb_mf (zt : Fz) (ps : List Pc) (i : Nat) : MfObsZ [zt] (whOb zt ps i) := by
  intro p hp
  simp only [List.mem_cons, List.not_mem_nil, or_false] at hp
  rcases hp with rfl | rfl | rfl
  · exact .inl (by simp [MfOb, mfD])
  · refine .inl fun r hr x hx => ?_
    unfold strs at hr
    obtain ⟨s, _, rfl⟩ := List.mem_map.1 hr
    simp at hx
    subst hx
    rfl
  · exact .inr ⟨zt, _, rfl, by simp⟩
theorem accW_succ {ps : List Pc} {i : Nat} {q : Pc} (hi : i < ps.length) (h : ps[ps.length - 1 - i]? = some q) : accW ps (i + 1) = accW ps i ++ [whereB q] := by
  unfold accW
  rw [List.take_add_one, List.getElem?_map, List.getElem?_reverse (by omega), h]
  rfl
theorem bwSS_nm (n i : Nat) (q : Pc) : ∀ s ∈ bwSS n i q, NmS s := by
  intro s hs
  simp only [List.mem_cons, List.not_mem_nil, or_false] at hs
  rcases hs with rfl | rfl
  · exact ⟨_, rfl, .int⟩
  · intro x hx
    simp only [List.mem_cons, List.not_mem_nil, or_false] at hx
    rcases hx with rfl | rfl | rfl
    · exact ⟨_, rfl, .str⟩
    · exact ⟨_, rfl, .str⟩
    · exact ⟨_, rfl, .int⟩
theorem mvM_rng {g : Ev → Bool} {l : List Ev} {s : Int} (hs : s = 1 ∨ s = -1) : ∀ (n : Nat) (p : Int), muM l s p ≤ n → -1 ≤ mvM g l s p ∧ mvM g l s p ≤ (l.length : Int)
  | n, p, h => by
    by_cases hp : 0 ≤ p ∧ p < (l.length : Int)
    · obtain ⟨i, rfl⟩ : ∃ i : Nat, p = i := ⟨p.toNat, by omega⟩
      have hi : i < l.length := by omega
      have hlt := muM_lt (l := l) hs i hi
      rw [mvM_in hs i l[i] (List.getElem?_eq_getElem hi)]
      split
      · omega
      · cases n with
        | zero => omega
        | succ n => exact mvM_rng hs n _ (by omega)
    · rw [mvM_out p hp, clampM]
      omega
end Go.Proofs.YtabmcfnefjipbaaGreatDoor
namespace Go.Proofs.YtabmcfnefjipbaaGreatDoor
open Go.RowKit
set_option maxHeartbeats 8000000 in
theorem doA_some (us : List Value) (zb : Fz) {l : List Ev} (hv : Vd l) (hL : l.length ≤ 20000) (he : ∀ e ∈ l, e.locs.length ≤ 9000000000) (hn : ∀ e ∈ l, e.line ≤ 9223372036854775807) (p : Int) (hp : -1 ≤ p ∧ p ≤ (l.length : Int)) (bs : List Bp) (hb : bs.length ≤ 1000) (c : ByteArray) (hc : c.size ≤ 4000) (zt : Fz) (hz : Tab zt) {s : Int} {g : Ev → Bool} (hcm : cmdM (depM l p) bs c = some (s, g)) :
    CallsA Tryz.prog 65 [.d (.p 1 0), dsr c] [(902, .ab [.p 1 0] us zb (· = [])), (1, .bx 120 (sesV l p bs)), (907, tbOb zt)] (Iso (dsr (atB l (mvM g l s (p + s)))) [(902, .ab [.p 1 0] us zb (· = [])), (1, .bx 120 (sesV l (mvM g l s (p + s)) (bs))), (907, tbOb zt)]) := by
  have hcut := cutJ_T c (by omega)
  have hmo : CallsA Tryz.prog 54 [.d (.u (evs l)), .d (.u (bkV bs)), di p] [] (Iso (.d (.mp 920)) [(920, .mp false true (motE (depM l p) (bkV bs)))]) := by
    cases bs with
    | nil => exact motions0_T l p hp
    | cons b r => exact motions_T l (b :: r) p hp
  have hmk : ∀ e ∈ l, CallsA Tryz.prog 89 [.a e.ds, .d (.q [bkV bs] 0)] [] (Is (db (bs.any (hitB e)))) := by
    intro e q
    cases bs with
    | nil => exact mrk0_T e (he e q)
    | cons b r => exact mrk_T (b :: r) e (he e q) (by omega)
  obtain ⟨m1, m2⟩ := motE_get (depM l p) (bkV bs) c zMot
  have hok := motE_ok (depM l p) (bkV bs)
  obtain ⟨fv, q1, q2, q3⟩ := cmd_move hp hL hmk hcm
  rw [q1] at m1 m2
  have hrg := mvM_rng (g := g) (l := l) q2 (muM l s (p + s)) (p + s) (Nat.le_refl _)
  generalize mvM g l s (p + s) = q at *
  clear hmk hcm
  refine callsA_of_rdO (T := tt) Tryz.func65 rfl rfl rfl rfl rfl ?_
  refine' cutR (fun _ : Unit => True) (fun _ => ⟨[(0, .d (.p 1 0)), (1, dsr c), (8, .d (.p 8 0)), (9, db true)], [(902, .ab [.p 1 0] us zb (· = [])), (1, .bx 120 (sesV l p bs)), (8, .bx 105 [.u (.int .i64 s), .u fv]), (907, tbOb zt)]⟩) _ (fun hR => ?_) ?_
  rotate_left
  · repeat' ((conv => whnf); first | refine Mlk.of [.int .i64 s, fv] true (by kernel_rfl) hok m1 m2 ?_ | (exact Gs.cut (i := 3) (by assumption) () [(902, .k 902), (1, .k 1), (8, .k 8), (907, .k 907)] rfl ⟨by (try dsimp only); (repeat (refine LeT.cons rfl (by first | exact LeS.d (by first | exact LeD.u rfl | exact LeD.p rfl | fail) | fail) ?_)); (first | exact LeT.nil | fail), by (try dsimp only); (repeat (first | exact LeO.nil | refine LeO.bx rfl rfl (by repeat (first | exact LeL.nil | refine LeL.cons (by first | exact LeD.u rfl | fail) ?_)) ?_ | refine LeO.ab rfl rfl (by repeat (first | exact LeL.nil | refine LeL.cons (by first | exact LeD.p rfl | fail) ?_)) (by first | rfl | fail) ?_ | fail)); done⟩ (by trivial)) | refine Gs.id ?_ | with_reducible refine And.intro ?_ ?_ | refine Drw.ofT (T := tt) (i := 2) [3, 7, 11, 12, 14, 18, 19] [0, 1, 2, 4, 5, 6, 8, 9, 10, 13, 15, 16, 17, 20] (OF.fst 0 (OF.fst 1 (OF.fst 2 (OF.fst 4 (OF.fst 5 (OF.fst 6 (OF.fst 8 (OF.fst 9 (OF.fst 10 (OF.fst 13 (OF.alt 3 (OF.alt 7 (OF.alt 11 (OF.alt 12 (OF.alt 14 (OF.fst 15 (OF.fst 16 (OF.fst 17 (OF.alt 18 (OF.alt 19 (OF.fst 20 OF.nil) OF.nil) OF.nil)))) (OF.alt 18 (OF.alt 14 (OF.fst 15 (OF.fst 16 (OF.fst 17 (OF.alt 19 (OF.fst 20 OF.nil) OF.nil)))) OF.nil) OF.nil)) (OF.alt 18 (OF.alt 12 (OF.alt 14 (OF.fst 15 (OF.fst 16 (OF.fst 17 (OF.alt 19 (OF.fst 20 OF.nil) OF.nil)))) OF.nil) OF.nil) OF.nil)) (OF.alt 18 (OF.alt 11 (OF.alt 12 (OF.alt 14 (OF.fst 15 (OF.fst 16 (OF.fst 17 (OF.alt 19 (OF.fst 20 OF.nil) OF.nil)))) OF.nil) OF.nil) OF.nil) OF.nil)) (OF.alt 11 (OF.alt 7 (OF.alt 12 (OF.alt 14 (OF.fst 15 (OF.fst 16 (OF.fst 17 (OF.alt 18 (OF.alt 19 (OF.fst 20 OF.nil) OF.nil) OF.nil)))) (OF.alt 18 (OF.alt 14 (OF.fst 15 (OF.fst 16 (OF.fst 17 (OF.alt 19 (OF.fst 20 OF.nil) OF.nil)))) OF.nil) OF.nil)) (OF.alt 18 (OF.alt 12 (OF.alt 14 (OF.fst 15 (OF.fst 16 (OF.fst 17 (OF.alt 19 (OF.fst 20 OF.nil) OF.nil)))) OF.nil) OF.nil) OF.nil)) (OF.alt 18 (OF.alt 7 (OF.alt 12 (OF.alt 14 (OF.fst 15 (OF.fst 16 (OF.fst 17 (OF.alt 19 (OF.fst 20 OF.nil) OF.nil)))) OF.nil) OF.nil) OF.nil) OF.nil)) (OF.alt 18 (OF.alt 7 (OF.alt 11 (OF.alt 12 (OF.alt 14 (OF.fst 15 (OF.fst 16 (OF.fst 17 (OF.alt 19 (OF.fst 20 OF.nil) OF.nil)))) OF.nil) OF.nil) OF.nil) (OF.alt 11 (OF.alt 7 (OF.alt 12 (OF.alt 14 (OF.fst 15 (OF.fst 16 (OF.fst 17 (OF.alt 19 (OF.fst 20 OF.nil) OF.nil)))) OF.nil) OF.nil) OF.nil) OF.nil)) OF.nil))) (OF.alt 7 (OF.alt 3 (OF.alt 11 (OF.alt 12 (OF.alt 14 (OF.fst 15 (OF.fst 16 (OF.fst 17 (OF.alt 18 (OF.alt 19 (OF.fst 20 OF.nil) OF.nil) OF.nil)))) (OF.alt 18 (OF.alt 14 (OF.fst 15 (OF.fst 16 (OF.fst 17 (OF.alt 19 (OF.fst 20 OF.nil) OF.nil)))) OF.nil) OF.nil)) (OF.alt 18 (OF.alt 12 (OF.alt 14 (OF.fst 15 (OF.fst 16 (OF.fst 17 (OF.alt 19 (OF.fst 20 OF.nil) OF.nil)))) OF.nil) OF.nil) OF.nil)) (OF.alt 18 (OF.alt 11 (OF.alt 12 (OF.alt 14 (OF.fst 15 (OF.fst 16 (OF.fst 17 (OF.alt 19 (OF.fst 20 OF.nil) OF.nil)))) OF.nil) OF.nil) OF.nil) OF.nil)) (OF.alt 11 (OF.alt 3 (OF.alt 12 (OF.alt 14 (OF.fst 15 (OF.fst 16 (OF.fst 17 (OF.alt 18 (OF.alt 19 (OF.fst 20 OF.nil) OF.nil) OF.nil)))) (OF.alt 18 (OF.alt 14 (OF.fst 15 (OF.fst 16 (OF.fst 17 (OF.alt 19 (OF.fst 20 OF.nil) OF.nil)))) OF.nil) OF.nil)) (OF.alt 18 (OF.alt 12 (OF.alt 14 (OF.fst 15 (OF.fst 16 (OF.fst 17 (OF.alt 19 (OF.fst 20 OF.nil) OF.nil)))) OF.nil) OF.nil) OF.nil)) (OF.alt 18 (OF.alt 3 (OF.alt 12 (OF.alt 14 (OF.fst 15 (OF.fst 16 (OF.fst 17 (OF.alt 19 (OF.fst 20 OF.nil) OF.nil)))) OF.nil) OF.nil) OF.nil) OF.nil)) (OF.alt 18 (OF.alt 3 (OF.alt 11 (OF.alt 12 (OF.alt 14 (OF.fst 15 (OF.fst 16 (OF.fst 17 (OF.alt 19 (OF.fst 20 OF.nil) OF.nil)))) OF.nil) OF.nil) OF.nil) (OF.alt 11 (OF.alt 3 (OF.alt 12 (OF.alt 14 (OF.fst 15 (OF.fst 16 (OF.fst 17 (OF.alt 19 (OF.fst 20 OF.nil) OF.nil)))) OF.nil) OF.nil) OF.nil) OF.nil)) OF.nil))) (OF.alt 11 (OF.alt 3 (OF.alt 7 (OF.alt 12 (OF.alt 14 (OF.fst 15 (OF.fst 16 (OF.fst 17 (OF.alt 18 (OF.alt 19 (OF.fst 20 OF.nil) OF.nil) OF.nil)))) (OF.alt 18 (OF.alt 14 (OF.fst 15 (OF.fst 16 (OF.fst 17 (OF.alt 19 (OF.fst 20 OF.nil) OF.nil)))) OF.nil) OF.nil)) (OF.alt 18 (OF.alt 12 (OF.alt 14 (OF.fst 15 (OF.fst 16 (OF.fst 17 (OF.alt 19 (OF.fst 20 OF.nil) OF.nil)))) OF.nil) OF.nil) OF.nil)) (OF.alt 18 (OF.alt 7 (OF.alt 12 (OF.alt 14 (OF.fst 15 (OF.fst 16 (OF.fst 17 (OF.alt 19 (OF.fst 20 OF.nil) OF.nil)))) OF.nil) OF.nil) OF.nil) OF.nil)) (OF.alt 7 (OF.alt 3 (OF.alt 12 (OF.alt 14 (OF.fst 15 (OF.fst 16 (OF.fst 17 (OF.alt 18 (OF.alt 19 (OF.fst 20 OF.nil) OF.nil) OF.nil)))) (OF.alt 18 (OF.alt 14 (OF.fst 15 (OF.fst 16 (OF.fst 17 (OF.alt 19 (OF.fst 20 OF.nil) OF.nil)))) OF.nil) OF.nil)) (OF.alt 18 (OF.alt 12 (OF.alt 14 (OF.fst 15 (OF.fst 16 (OF.fst 17 (OF.alt 19 (OF.fst 20 OF.nil) OF.nil)))) OF.nil) OF.nil) OF.nil)) (OF.alt 18 (OF.alt 3 (OF.alt 12 (OF.alt 14 (OF.fst 15 (OF.fst 16 (OF.fst 17 (OF.alt 19 (OF.fst 20 OF.nil) OF.nil)))) OF.nil) OF.nil) OF.nil) OF.nil)) (OF.alt 18 (OF.alt 3 (OF.alt 7 (OF.alt 12 (OF.alt 14 (OF.fst 15 (OF.fst 16 (OF.fst 17 (OF.alt 19 (OF.fst 20 OF.nil) OF.nil)))) OF.nil) OF.nil) OF.nil) (OF.alt 7 (OF.alt 3 (OF.alt 12 (OF.alt 14 (OF.fst 15 (OF.fst 16 (OF.fst 17 (OF.alt 19 (OF.fst 20 OF.nil) OF.nil)))) OF.nil) OF.nil) OF.nil) OF.nil)) OF.nil))) (OF.alt 18 (OF.alt 3 (OF.alt 7 (OF.alt 11 (OF.alt 12 (OF.alt 14 (OF.fst 15 (OF.fst 16 (OF.fst 17 (OF.alt 19 (OF.fst 20 OF.nil) OF.nil)))) OF.nil) OF.nil) OF.nil) (OF.alt 11 (OF.alt 7 (OF.alt 12 (OF.alt 14 (OF.fst 15 (OF.fst 16 (OF.fst 17 (OF.alt 19 (OF.fst 20 OF.nil) OF.nil)))) OF.nil) OF.nil) OF.nil) OF.nil)) (OF.alt 7 (OF.alt 3 (OF.alt 11 (OF.alt 12 (OF.alt 14 (OF.fst 15 (OF.fst 16 (OF.fst 17 (OF.alt 19 (OF.fst 20 OF.nil) OF.nil)))) OF.nil) OF.nil) OF.nil) (OF.alt 11 (OF.alt 3 (OF.alt 12 (OF.alt 14 (OF.fst 15 (OF.fst 16 (OF.fst 17 (OF.alt 19 (OF.fst 20 OF.nil) OF.nil)))) OF.nil) OF.nil) OF.nil) OF.nil)) (OF.alt 11 (OF.alt 3 (OF.alt 7 (OF.alt 12 (OF.alt 14 (OF.fst 15 (OF.fst 16 (OF.fst 17 (OF.alt 19 (OF.fst 20 OF.nil) OF.nil)))) OF.nil) OF.nil) OF.nil) (OF.alt 7 (OF.alt 3 (OF.alt 12 (OF.alt 14 (OF.fst 15 (OF.fst 16 (OF.fst 17 (OF.alt 19 (OF.fst 20 OF.nil) OF.nil)))) OF.nil) OF.nil) OF.nil) OF.nil)) OF.nil))) OF.nil)))))))))))))) (by kernel_rfl) ?_ | (refine CL.mk (Or.inl ?_); (conv => whnf); refine Cl.is (hcut) rfl (by first | exact fun _ => rfl | fail) ?_) | (refine CL.mk (Or.inr (Raw.callI [] [920] rfl rfl rfl rfl rfl rfl rfl (hmo) ?_)); rintro _ _ ⟨rfl, rfl⟩; refine Bk.mk rfl rfl ?_))
  · intro _ _
    dsimp only
    clear hcut hmo m1 m2 hok q1
    have hrow : ∀ (m : Nat), m < l.length → ∃ e, l[m]? = some e ∧ ∀ {K : List V → Prop} {j : Int}, j = (m : Int) → K e.row → Ix (l.map Ev.row) j K := fun m hm => ⟨l[m], List.getElem?_eq_getElem hm, fun h k => by subst h; exact Ix.map rfl hm k⟩
    have hok2 : ∀ (m : Nat) e, l[m]? = some e → PcOk (evP e) := fun m e h => by
      have ok := hv.ok h
      exact ⟨dottedD_size ok.name.1, nameD_size ok.name.2, ok.line, hn e (List.mem_of_getElem? h)⟩
    unfold atB
    by_cases g1 : q = -1
    · rw [if_pos g1]
      subst g1
      repeat' ((conv => whnf); first | refine Gs.id ?_ | with_reducible refine Brn.T rfl ?_ | refine Drw.of (T := tt) (i := 4) [13] [] [(0, true), (1, true), (2, true), (3, true), (4, true), (5, true), (6, true), (7, true), (8, true), (9, true), (10, false), (11, true), (12, true), (13, false)] (by kernel_rfl) ?_ | (refine CL.mk (Or.inl ?_); (conv => whnf); refine Cl.is (q3) rfl (by first | exact fun _ => rfl | fail) ?_) | fail)
      all_goals (conv => whnf)
      all_goals refine RetO.mk ⟨[(902, .k 902), (1, .k 1), (907, .k 907)], _, _, (by first | exact LeS.d (by first | exact LeD.u rfl | fail) | fail), (by repeat (first | exact LeO.nil | refine LeO.bx rfl rfl (by repeat (first | exact LeL.nil | refine LeL.cons (by first | exact LeD.u rfl | fail) ?_)) ?_ | refine LeO.ab rfl rfl (by repeat (first | exact LeL.nil | refine LeL.cons (by first | exact LeD.p rfl | fail) ?_)) (by first | rfl | fail) ?_ | fail)), rfl, rfl⟩
    · rw [if_neg g1]
      by_cases g2 : q = (l.length : Int)
      · rw [if_pos g2]
        have g3 : ((l.map Ev.row).length : Int) = q := by rw [g2, List.length_map]
        repeat' ((conv => whnf); first | refine Gs.id ?_ | with_reducible refine Brn.T rfl ?_ | refine Brn.T (by (try simp only [smT]); first | rfl | assumption | fail) ?_ | refine Brn.F (by (try simp only [smT]); first | rfl | assumption | fail) ?_ | (refine Bnd.mk (fun hm => ?_); (try simp only [smT] at hm)) | refine Drw.of (T := tt) (i := 4) [13] [] [(0, true), (1, true), (2, true), (3, true), (4, true), (5, true), (6, true), (7, true), (8, true), (9, true), (10, false), (11, true), (12, true), (13, false)] (by kernel_rfl) ?_ | (refine CL.mk (Or.inl ?_); (conv => whnf); refine Cl.is (q3) rfl (by first | exact fun _ => rfl | fail) ?_) | fail)
        all_goals (conv => whnf)
        all_goals first | (exfalso; simp at *; omega) | (refine RetO.mk ⟨[(902, .k 902), (1, .k 1), (907, .k 907)], _, _, (by first | exact LeS.d (by first | exact LeD.u rfl | fail) | fail), (by repeat (first | exact LeO.nil | refine LeO.bx rfl rfl (by repeat (first | exact LeL.nil | refine LeL.cons (by first | exact LeD.u rfl | fail) ?_)) ?_ | refine LeO.ab rfl rfl (by repeat (first | exact LeL.nil | refine LeL.cons (by first | exact LeD.p rfl | fail) ?_)) (by first | rfl | fail) ?_ | fail)), rfl, rfl⟩)
      · rw [if_neg g2]
        obtain ⟨m, rfl⟩ : ∃ m : Nat, q = m := ⟨q.toNat, by omega⟩
        obtain ⟨e, hme, hrw⟩ := hrow m (by omega)
        have hpk := hok2 m e hme
        rw [Int.toNat_natCast, hme]
        dsimp only
        have hwh := where_T (evP e) (by have := hpk.lo; omega) hpk.hi (by have := hpk.md; omega) (by have := hpk.fn; omega) zt hz
        generalize whereB (evP e) = wq at *
        clear hrow hok2
        have g4 : ((l.map Ev.row).length : Int) = (l.length : Int) := by rw [List.length_map]
        repeat' ((conv => whnf); first | refine hrw rfl ?_ | refine Gs.id ?_ | with_reducible refine Brn.T rfl ?_ | with_reducible refine Brn.F rfl ?_ | refine Brn.F (by (try simp only [smT]); first | rfl | assumption | fail) ?_ | (refine Bnd.mk (fun hm => ?_); (try simp only [smT] at hm)) | refine Drw.of (T := tt) (i := 4) [13] [] [(0, true), (1, true), (2, true), (3, true), (4, true), (5, true), (6, true), (7, true), (8, true), (9, true), (10, false), (11, true), (12, true), (13, false)] (by kernel_rfl) ?_ | refine Drw.of (T := tt) (i := 10) [11] [] [(0, true), (1, true), (2, true), (3, true), (4, true), (5, true), (6, true), (7, true), (8, true), (9, true), (10, false), (11, false)] (by kernel_rfl) ?_ | (refine CL.mk (Or.inl ?_); (conv => whnf); refine Cl.is (q3) rfl (by first | exact fun _ => rfl | fail) ?_) | (refine CL.mk (Or.inr (Raw.callI [907] [907] rfl rfl rfl rfl rfl rfl rfl (hwh) ?_)); rintro _ _ ⟨rfl, rfl⟩; refine Bk.mk rfl rfl ?_))
        all_goals (conv => whnf)
        all_goals first | (exfalso; simp at *; omega) | (refine RetO.mk ⟨[(902, .k 902), (1, .k 1), (907, .k 907)], _, _, (by first | exact LeS.d (by first | exact LeD.u rfl | fail) | fail), (by repeat (first | exact LeO.nil | refine LeO.bx rfl rfl (by repeat (first | exact LeL.nil | refine LeL.cons (by first | exact LeD.u rfl | fail) ?_)) ?_ | refine LeO.ab rfl rfl (by repeat (first | exact LeL.nil | refine LeL.cons (by first | exact LeD.p rfl | fail) ?_)) (by first | rfl | fail) ?_ | fail)), rfl, rfl⟩)
end Go.Proofs.YtabmcfnefjipbaaGreatDoor
namespace Go.Proofs.YtabmcfnefjipbaaGreatDoor
open Go.RowKit
set_option maxHeartbeats 8000000 in
theorem doA_clear (us : List Value) (zb : Fz) {l : List Ev} (hv : Vd l) (hL : l.length ≤ 20000) (he : ∀ e ∈ l, e.locs.length ≤ 9000000000) (hn : ∀ e ∈ l, e.line ≤ 9223372036854775807) (p : Int) (hp : -1 ≤ p ∧ p ≤ (l.length : Int)) (bs : List Bp) (hb : bs.length ≤ 1000) (c : ByteArray) (hc : c.size ≤ 4000) (zt : Fz) (hz : Tab zt) (hcm : cmdM (depM l p) bs c = none) (c1 : c = clearK) :
    CallsA Tryz.prog 65 [.d (.p 1 0), dsr c] [(902, .ab [.p 1 0] us zb (· = [])), (1, .bx 120 (sesV l p bs)), (907, tbOb zt)] (Iso (dsr (clearedB)) [(902, .ab [.p 1 0] us zb (· = [])), (1, .bx 120 (sesV l (p) ([]))), (907, tbOb zt)]) := by
  have hcut := cutJ_T c (by omega)
  have hmo : CallsA Tryz.prog 54 [.d (.u (evs l)), .d (.u (bkV bs)), di p] [] (Iso (.d (.mp 920)) [(920, .mp false true (motE (depM l p) (bkV bs)))]) := by
    cases bs with
    | nil => exact motions0_T l p hp
    | cons b r => exact motions_T l (b :: r) p hp
  have hmk : ∀ e ∈ l, CallsA Tryz.prog 89 [.a e.ds, .d (.q [bkV bs] 0)] [] (Is (db (bs.any (hitB e)))) := by
    intro e q
    cases bs with
    | nil => exact mrk0_T e (he e q)
    | cons b r => exact mrk_T (b :: r) e (he e q) (by omega)
  obtain ⟨m1, m2⟩ := motE_get (depM l p) (bkV bs) c zMot
  have hok := motE_ok (depM l p) (bkV bs)
  rw [cmd_none hcm] at m1 m2
  clear hmk hcm
  refine callsA_of_rdO (T := tt) Tryz.func65 rfl rfl rfl rfl rfl ?_
  refine' cutR (fun _ : Unit => True) (fun _ => ⟨[(0, .d (.p 1 0)), (1, dsr c), (5, dsr (cutW c)), (6, dsr (cutR' c)), (9, db false)], [(902, .ab [.p 1 0] us zb (· = [])), (1, .bx 120 (sesV l p bs)), (907, tbOb zt)]⟩) _ (fun hR => ?_) ?_
  rotate_left
  · repeat' ((conv => whnf); first | refine Mlk.of zMot false (by kernel_rfl) hok m1 m2 ?_ | (exact Gs.cut (i := 3) (by assumption) () [(902, .k 902), (1, .k 1), (907, .k 907)] rfl ⟨by (try dsimp only); (repeat (refine LeT.cons rfl (by first | exact LeS.d (by first | exact LeD.u rfl | exact LeD.p rfl | fail) | fail) ?_)); (first | exact LeT.nil | fail), by (try dsimp only); (repeat (first | exact LeO.nil | refine LeO.bx rfl rfl (by repeat (first | exact LeL.nil | refine LeL.cons (by first | exact LeD.u rfl | fail) ?_)) ?_ | refine LeO.ab rfl rfl (by repeat (first | exact LeL.nil | refine LeL.cons (by first | exact LeD.p rfl | fail) ?_)) (by first | rfl | fail) ?_ | fail)); done⟩ (by trivial)) | refine Gs.id ?_ | with_reducible refine And.intro ?_ ?_ | refine Drw.ofT (T := tt) (i := 2) [3, 7, 11, 12, 14, 18, 19] [0, 1, 2, 4, 5, 6, 8, 9, 10, 13, 15, 16, 17, 20] (OF.fst 0 (OF.fst 1 (OF.fst 2 (OF.fst 4 (OF.fst 5 (OF.fst 6 (OF.fst 8 (OF.fst 9 (OF.fst 10 (OF.fst 13 (OF.alt 3 (OF.alt 7 (OF.alt 11 (OF.alt 12 (OF.alt 14 (OF.fst 15 (OF.fst 16 (OF.fst 17 (OF.alt 18 (OF.alt 19 (OF.fst 20 OF.nil) OF.nil) OF.nil)))) (OF.alt 18 (OF.alt 14 (OF.fst 15 (OF.fst 16 (OF.fst 17 (OF.alt 19 (OF.fst 20 OF.nil) OF.nil)))) OF.nil) OF.nil)) (OF.alt 18 (OF.alt 12 (OF.alt 14 (OF.fst 15 (OF.fst 16 (OF.fst 17 (OF.alt 19 (OF.fst 20 OF.nil) OF.nil)))) OF.nil) OF.nil) OF.nil)) (OF.alt 18 (OF.alt 11 (OF.alt 12 (OF.alt 14 (OF.fst 15 (OF.fst 16 (OF.fst 17 (OF.alt 19 (OF.fst 20 OF.nil) OF.nil)))) OF.nil) OF.nil) OF.nil) OF.nil)) (OF.alt 11 (OF.alt 7 (OF.alt 12 (OF.alt 14 (OF.fst 15 (OF.fst 16 (OF.fst 17 (OF.alt 18 (OF.alt 19 (OF.fst 20 OF.nil) OF.nil) OF.nil)))) (OF.alt 18 (OF.alt 14 (OF.fst 15 (OF.fst 16 (OF.fst 17 (OF.alt 19 (OF.fst 20 OF.nil) OF.nil)))) OF.nil) OF.nil)) (OF.alt 18 (OF.alt 12 (OF.alt 14 (OF.fst 15 (OF.fst 16 (OF.fst 17 (OF.alt 19 (OF.fst 20 OF.nil) OF.nil)))) OF.nil) OF.nil) OF.nil)) (OF.alt 18 (OF.alt 7 (OF.alt 12 (OF.alt 14 (OF.fst 15 (OF.fst 16 (OF.fst 17 (OF.alt 19 (OF.fst 20 OF.nil) OF.nil)))) OF.nil) OF.nil) OF.nil) OF.nil)) (OF.alt 18 (OF.alt 7 (OF.alt 11 (OF.alt 12 (OF.alt 14 (OF.fst 15 (OF.fst 16 (OF.fst 17 (OF.alt 19 (OF.fst 20 OF.nil) OF.nil)))) OF.nil) OF.nil) OF.nil) (OF.alt 11 (OF.alt 7 (OF.alt 12 (OF.alt 14 (OF.fst 15 (OF.fst 16 (OF.fst 17 (OF.alt 19 (OF.fst 20 OF.nil) OF.nil)))) OF.nil) OF.nil) OF.nil) OF.nil)) OF.nil))) (OF.alt 7 (OF.alt 3 (OF.alt 11 (OF.alt 12 (OF.alt 14 (OF.fst 15 (OF.fst 16 (OF.fst 17 (OF.alt 18 (OF.alt 19 (OF.fst 20 OF.nil) OF.nil) OF.nil)))) (OF.alt 18 (OF.alt 14 (OF.fst 15 (OF.fst 16 (OF.fst 17 (OF.alt 19 (OF.fst 20 OF.nil) OF.nil)))) OF.nil) OF.nil)) (OF.alt 18 (OF.alt 12 (OF.alt 14 (OF.fst 15 (OF.fst 16 (OF.fst 17 (OF.alt 19 (OF.fst 20 OF.nil) OF.nil)))) OF.nil) OF.nil) OF.nil)) (OF.alt 18 (OF.alt 11 (OF.alt 12 (OF.alt 14 (OF.fst 15 (OF.fst 16 (OF.fst 17 (OF.alt 19 (OF.fst 20 OF.nil) OF.nil)))) OF.nil) OF.nil) OF.nil) OF.nil)) (OF.alt 11 (OF.alt 3 (OF.alt 12 (OF.alt 14 (OF.fst 15 (OF.fst 16 (OF.fst 17 (OF.alt 18 (OF.alt 19 (OF.fst 20 OF.nil) OF.nil) OF.nil)))) (OF.alt 18 (OF.alt 14 (OF.fst 15 (OF.fst 16 (OF.fst 17 (OF.alt 19 (OF.fst 20 OF.nil) OF.nil)))) OF.nil) OF.nil)) (OF.alt 18 (OF.alt 12 (OF.alt 14 (OF.fst 15 (OF.fst 16 (OF.fst 17 (OF.alt 19 (OF.fst 20 OF.nil) OF.nil)))) OF.nil) OF.nil) OF.nil)) (OF.alt 18 (OF.alt 3 (OF.alt 12 (OF.alt 14 (OF.fst 15 (OF.fst 16 (OF.fst 17 (OF.alt 19 (OF.fst 20 OF.nil) OF.nil)))) OF.nil) OF.nil) OF.nil) OF.nil)) (OF.alt 18 (OF.alt 3 (OF.alt 11 (OF.alt 12 (OF.alt 14 (OF.fst 15 (OF.fst 16 (OF.fst 17 (OF.alt 19 (OF.fst 20 OF.nil) OF.nil)))) OF.nil) OF.nil) OF.nil) (OF.alt 11 (OF.alt 3 (OF.alt 12 (OF.alt 14 (OF.fst 15 (OF.fst 16 (OF.fst 17 (OF.alt 19 (OF.fst 20 OF.nil) OF.nil)))) OF.nil) OF.nil) OF.nil) OF.nil)) OF.nil))) (OF.alt 11 (OF.alt 3 (OF.alt 7 (OF.alt 12 (OF.alt 14 (OF.fst 15 (OF.fst 16 (OF.fst 17 (OF.alt 18 (OF.alt 19 (OF.fst 20 OF.nil) OF.nil) OF.nil)))) (OF.alt 18 (OF.alt 14 (OF.fst 15 (OF.fst 16 (OF.fst 17 (OF.alt 19 (OF.fst 20 OF.nil) OF.nil)))) OF.nil) OF.nil)) (OF.alt 18 (OF.alt 12 (OF.alt 14 (OF.fst 15 (OF.fst 16 (OF.fst 17 (OF.alt 19 (OF.fst 20 OF.nil) OF.nil)))) OF.nil) OF.nil) OF.nil)) (OF.alt 18 (OF.alt 7 (OF.alt 12 (OF.alt 14 (OF.fst 15 (OF.fst 16 (OF.fst 17 (OF.alt 19 (OF.fst 20 OF.nil) OF.nil)))) OF.nil) OF.nil) OF.nil) OF.nil)) (OF.alt 7 (OF.alt 3 (OF.alt 12 (OF.alt 14 (OF.fst 15 (OF.fst 16 (OF.fst 17 (OF.alt 18 (OF.alt 19 (OF.fst 20 OF.nil) OF.nil) OF.nil)))) (OF.alt 18 (OF.alt 14 (OF.fst 15 (OF.fst 16 (OF.fst 17 (OF.alt 19 (OF.fst 20 OF.nil) OF.nil)))) OF.nil) OF.nil)) (OF.alt 18 (OF.alt 12 (OF.alt 14 (OF.fst 15 (OF.fst 16 (OF.fst 17 (OF.alt 19 (OF.fst 20 OF.nil) OF.nil)))) OF.nil) OF.nil) OF.nil)) (OF.alt 18 (OF.alt 3 (OF.alt 12 (OF.alt 14 (OF.fst 15 (OF.fst 16 (OF.fst 17 (OF.alt 19 (OF.fst 20 OF.nil) OF.nil)))) OF.nil) OF.nil) OF.nil) OF.nil)) (OF.alt 18 (OF.alt 3 (OF.alt 7 (OF.alt 12 (OF.alt 14 (OF.fst 15 (OF.fst 16 (OF.fst 17 (OF.alt 19 (OF.fst 20 OF.nil) OF.nil)))) OF.nil) OF.nil) OF.nil) (OF.alt 7 (OF.alt 3 (OF.alt 12 (OF.alt 14 (OF.fst 15 (OF.fst 16 (OF.fst 17 (OF.alt 19 (OF.fst 20 OF.nil) OF.nil)))) OF.nil) OF.nil) OF.nil) OF.nil)) OF.nil))) (OF.alt 18 (OF.alt 3 (OF.alt 7 (OF.alt 11 (OF.alt 12 (OF.alt 14 (OF.fst 15 (OF.fst 16 (OF.fst 17 (OF.alt 19 (OF.fst 20 OF.nil) OF.nil)))) OF.nil) OF.nil) OF.nil) (OF.alt 11 (OF.alt 7 (OF.alt 12 (OF.alt 14 (OF.fst 15 (OF.fst 16 (OF.fst 17 (OF.alt 19 (OF.fst 20 OF.nil) OF.nil)))) OF.nil) OF.nil) OF.nil) OF.nil)) (OF.alt 7 (OF.alt 3 (OF.alt 11 (OF.alt 12 (OF.alt 14 (OF.fst 15 (OF.fst 16 (OF.fst 17 (OF.alt 19 (OF.fst 20 OF.nil) OF.nil)))) OF.nil) OF.nil) OF.nil) (OF.alt 11 (OF.alt 3 (OF.alt 12 (OF.alt 14 (OF.fst 15 (OF.fst 16 (OF.fst 17 (OF.alt 19 (OF.fst 20 OF.nil) OF.nil)))) OF.nil) OF.nil) OF.nil) OF.nil)) (OF.alt 11 (OF.alt 3 (OF.alt 7 (OF.alt 12 (OF.alt 14 (OF.fst 15 (OF.fst 16 (OF.fst 17 (OF.alt 19 (OF.fst 20 OF.nil) OF.nil)))) OF.nil) OF.nil) OF.nil) (OF.alt 7 (OF.alt 3 (OF.alt 12 (OF.alt 14 (OF.fst 15 (OF.fst 16 (OF.fst 17 (OF.alt 19 (OF.fst 20 OF.nil) OF.nil)))) OF.nil) OF.nil) OF.nil) OF.nil)) OF.nil))) OF.nil)))))))))))))) (by kernel_rfl) ?_ | (refine CL.mk (Or.inl ?_); (conv => whnf); refine Cl.is (hcut) rfl (by first | exact fun _ => rfl | fail) ?_) | (refine CL.mk (Or.inr (Raw.callI [] [920] rfl rfl rfl rfl rfl rfl rfl (hmo) ?_)); rintro _ _ ⟨rfl, rfl⟩; refine Bk.mk rfl rfl ?_)) --D
  · intro _ _
    dsimp only
    clear hcut hmo m1 m2 hok
    have hcs := cutR_size c
    have hsp := splitN_T (cutR' c) (by omega)
    have hst := hasShow_T c
    have hsh := show_T hv hL he p hp (cutR' c)
    have hnm := isName_T' (cutR' c)
    have hlw : ((strs (spN 3 (cutR' c))).length : Int) = ((spN 3 (cutR' c)).length : Int) := by simp
    have t1 := toList_beq c clearK
    have t2 := toList_beq c whereK
    have t3 := toList_beq (cutW c) breakK
    have hadd := fun h => add_P l p bs (spN 3 (cutR' c)) hb h
    generalize spN 3 (cutR' c) = ws at *
    generalize cutR' c = rest at *
    generalize cutW c = word at *
    generalize showM l p rest = o at *
    generalize isShow c = bsh at *
    generalize nameB rest = bnm at *
    rw [decide_eq_true c1] at t1
    clear hadd hsh hnm hst t2 t3
    repeat' ((conv => whnf); first | rw [t1] | refine Gs.id ?_ | with_reducible refine Brn.T rfl ?_ | with_reducible refine Brn.F rfl ?_ | (refine CL.mk (Or.inl ?_); (conv => whnf); refine Cl.is (hsp) rfl (by first | (intro e; cases e; done) | fail) ?_) | fail)
    all_goals (conv => whnf)
    all_goals refine RetO.mk ⟨[(902, .k 902), (1, .k 1), (907, .k 907)], _, _, (by first | exact LeS.d (by first | exact LeD.u rfl | fail) | fail), (by repeat (first | exact LeO.nil | refine LeO.bx rfl rfl (by repeat (first | exact LeL.nil | refine LeL.cons (by first | exact LeD.u rfl | fail) ?_)) ?_ | refine LeO.ab rfl rfl (by repeat (first | exact LeL.nil | refine LeL.cons (by first | exact LeD.p rfl | fail) ?_)) (by first | rfl | fail) ?_ | fail)), rfl, rfl⟩
end Go.Proofs.YtabmcfnefjipbaaGreatDoor
namespace Go.Proofs.YtabmcfnefjipbaaGreatDoor
open Go.RowKit
set_option maxHeartbeats 8000000 in
theorem doA_where (us : List Value) (zb : Fz) {l : List Ev} (hv : Vd l) (hL : l.length ≤ 20000) (he : ∀ e ∈ l, e.locs.length ≤ 9000000000) (hn : ∀ e ∈ l, e.line ≤ 9223372036854775807) (p : Int) (hp : -1 ≤ p ∧ p ≤ (l.length : Int)) (bs : List Bp) (hb : bs.length ≤ 1000) (c : ByteArray) (hc : c.size ≤ 4000) (zt : Fz) (hz : Tab zt) (hcm : cmdM (depM l p) bs c = none) (c1 : c ≠ clearK) (c2 : c = whereK) :
    CallsA Tryz.prog 65 [.d (.p 1 0), dsr c] [(902, .ab [.p 1 0] us zb (· = [])), (1, .bx 120 (sesV l p bs)), (907, tbOb zt)] (Iso (dsr (whereL ((activeM l p).map Av.pc))) [(902, .ab [.p 1 0] us zb (· = [])), (1, .bx 120 (sesV l (p) (bs))), (907, tbOb zt)]) := by
  have hcut := cutJ_T c (by omega)
  have hmo : CallsA Tryz.prog 54 [.d (.u (evs l)), .d (.u (bkV bs)), di p] [] (Iso (.d (.mp 920)) [(920, .mp false true (motE (depM l p) (bkV bs)))]) := by
    cases bs with
    | nil => exact motions0_T l p hp
    | cons b r => exact motions_T l (b :: r) p hp
  have hmk : ∀ e ∈ l, CallsA Tryz.prog 89 [.a e.ds, .d (.q [bkV bs] 0)] [] (Is (db (bs.any (hitB e)))) := by
    intro e q
    cases bs with
    | nil => exact mrk0_T e (he e q)
    | cons b r => exact mrk_T (b :: r) e (he e q) (by omega)
  obtain ⟨m1, m2⟩ := motE_get (depM l p) (bkV bs) c zMot
  have hok := motE_ok (depM l p) (bkV bs)
  rw [cmd_none hcm] at m1 m2
  clear hmk hcm
  refine callsA_of_rdO (T := tt) Tryz.func65 rfl rfl rfl rfl rfl ?_
  refine' cutR (fun _ : Unit => True) (fun _ => ⟨[(0, .d (.p 1 0)), (1, dsr c), (5, dsr (cutW c)), (6, dsr (cutR' c)), (9, db false)], [(902, .ab [.p 1 0] us zb (· = [])), (1, .bx 120 (sesV l p bs)), (907, tbOb zt)]⟩) _ (fun hR => ?_) ?_
  rotate_left
  · repeat' ((conv => whnf); first | refine Mlk.of zMot false (by kernel_rfl) hok m1 m2 ?_ | (exact Gs.cut (i := 3) (by assumption) () [(902, .k 902), (1, .k 1), (907, .k 907)] rfl ⟨by (try dsimp only); (repeat (refine LeT.cons rfl (by first | exact LeS.d (by first | exact LeD.u rfl | exact LeD.p rfl | fail) | fail) ?_)); (first | exact LeT.nil | fail), by (try dsimp only); (repeat (first | exact LeO.nil | refine LeO.bx rfl rfl (by repeat (first | exact LeL.nil | refine LeL.cons (by first | exact LeD.u rfl | fail) ?_)) ?_ | refine LeO.ab rfl rfl (by repeat (first | exact LeL.nil | refine LeL.cons (by first | exact LeD.p rfl | fail) ?_)) (by first | rfl | fail) ?_ | fail)); done⟩ (by trivial)) | refine Gs.id ?_ | with_reducible refine And.intro ?_ ?_ | refine Drw.ofT (T := tt) (i := 2) [3, 7, 11, 12, 14, 18, 19] [0, 1, 2, 4, 5, 6, 8, 9, 10, 13, 15, 16, 17, 20] (OF.fst 0 (OF.fst 1 (OF.fst 2 (OF.fst 4 (OF.fst 5 (OF.fst 6 (OF.fst 8 (OF.fst 9 (OF.fst 10 (OF.fst 13 (OF.alt 3 (OF.alt 7 (OF.alt 11 (OF.alt 12 (OF.alt 14 (OF.fst 15 (OF.fst 16 (OF.fst 17 (OF.alt 18 (OF.alt 19 (OF.fst 20 OF.nil) OF.nil) OF.nil)))) (OF.alt 18 (OF.alt 14 (OF.fst 15 (OF.fst 16 (OF.fst 17 (OF.alt 19 (OF.fst 20 OF.nil) OF.nil)))) OF.nil) OF.nil)) (OF.alt 18 (OF.alt 12 (OF.alt 14 (OF.fst 15 (OF.fst 16 (OF.fst 17 (OF.alt 19 (OF.fst 20 OF.nil) OF.nil)))) OF.nil) OF.nil) OF.nil)) (OF.alt 18 (OF.alt 11 (OF.alt 12 (OF.alt 14 (OF.fst 15 (OF.fst 16 (OF.fst 17 (OF.alt 19 (OF.fst 20 OF.nil) OF.nil)))) OF.nil) OF.nil) OF.nil) OF.nil)) (OF.alt 11 (OF.alt 7 (OF.alt 12 (OF.alt 14 (OF.fst 15 (OF.fst 16 (OF.fst 17 (OF.alt 18 (OF.alt 19 (OF.fst 20 OF.nil) OF.nil) OF.nil)))) (OF.alt 18 (OF.alt 14 (OF.fst 15 (OF.fst 16 (OF.fst 17 (OF.alt 19 (OF.fst 20 OF.nil) OF.nil)))) OF.nil) OF.nil)) (OF.alt 18 (OF.alt 12 (OF.alt 14 (OF.fst 15 (OF.fst 16 (OF.fst 17 (OF.alt 19 (OF.fst 20 OF.nil) OF.nil)))) OF.nil) OF.nil) OF.nil)) (OF.alt 18 (OF.alt 7 (OF.alt 12 (OF.alt 14 (OF.fst 15 (OF.fst 16 (OF.fst 17 (OF.alt 19 (OF.fst 20 OF.nil) OF.nil)))) OF.nil) OF.nil) OF.nil) OF.nil)) (OF.alt 18 (OF.alt 7 (OF.alt 11 (OF.alt 12 (OF.alt 14 (OF.fst 15 (OF.fst 16 (OF.fst 17 (OF.alt 19 (OF.fst 20 OF.nil) OF.nil)))) OF.nil) OF.nil) OF.nil) (OF.alt 11 (OF.alt 7 (OF.alt 12 (OF.alt 14 (OF.fst 15 (OF.fst 16 (OF.fst 17 (OF.alt 19 (OF.fst 20 OF.nil) OF.nil)))) OF.nil) OF.nil) OF.nil) OF.nil)) OF.nil))) (OF.alt 7 (OF.alt 3 (OF.alt 11 (OF.alt 12 (OF.alt 14 (OF.fst 15 (OF.fst 16 (OF.fst 17 (OF.alt 18 (OF.alt 19 (OF.fst 20 OF.nil) OF.nil) OF.nil)))) (OF.alt 18 (OF.alt 14 (OF.fst 15 (OF.fst 16 (OF.fst 17 (OF.alt 19 (OF.fst 20 OF.nil) OF.nil)))) OF.nil) OF.nil)) (OF.alt 18 (OF.alt 12 (OF.alt 14 (OF.fst 15 (OF.fst 16 (OF.fst 17 (OF.alt 19 (OF.fst 20 OF.nil) OF.nil)))) OF.nil) OF.nil) OF.nil)) (OF.alt 18 (OF.alt 11 (OF.alt 12 (OF.alt 14 (OF.fst 15 (OF.fst 16 (OF.fst 17 (OF.alt 19 (OF.fst 20 OF.nil) OF.nil)))) OF.nil) OF.nil) OF.nil) OF.nil)) (OF.alt 11 (OF.alt 3 (OF.alt 12 (OF.alt 14 (OF.fst 15 (OF.fst 16 (OF.fst 17 (OF.alt 18 (OF.alt 19 (OF.fst 20 OF.nil) OF.nil) OF.nil)))) (OF.alt 18 (OF.alt 14 (OF.fst 15 (OF.fst 16 (OF.fst 17 (OF.alt 19 (OF.fst 20 OF.nil) OF.nil)))) OF.nil) OF.nil)) (OF.alt 18 (OF.alt 12 (OF.alt 14 (OF.fst 15 (OF.fst 16 (OF.fst 17 (OF.alt 19 (OF.fst 20 OF.nil) OF.nil)))) OF.nil) OF.nil) OF.nil)) (OF.alt 18 (OF.alt 3 (OF.alt 12 (OF.alt 14 (OF.fst 15 (OF.fst 16 (OF.fst 17 (OF.alt 19 (OF.fst 20 OF.nil) OF.nil)))) OF.nil) OF.nil) OF.nil) OF.nil)) (OF.alt 18 (OF.alt 3 (OF.alt 11 (OF.alt 12 (OF.alt 14 (OF.fst 15 (OF.fst 16 (OF.fst 17 (OF.alt 19 (OF.fst 20 OF.nil) OF.nil)))) OF.nil) OF.nil) OF.nil) (OF.alt 11 (OF.alt 3 (OF.alt 12 (OF.alt 14 (OF.fst 15 (OF.fst 16 (OF.fst 17 (OF.alt 19 (OF.fst 20 OF.nil) OF.nil)))) OF.nil) OF.nil) OF.nil) OF.nil)) OF.nil))) (OF.alt 11 (OF.alt 3 (OF.alt 7 (OF.alt 12 (OF.alt 14 (OF.fst 15 (OF.fst 16 (OF.fst 17 (OF.alt 18 (OF.alt 19 (OF.fst 20 OF.nil) OF.nil) OF.nil)))) (OF.alt 18 (OF.alt 14 (OF.fst 15 (OF.fst 16 (OF.fst 17 (OF.alt 19 (OF.fst 20 OF.nil) OF.nil)))) OF.nil) OF.nil)) (OF.alt 18 (OF.alt 12 (OF.alt 14 (OF.fst 15 (OF.fst 16 (OF.fst 17 (OF.alt 19 (OF.fst 20 OF.nil) OF.nil)))) OF.nil) OF.nil) OF.nil)) (OF.alt 18 (OF.alt 7 (OF.alt 12 (OF.alt 14 (OF.fst 15 (OF.fst 16 (OF.fst 17 (OF.alt 19 (OF.fst 20 OF.nil) OF.nil)))) OF.nil) OF.nil) OF.nil) OF.nil)) (OF.alt 7 (OF.alt 3 (OF.alt 12 (OF.alt 14 (OF.fst 15 (OF.fst 16 (OF.fst 17 (OF.alt 18 (OF.alt 19 (OF.fst 20 OF.nil) OF.nil) OF.nil)))) (OF.alt 18 (OF.alt 14 (OF.fst 15 (OF.fst 16 (OF.fst 17 (OF.alt 19 (OF.fst 20 OF.nil) OF.nil)))) OF.nil) OF.nil)) (OF.alt 18 (OF.alt 12 (OF.alt 14 (OF.fst 15 (OF.fst 16 (OF.fst 17 (OF.alt 19 (OF.fst 20 OF.nil) OF.nil)))) OF.nil) OF.nil) OF.nil)) (OF.alt 18 (OF.alt 3 (OF.alt 12 (OF.alt 14 (OF.fst 15 (OF.fst 16 (OF.fst 17 (OF.alt 19 (OF.fst 20 OF.nil) OF.nil)))) OF.nil) OF.nil) OF.nil) OF.nil)) (OF.alt 18 (OF.alt 3 (OF.alt 7 (OF.alt 12 (OF.alt 14 (OF.fst 15 (OF.fst 16 (OF.fst 17 (OF.alt 19 (OF.fst 20 OF.nil) OF.nil)))) OF.nil) OF.nil) OF.nil) (OF.alt 7 (OF.alt 3 (OF.alt 12 (OF.alt 14 (OF.fst 15 (OF.fst 16 (OF.fst 17 (OF.alt 19 (OF.fst 20 OF.nil) OF.nil)))) OF.nil) OF.nil) OF.nil) OF.nil)) OF.nil))) (OF.alt 18 (OF.alt 3 (OF.alt 7 (OF.alt 11 (OF.alt 12 (OF.alt 14 (OF.fst 15 (OF.fst 16 (OF.fst 17 (OF.alt 19 (OF.fst 20 OF.nil) OF.nil)))) OF.nil) OF.nil) OF.nil) (OF.alt 11 (OF.alt 7 (OF.alt 12 (OF.alt 14 (OF.fst 15 (OF.fst 16 (OF.fst 17 (OF.alt 19 (OF.fst 20 OF.nil) OF.nil)))) OF.nil) OF.nil) OF.nil) OF.nil)) (OF.alt 7 (OF.alt 3 (OF.alt 11 (OF.alt 12 (OF.alt 14 (OF.fst 15 (OF.fst 16 (OF.fst 17 (OF.alt 19 (OF.fst 20 OF.nil) OF.nil)))) OF.nil) OF.nil) OF.nil) (OF.alt 11 (OF.alt 3 (OF.alt 12 (OF.alt 14 (OF.fst 15 (OF.fst 16 (OF.fst 17 (OF.alt 19 (OF.fst 20 OF.nil) OF.nil)))) OF.nil) OF.nil) OF.nil) OF.nil)) (OF.alt 11 (OF.alt 3 (OF.alt 7 (OF.alt 12 (OF.alt 14 (OF.fst 15 (OF.fst 16 (OF.fst 17 (OF.alt 19 (OF.fst 20 OF.nil) OF.nil)))) OF.nil) OF.nil) OF.nil) (OF.alt 7 (OF.alt 3 (OF.alt 12 (OF.alt 14 (OF.fst 15 (OF.fst 16 (OF.fst 17 (OF.alt 19 (OF.fst 20 OF.nil) OF.nil)))) OF.nil) OF.nil) OF.nil) OF.nil)) OF.nil))) OF.nil)))))))))))))) (by kernel_rfl) ?_ | (refine CL.mk (Or.inl ?_); (conv => whnf); refine Cl.is (hcut) rfl (by first | exact fun _ => rfl | fail) ?_) | (refine CL.mk (Or.inr (Raw.callI [] [920] rfl rfl rfl rfl rfl rfl rfl (hmo) ?_)); rintro _ _ ⟨rfl, rfl⟩; refine Bk.mk rfl rfl ?_)) --D
  · intro _ _
    dsimp only
    clear hcut hmo m1 m2 hok
    have hcs := cutR_size c
    have hsp := splitN_T (cutR' c) (by omega)
    have hst := hasShow_T c
    have hsh := show_T hv hL he p hp (cutR' c)
    have hnm := isName_T' (cutR' c)
    have hlw : ((strs (spN 3 (cutR' c))).length : Int) = ((spN 3 (cutR' c)).length : Int) := by simp
    have t1 := toList_beq c clearK
    have t2 := toList_beq c whereK
    have t3 := toList_beq (cutW c) breakK
    have hadd := fun h => add_P l p bs (spN 3 (cutR' c)) hb h
    generalize spN 3 (cutR' c) = ws at *
    generalize cutR' c = rest at *
    generalize cutW c = word at *
    generalize showM l p rest = o at *
    generalize isShow c = bsh at *
    generalize nameB rest = bnm at *
    rw [decide_eq_false c1] at t1
    rw [decide_eq_true c2] at t2
    clear hadd hsh hnm hst t3
    have hac := active_T hv hL p hp
    have hal := activeM_len hp
    have hpl := places_T (activeM l p) (by omega)
    have hpo := activeM_ok hv hn hp
    obtain ⟨ps, hps⟩ : ∃ ps, (activeM l p).map Av.pc = ps := ⟨_, rfl⟩
    have hpn : ps.length ≤ 20001 := by rw [← hps, List.length_map]; omega
    rw [hps] at hpl hpo ⊢
    have hbw := bwd0_T ps
    generalize activeM l p = s at *
    clear hps hal
    have htt : total (ps.reverse.map whereB) semiSp (ps.reverse.map whereB).length ≤ 100000000000 := by
      have q := total_leD (sep := semiSp) (m := 110) (l := ps.reverse.map whereB) (fun x hx => by
        obtain ⟨y, hy, rfl⟩ := List.mem_map.1 hx
        exact whereB_size (hpo y (List.mem_reverse.1 hy))) (ps.reverse.map whereB).length
      have h2 : semiSp.size = 2 := rfl
      rw [h2] at q
      rw [List.length_map, List.length_reverse] at q ⊢
      have := Nat.mul_le_mul_right (2 + 110) hpn
      omega
    have hjn := sjoin_T (ps.reverse.map whereB) semiSp htt (by simp; omega)
    clear htt
    repeat' ((conv => whnf); first | rw [t1] | rw [t2] | refine Gs.id ?_ | with_reducible refine Brn.T rfl ?_ | with_reducible refine Brn.F rfl ?_ | refine Drw.of (T := tt) (i := 18) [] [] [(0, true), (1, true), (2, true), (3, true), (4, true), (5, true), (6, true), (7, true), (8, false), (9, false), (10, false)] (by kernel_rfl) ?_ | (refine CL.mk (Or.inl ?_); (conv => whnf); first | refine Cl.is (hsp) rfl (by first | (intro e; cases e; done) | fail) ?_ | refine Cl.is (hac) rfl (by first | (intro e; cases e; done) | fail) ?_ | refine Cl.is (hpl) rfl (by first | (intro e; cases e; done) | fail) ?_ | refine Cl.is (hbw) rfl (by first | (intro e; cases e; done) | fail) ?_) | fail)
    all_goals (conv => whnf)
    refine ⟨⟨[(1, .k 1), (902, .k 902), (12, .k 12), (901, .n 1), (907, .k 907)], [(12, .d (.p 12 0)), (107, .d (.u (bwdV ps)))], whOb zt ps 0, 1, 902, 120, [evs l, .int .i64 p, bkV bs], us, zb, ⟨by (try dsimp only); (repeat (refine LeT.cons rfl (by first | exact LeS.d (by first | exact LeD.u rfl | exact LeD.p rfl | fail) | fail) ?_)); exact LeT.nil, by (try dsimp only); repeat (first | exact LeO.nil | refine LeO.bx rfl rfl (by repeat (first | exact LeL.nil | refine LeL.cons (by first | exact LeD.u rfl | exact LeD.no rfl rfl | fail) ?_)) ?_ | refine LeO.ab rfl rfl (by repeat (first | exact LeL.nil | refine LeL.cons (by first | exact LeD.p rfl | fail) ?_)) (by first | rfl | fail) ?_ | refine LeO.no rfl rfl ?_)⟩, ?_⟩⟩
    refine ⟨⟨Nat, fun i => i ≤ ps.length, fun i => i = ps.length, fun i ss => ∃ q, i < ps.length ∧ ps[ps.length - 1 - i]? = some q ∧ ss = bwSS ps.length i q, fun i _ => i + 1, fun i => whOb zt ps i, 0, [(12, .d (.p 12 0)), (107, .d (.u (bwdV ps)))], _, [(12, .k 12), (901, .k 901), (907, .k 907)], _, _, 909, [zt], Nat.zero_le _, (by intro z hz; simp at hz; subst hz; exact ⟨907, _, rfl⟩), ⟨by (try dsimp only); (repeat (refine LeT.cons rfl (by first | exact LeS.d (by first | exact LeD.u rfl | exact LeD.p rfl | fail) | fail) ?_)); exact LeT.nil, by (try dsimp only); repeat (first | exact LeO.nil | refine LeO.bx rfl rfl (by repeat (first | exact LeL.nil | refine LeL.cons (by first | exact LeD.ow rfl rfl | fail) ?_)) ?_ | refine LeO.ar rfl rfl (by first | rfl | fail) ?_ | refine LeO.ab rfl rfl (by repeat (first | exact LeL.nil | fail)) (by first | rfl | fail) ?_ | fail)⟩, rfl, rfl, ?_, rfl, fun i _ => whOb_mf zt ps _, ?_, ?_, ?_, ?_⟩⟩
    · simp [nmlS, nmlD]
    · rintro i ss hi ⟨q, hq1, hq2, rfl⟩
      exact ⟨show i + 1 ≤ ps.length by omega, rfl, bwSS_nm _ _ _⟩
    · rintro i ss hi ⟨q, hq1, hq2, rfl⟩ us' zb'
      have hok := hpo q (List.mem_of_getElem? hq2)
      have hwh := where_T q (by have := hok.lo; omega) hok.hi (by have := hok.md; omega) (by have := hok.fn; omega) zt hz
      have hac := accW_succ hq1 hq2
      dsimp only [whOb] at *
      have hal : (accW ps i).length ≤ 20001 := by unfold accW; rw [List.length_take, List.length_map, List.length_reverse]; omega
      generalize accW ps (i + 1) = acc2 at *
      generalize accW ps i = acc at *
      generalize whereB q = wq at *
      subst hac
      clear hjn hbw hpl hpo
      repeat' ((conv => whnf); first | refine Gs.id ?_ | with_reducible refine And.intro ?_ ?_ | refine Apd.mk (by first | rfl | simp) (by first | rfl | fail) (by (try simp only [smT]); first | omega | fail) (by unfold maxLen; first | (simp; omega) | fail) ?_ | refine Drw.ofT (T := tt) (i := 20) [0, 1, 2, 3, 4, 5] [] (OF.alt 0 (OF.alt 1 (OF.alt 2 (OF.alt 3 (OF.alt 4 (OF.alt 5 OF.nil OF.nil) OF.nil) OF.nil) OF.nil) OF.nil) (OF.alt 1 (OF.alt 0 (OF.alt 2 (OF.alt 3 (OF.alt 4 (OF.alt 5 OF.nil OF.nil) OF.nil) OF.nil) OF.nil) (OF.alt 2 (OF.alt 0 (OF.alt 3 (OF.alt 4 (OF.alt 5 OF.nil OF.nil) OF.nil) OF.nil) (OF.alt 3 (OF.alt 0 (OF.alt 4 (OF.alt 5 OF.nil OF.nil) OF.nil) OF.nil) OF.nil)) OF.nil)) OF.nil)) (by kernel_rfl) ?_ | (refine CL.mk (Or.inr (Raw.callI [907] [907] rfl rfl rfl rfl rfl rfl rfl (hwh) ?_)); rintro _ _ ⟨rfl, rfl⟩; refine Bk.mk rfl rfl ?_))
      all_goals (conv => whnf)
      all_goals exact ⟨[(909, .k 909), (12, .k 12), (901, .k 114), (907, .k 907)], (by repeat (first | exact LeO.nil | refine LeO.bx rfl rfl (by repeat (first | exact LeL.nil | refine LeL.cons (by first | exact LeD.ow rfl (by simp) | fail) ?_)) ?_ | refine LeO.ar rfl rfl (by first | rfl | simp) ?_ | refine LeO.ab rfl rfl (by repeat (first | exact LeL.nil | refine LeL.cons (by first | exact LeD.p rfl | fail) ?_)) (by first | rfl | fail) ?_ | fail))⟩
    · intro lp zb' φ hY
      exact (bwd_T (ps := ps) (by omega) lp zb' φ fun i q h1 h2 => hY i _ (by omega) ⟨q, h1, h2, rfl⟩).mono fun s ob h => ⟨ps.length, Nat.le_refl _, rfl, h⟩
    · rintro i hi rfl Dm
      refine ⟨⟨rfl, rfl⟩, ?_⟩
      have hacc : accW ps ps.length = ps.reverse.map whereB := by unfold accW; rw [List.take_of_length_le (by simp)]
      dsimp only [whOb]
      rw [hacc]
      unfold whereL
      by_cases hps : ps = []
      · subst hps
        rw [if_pos rfl]
        repeat' ((conv => whnf); first | refine Gs.id ?_ | with_reducible refine Brn.T rfl ?_ | (refine Bnd.mk (fun hm => ?_); (try simp only [smT] at hm)) | fail)
        all_goals (conv => whnf)
        all_goals first | (exfalso; simp at *; done) | (refine RetO.mk ⟨[(902, .k 902), (1, .k 1), (907, .k 907)], _, _, (by first | exact LeS.d (by first | exact LeD.u rfl | fail) | fail), (by repeat (first | exact LeO.nil | refine LeO.bx rfl rfl (by repeat (first | exact LeL.nil | refine LeL.cons (by first | exact LeD.u rfl | fail) ?_)) ?_ | refine LeO.ab rfl rfl (by repeat (first | exact LeL.nil | refine LeL.cons (by first | exact LeD.p rfl | fail) ?_)) (by first | rfl | fail) ?_ | fail)), rfl, rfl⟩)
      · rw [if_neg hps]
        have hne : 0 < (ps.reverse.map whereB).length := by simp; exact List.length_pos_iff.2 hps
        generalize ps.reverse.map whereB = tx at *
        repeat' ((conv => whnf); first | refine Gs.id ?_ | refine Brn.F (by (try simp only [smT]); first | rfl | omega | fail) ?_ | (refine Bnd.mk (fun hm => ?_); (try simp only [smT] at hm)) | (refine CL.mk (Or.inl ?_); (conv => whnf); refine ClO.mk (Or.inl ?_); (repeat ((conv => whnf); refine Len.mk (by first | rfl | (simp; done) | fail) ?_)); (conv => whnf); refine Cl.is (hjn) rfl (by first | exact fun _ => rfl | fail) ?_) | fail)
        all_goals (conv => whnf)
        all_goals first | (exfalso; simp at *; omega) | (refine RetO.mk ⟨[(902, .k 902), (1, .k 1), (907, .k 907)], _, _, (by first | exact LeS.d (by first | exact LeD.u rfl | fail) | fail), (by repeat (first | exact LeO.nil | refine LeO.bx rfl rfl (by repeat (first | exact LeL.nil | refine LeL.cons (by first | exact LeD.u rfl | fail) ?_)) ?_ | refine LeO.ab rfl rfl (by repeat (first | exact LeL.nil | refine LeL.cons (by first | exact LeD.p rfl | fail) ?_)) (by first | rfl | fail) ?_ | fail)), rfl, rfl⟩)
end Go.Proofs.YtabmcfnefjipbaaGreatDoor
namespace Go.Proofs.YtabmcfnefjipbaaGreatDoor
open Go.RowKit
set_option maxHeartbeats 8000000 in
theorem doA_break (us : List Value) (zb : Fz) {l : List Ev} (hv : Vd l) (hL : l.length ≤ 20000) (he : ∀ e ∈ l, e.locs.length ≤ 9000000000) (hn : ∀ e ∈ l, e.line ≤ 9223372036854775807) (p : Int) (hp : -1 ≤ p ∧ p ≤ (l.length : Int)) (bs : List Bp) (hb : bs.length ≤ 1000) (c : ByteArray) (hc : c.size ≤ 4000) (zt : Fz) (hz : Tab zt) (hcm : cmdM (depM l p) bs c = none) (c1 : c ≠ clearK) (c2 : c ≠ whereK) (c3 : cutW c = breakK ∧ ((spN 3 (cutR' c)).length = 2 ∨ (spN 3 (cutR' c)).length = 4)) (hdig : cutW c = breakK → 1 ≤ ((spN 3 (cutR' c))[1]?.getD emB).size ∧ ((spN 3 (cutR' c))[1]?.getD emB).size ≤ 9 ∧ digsB ((spN 3 (cutR' c))[1]?.getD emB)) :
    CallsA Tryz.prog 65 [.d (.p 1 0), dsr c] [(902, .ab [.p 1 0] us zb (· = [])), (1, .bx 120 (sesV l p bs)), (907, tbOb zt)] (Iso (dsr ((addM bs (spN 3 (cutR' c))).1)) [(902, .ab [.p 1 0] us zb (· = [])), (1, .bx 120 (sesV l (p) ((addM bs (spN 3 (cutR' c))).2))), (907, tbOb zt)]) := by
  have hcut := cutJ_T c (by omega)
  have hmo : CallsA Tryz.prog 54 [.d (.u (evs l)), .d (.u (bkV bs)), di p] [] (Iso (.d (.mp 920)) [(920, .mp false true (motE (depM l p) (bkV bs)))]) := by
    cases bs with
    | nil => exact motions0_T l p hp
    | cons b r => exact motions_T l (b :: r) p hp
  have hmk : ∀ e ∈ l, CallsA Tryz.prog 89 [.a e.ds, .d (.q [bkV bs] 0)] [] (Is (db (bs.any (hitB e)))) := by
    intro e q
    cases bs with
    | nil => exact mrk0_T e (he e q)
    | cons b r => exact mrk_T (b :: r) e (he e q) (by omega)
  obtain ⟨m1, m2⟩ := motE_get (depM l p) (bkV bs) c zMot
  have hok := motE_ok (depM l p) (bkV bs)
  rw [cmd_none hcm] at m1 m2
  clear hmk hcm
  refine callsA_of_rdO (T := tt) Tryz.func65 rfl rfl rfl rfl rfl ?_
  refine' cutR (fun _ : Unit => True) (fun _ => ⟨[(0, .d (.p 1 0)), (1, dsr c), (5, dsr (cutW c)), (6, dsr (cutR' c)), (9, db false)], [(902, .ab [.p 1 0] us zb (· = [])), (1, .bx 120 (sesV l p bs)), (907, tbOb zt)]⟩) _ (fun hR => ?_) ?_
  rotate_left
  · repeat' ((conv => whnf); first | refine Mlk.of zMot false (by kernel_rfl) hok m1 m2 ?_ | (exact Gs.cut (i := 3) (by assumption) () [(902, .k 902), (1, .k 1), (907, .k 907)] rfl ⟨by (try dsimp only); (repeat (refine LeT.cons rfl (by first | exact LeS.d (by first | exact LeD.u rfl | exact LeD.p rfl | fail) | fail) ?_)); (first | exact LeT.nil | fail), by (try dsimp only); (repeat (first | exact LeO.nil | refine LeO.bx rfl rfl (by repeat (first | exact LeL.nil | refine LeL.cons (by first | exact LeD.u rfl | fail) ?_)) ?_ | refine LeO.ab rfl rfl (by repeat (first | exact LeL.nil | refine LeL.cons (by first | exact LeD.p rfl | fail) ?_)) (by first | rfl | fail) ?_ | fail)); done⟩ (by trivial)) | refine Gs.id ?_ | with_reducible refine And.intro ?_ ?_ | refine Drw.ofT (T := tt) (i := 2) [3, 7, 11, 12, 14, 18, 19] [0, 1, 2, 4, 5, 6, 8, 9, 10, 13, 15, 16, 17, 20] (OF.fst 0 (OF.fst 1 (OF.fst 2 (OF.fst 4 (OF.fst 5 (OF.fst 6 (OF.fst 8 (OF.fst 9 (OF.fst 10 (OF.fst 13 (OF.alt 3 (OF.alt 7 (OF.alt 11 (OF.alt 12 (OF.alt 14 (OF.fst 15 (OF.fst 16 (OF.fst 17 (OF.alt 18 (OF.alt 19 (OF.fst 20 OF.nil) OF.nil) OF.nil)))) (OF.alt 18 (OF.alt 14 (OF.fst 15 (OF.fst 16 (OF.fst 17 (OF.alt 19 (OF.fst 20 OF.nil) OF.nil)))) OF.nil) OF.nil)) (OF.alt 18 (OF.alt 12 (OF.alt 14 (OF.fst 15 (OF.fst 16 (OF.fst 17 (OF.alt 19 (OF.fst 20 OF.nil) OF.nil)))) OF.nil) OF.nil) OF.nil)) (OF.alt 18 (OF.alt 11 (OF.alt 12 (OF.alt 14 (OF.fst 15 (OF.fst 16 (OF.fst 17 (OF.alt 19 (OF.fst 20 OF.nil) OF.nil)))) OF.nil) OF.nil) OF.nil) OF.nil)) (OF.alt 11 (OF.alt 7 (OF.alt 12 (OF.alt 14 (OF.fst 15 (OF.fst 16 (OF.fst 17 (OF.alt 18 (OF.alt 19 (OF.fst 20 OF.nil) OF.nil) OF.nil)))) (OF.alt 18 (OF.alt 14 (OF.fst 15 (OF.fst 16 (OF.fst 17 (OF.alt 19 (OF.fst 20 OF.nil) OF.nil)))) OF.nil) OF.nil)) (OF.alt 18 (OF.alt 12 (OF.alt 14 (OF.fst 15 (OF.fst 16 (OF.fst 17 (OF.alt 19 (OF.fst 20 OF.nil) OF.nil)))) OF.nil) OF.nil) OF.nil)) (OF.alt 18 (OF.alt 7 (OF.alt 12 (OF.alt 14 (OF.fst 15 (OF.fst 16 (OF.fst 17 (OF.alt 19 (OF.fst 20 OF.nil) OF.nil)))) OF.nil) OF.nil) OF.nil) OF.nil)) (OF.alt 18 (OF.alt 7 (OF.alt 11 (OF.alt 12 (OF.alt 14 (OF.fst 15 (OF.fst 16 (OF.fst 17 (OF.alt 19 (OF.fst 20 OF.nil) OF.nil)))) OF.nil) OF.nil) OF.nil) (OF.alt 11 (OF.alt 7 (OF.alt 12 (OF.alt 14 (OF.fst 15 (OF.fst 16 (OF.fst 17 (OF.alt 19 (OF.fst 20 OF.nil) OF.nil)))) OF.nil) OF.nil) OF.nil) OF.nil)) OF.nil))) (OF.alt 7 (OF.alt 3 (OF.alt 11 (OF.alt 12 (OF.alt 14 (OF.fst 15 (OF.fst 16 (OF.fst 17 (OF.alt 18 (OF.alt 19 (OF.fst 20 OF.nil) OF.nil) OF.nil)))) (OF.alt 18 (OF.alt 14 (OF.fst 15 (OF.fst 16 (OF.fst 17 (OF.alt 19 (OF.fst 20 OF.nil) OF.nil)))) OF.nil) OF.nil)) (OF.alt 18 (OF.alt 12 (OF.alt 14 (OF.fst 15 (OF.fst 16 (OF.fst 17 (OF.alt 19 (OF.fst 20 OF.nil) OF.nil)))) OF.nil) OF.nil) OF.nil)) (OF.alt 18 (OF.alt 11 (OF.alt 12 (OF.alt 14 (OF.fst 15 (OF.fst 16 (OF.fst 17 (OF.alt 19 (OF.fst 20 OF.nil) OF.nil)))) OF.nil) OF.nil) OF.nil) OF.nil)) (OF.alt 11 (OF.alt 3 (OF.alt 12 (OF.alt 14 (OF.fst 15 (OF.fst 16 (OF.fst 17 (OF.alt 18 (OF.alt 19 (OF.fst 20 OF.nil) OF.nil) OF.nil)))) (OF.alt 18 (OF.alt 14 (OF.fst 15 (OF.fst 16 (OF.fst 17 (OF.alt 19 (OF.fst 20 OF.nil) OF.nil)))) OF.nil) OF.nil)) (OF.alt 18 (OF.alt 12 (OF.alt 14 (OF.fst 15 (OF.fst 16 (OF.fst 17 (OF.alt 19 (OF.fst 20 OF.nil) OF.nil)))) OF.nil) OF.nil) OF.nil)) (OF.alt 18 (OF.alt 3 (OF.alt 12 (OF.alt 14 (OF.fst 15 (OF.fst 16 (OF.fst 17 (OF.alt 19 (OF.fst 20 OF.nil) OF.nil)))) OF.nil) OF.nil) OF.nil) OF.nil)) (OF.alt 18 (OF.alt 3 (OF.alt 11 (OF.alt 12 (OF.alt 14 (OF.fst 15 (OF.fst 16 (OF.fst 17 (OF.alt 19 (OF.fst 20 OF.nil) OF.nil)))) OF.nil) OF.nil) OF.nil) (OF.alt 11 (OF.alt 3 (OF.alt 12 (OF.alt 14 (OF.fst 15 (OF.fst 16 (OF.fst 17 (OF.alt 19 (OF.fst 20 OF.nil) OF.nil)))) OF.nil) OF.nil) OF.nil) OF.nil)) OF.nil))) (OF.alt 11 (OF.alt 3 (OF.alt 7 (OF.alt 12 (OF.alt 14 (OF.fst 15 (OF.fst 16 (OF.fst 17 (OF.alt 18 (OF.alt 19 (OF.fst 20 OF.nil) OF.nil) OF.nil)))) (OF.alt 18 (OF.alt 14 (OF.fst 15 (OF.fst 16 (OF.fst 17 (OF.alt 19 (OF.fst 20 OF.nil) OF.nil)))) OF.nil) OF.nil)) (OF.alt 18 (OF.alt 12 (OF.alt 14 (OF.fst 15 (OF.fst 16 (OF.fst 17 (OF.alt 19 (OF.fst 20 OF.nil) OF.nil)))) OF.nil) OF.nil) OF.nil)) (OF.alt 18 (OF.alt 7 (OF.alt 12 (OF.alt 14 (OF.fst 15 (OF.fst 16 (OF.fst 17 (OF.alt 19 (OF.fst 20 OF.nil) OF.nil)))) OF.nil) OF.nil) OF.nil) OF.nil)) (OF.alt 7 (OF.alt 3 (OF.alt 12 (OF.alt 14 (OF.fst 15 (OF.fst 16 (OF.fst 17 (OF.alt 18 (OF.alt 19 (OF.fst 20 OF.nil) OF.nil) OF.nil)))) (OF.alt 18 (OF.alt 14 (OF.fst 15 (OF.fst 16 (OF.fst 17 (OF.alt 19 (OF.fst 20 OF.nil) OF.nil)))) OF.nil) OF.nil)) (OF.alt 18 (OF.alt 12 (OF.alt 14 (OF.fst 15 (OF.fst 16 (OF.fst 17 (OF.alt 19 (OF.fst 20 OF.nil) OF.nil)))) OF.nil) OF.nil) OF.nil)) (OF.alt 18 (OF.alt 3 (OF.alt 12 (OF.alt 14 (OF.fst 15 (OF.fst 16 (OF.fst 17 (OF.alt 19 (OF.fst 20 OF.nil) OF.nil)))) OF.nil) OF.nil) OF.nil) OF.nil)) (OF.alt 18 (OF.alt 3 (OF.alt 7 (OF.alt 12 (OF.alt 14 (OF.fst 15 (OF.fst 16 (OF.fst 17 (OF.alt 19 (OF.fst 20 OF.nil) OF.nil)))) OF.nil) OF.nil) OF.nil) (OF.alt 7 (OF.alt 3 (OF.alt 12 (OF.alt 14 (OF.fst 15 (OF.fst 16 (OF.fst 17 (OF.alt 19 (OF.fst 20 OF.nil) OF.nil)))) OF.nil) OF.nil) OF.nil) OF.nil)) OF.nil))) (OF.alt 18 (OF.alt 3 (OF.alt 7 (OF.alt 11 (OF.alt 12 (OF.alt 14 (OF.fst 15 (OF.fst 16 (OF.fst 17 (OF.alt 19 (OF.fst 20 OF.nil) OF.nil)))) OF.nil) OF.nil) OF.nil) (OF.alt 11 (OF.alt 7 (OF.alt 12 (OF.alt 14 (OF.fst 15 (OF.fst 16 (OF.fst 17 (OF.alt 19 (OF.fst 20 OF.nil) OF.nil)))) OF.nil) OF.nil) OF.nil) OF.nil)) (OF.alt 7 (OF.alt 3 (OF.alt 11 (OF.alt 12 (OF.alt 14 (OF.fst 15 (OF.fst 16 (OF.fst 17 (OF.alt 19 (OF.fst 20 OF.nil) OF.nil)))) OF.nil) OF.nil) OF.nil) (OF.alt 11 (OF.alt 3 (OF.alt 12 (OF.alt 14 (OF.fst 15 (OF.fst 16 (OF.fst 17 (OF.alt 19 (OF.fst 20 OF.nil) OF.nil)))) OF.nil) OF.nil) OF.nil) OF.nil)) (OF.alt 11 (OF.alt 3 (OF.alt 7 (OF.alt 12 (OF.alt 14 (OF.fst 15 (OF.fst 16 (OF.fst 17 (OF.alt 19 (OF.fst 20 OF.nil) OF.nil)))) OF.nil) OF.nil) OF.nil) (OF.alt 7 (OF.alt 3 (OF.alt 12 (OF.alt 14 (OF.fst 15 (OF.fst 16 (OF.fst 17 (OF.alt 19 (OF.fst 20 OF.nil) OF.nil)))) OF.nil) OF.nil) OF.nil) OF.nil)) OF.nil))) OF.nil)))))))))))))) (by kernel_rfl) ?_ | (refine CL.mk (Or.inl ?_); (conv => whnf); refine Cl.is (hcut) rfl (by first | exact fun _ => rfl | fail) ?_) | (refine CL.mk (Or.inr (Raw.callI [] [920] rfl rfl rfl rfl rfl rfl rfl (hmo) ?_)); rintro _ _ ⟨rfl, rfl⟩; refine Bk.mk rfl rfl ?_)) --D
  · intro _ _
    dsimp only
    clear hcut hmo m1 m2 hok
    have hcs := cutR_size c
    have hsp := splitN_T (cutR' c) (by omega)
    have hst := hasShow_T c
    have hsh := show_T hv hL he p hp (cutR' c)
    have hnm := isName_T' (cutR' c)
    have hlw : ((strs (spN 3 (cutR' c))).length : Int) = ((spN 3 (cutR' c)).length : Int) := by simp
    have t1 := toList_beq c clearK
    have t2 := toList_beq c whereK
    have t3 := toList_beq (cutW c) breakK
    have hadd := fun h => add_P l p bs (spN 3 (cutR' c)) hb h
    generalize spN 3 (cutR' c) = ws at *
    generalize cutR' c = rest at *
    generalize cutW c = word at *
    generalize showM l p rest = o at *
    generalize isShow c = bsh at *
    generalize nameB rest = bnm at *
    rw [decide_eq_false c1] at t1
    rw [decide_eq_false c2] at t2
    obtain ⟨c3, c4⟩ := c3
    rw [decide_eq_true c3] at t3
    obtain ⟨d1, d2, d3⟩ := hdig c3
    have hadd := hadd c4 d1 d2 d3 zt hz
    generalize addM bs ws = am at *
    obtain ⟨am, bs'⟩ := am
    dsimp only at hadd ⊢
    clear hsh hnm hst hdig d1 d2 d3
    rcases c4 with c4 | c4
    · rw [c4] at hlw
      repeat' ((conv => whnf); first | rw [t1] | rw [t2] | rw [t3] | refine Gs.id ?_ | with_reducible refine Brn.T rfl ?_ | with_reducible refine Brn.F rfl ?_ | refine Brn.T (by (try simp only [smT]); first | rfl | omega | fail) ?_ | (refine Bnd.mk (fun hm => ?_); (try simp only [smT] at hm)) | (refine CL.mk (Or.inl ?_); (conv => whnf); refine Cl.is (hsp) rfl (by first | (intro e; cases e; done) | fail) ?_) | (refine CL.mk (Or.inr (Raw.callFP (x := .func _) [1] [1,907] [907] rfl rfl rfl rfl rfl rfl rfl rfl rfl (hadd) ?_)); rintro _ _ ⟨rfl, rfl⟩; refine BkP.mk rfl rfl ?_))
      all_goals (conv => whnf)
      all_goals first | (exfalso; simp_all; done) | (exfalso; simp at *; omega) | (refine RetO.mk ⟨[(902, .k 902), (1, .k 1), (907, .k 907)], _, _, (by first | exact LeS.d (by first | exact LeD.u rfl | fail) | fail), (by repeat (first | exact LeO.nil | refine LeO.bx rfl rfl (by repeat (first | exact LeL.nil | refine LeL.cons (by first | exact LeD.u rfl | fail) ?_)) ?_ | refine LeO.ab rfl rfl (by repeat (first | exact LeL.nil | refine LeL.cons (by first | exact LeD.p rfl | fail) ?_)) (by first | rfl | fail) ?_ | fail)), rfl, rfl⟩)
    · rw [c4] at hlw
      repeat' ((conv => whnf); first | rw [t1] | rw [t2] | rw [t3] | refine Gs.id ?_ | with_reducible refine Brn.T rfl ?_ | with_reducible refine Brn.F rfl ?_ | refine Brn.T (by (try simp only [smT]); first | rfl | omega | fail) ?_ | refine Brn.F (by (try simp only [smT]); first | rfl | omega | fail) ?_ | (refine Bnd.mk (fun hm => ?_); (try simp only [smT] at hm)) | (refine CL.mk (Or.inl ?_); (conv => whnf); refine Cl.is (hsp) rfl (by first | (intro e; cases e; done) | fail) ?_) | (refine CL.mk (Or.inr (Raw.callFP (x := .func _) [1] [1,907] [907] rfl rfl rfl rfl rfl rfl rfl rfl rfl (hadd) ?_)); rintro _ _ ⟨rfl, rfl⟩; refine BkP.mk rfl rfl ?_))
      all_goals (conv => whnf)
      all_goals first | (exfalso; simp_all; done) | (exfalso; simp at *; omega) | (refine RetO.mk ⟨[(902, .k 902), (1, .k 1), (907, .k 907)], _, _, (by first | exact LeS.d (by first | exact LeD.u rfl | fail) | fail), (by repeat (first | exact LeO.nil | refine LeO.bx rfl rfl (by repeat (first | exact LeL.nil | refine LeL.cons (by first | exact LeD.u rfl | fail) ?_)) ?_ | refine LeO.ab rfl rfl (by repeat (first | exact LeL.nil | refine LeL.cons (by first | exact LeD.p rfl | fail) ?_)) (by first | rfl | fail) ?_ | fail)), rfl, rfl⟩)
end Go.Proofs.YtabmcfnefjipbaaGreatDoor
namespace Go.Proofs.YtabmcfnefjipbaaGreatDoor
open Go.RowKit
set_option maxHeartbeats 8000000 in
theorem doA_else (us : List Value) (zb : Fz) {l : List Ev} (hv : Vd l) (hL : l.length ≤ 20000) (he : ∀ e ∈ l, e.locs.length ≤ 9000000000) (hn : ∀ e ∈ l, e.line ≤ 9223372036854775807) (p : Int) (hp : -1 ≤ p ∧ p ≤ (l.length : Int)) (bs : List Bp) (hb : bs.length ≤ 1000) (c : ByteArray) (hc : c.size ≤ 4000) (zt : Fz) (hz : Tab zt) (hcm : cmdM (depM l p) bs c = none) (c1 : c ≠ clearK) (c2 : c ≠ whereK) (c3 : ¬ (cutW c = breakK ∧ ((spN 3 (cutR' c)).length = 2 ∨ (spN 3 (cutR' c)).length = 4))) (c4 : isShow c = false) :
    CallsA Tryz.prog 65 [.d (.p 1 0), dsr c] [(902, .ab [.p 1 0] us zb (· = [])), (1, .bx 120 (sesV l p bs)), (907, tbOb zt)] (Iso (dsr (whatB)) [(902, .ab [.p 1 0] us zb (· = [])), (1, .bx 120 (sesV l (p) (bs))), (907, tbOb zt)]) := by
  have hcut := cutJ_T c (by omega)
  have hmo : CallsA Tryz.prog 54 [.d (.u (evs l)), .d (.u (bkV bs)), di p] [] (Iso (.d (.mp 920)) [(920, .mp false true (motE (depM l p) (bkV bs)))]) := by
    cases bs with
    | nil => exact motions0_T l p hp
    | cons b r => exact motions_T l (b :: r) p hp
  have hmk : ∀ e ∈ l, CallsA Tryz.prog 89 [.a e.ds, .d (.q [bkV bs] 0)] [] (Is (db (bs.any (hitB e)))) := by
    intro e q
    cases bs with
    | nil => exact mrk0_T e (he e q)
    | cons b r => exact mrk_T (b :: r) e (he e q) (by omega)
  obtain ⟨m1, m2⟩ := motE_get (depM l p) (bkV bs) c zMot
  have hok := motE_ok (depM l p) (bkV bs)
  rw [cmd_none hcm] at m1 m2
  clear hmk hcm
  refine callsA_of_rdO (T := tt) Tryz.func65 rfl rfl rfl rfl rfl ?_
  refine' cutR (fun _ : Unit => True) (fun _ => ⟨[(0, .d (.p 1 0)), (1, dsr c), (5, dsr (cutW c)), (6, dsr (cutR' c)), (9, db false)], [(902, .ab [.p 1 0] us zb (· = [])), (1, .bx 120 (sesV l p bs)), (907, tbOb zt)]⟩) _ (fun hR => ?_) ?_
  rotate_left
  · repeat' ((conv => whnf); first | refine Mlk.of zMot false (by kernel_rfl) hok m1 m2 ?_ | (exact Gs.cut (i := 3) (by assumption) () [(902, .k 902), (1, .k 1), (907, .k 907)] rfl ⟨by (try dsimp only); (repeat (refine LeT.cons rfl (by first | exact LeS.d (by first | exact LeD.u rfl | exact LeD.p rfl | fail) | fail) ?_)); (first | exact LeT.nil | fail), by (try dsimp only); (repeat (first | exact LeO.nil | refine LeO.bx rfl rfl (by repeat (first | exact LeL.nil | refine LeL.cons (by first | exact LeD.u rfl | fail) ?_)) ?_ | refine LeO.ab rfl rfl (by repeat (first | exact LeL.nil | refine LeL.cons (by first | exact LeD.p rfl | fail) ?_)) (by first | rfl | fail) ?_ | fail)); done⟩ (by trivial)) | refine Gs.id ?_ | with_reducible refine And.intro ?_ ?_ | refine Drw.ofT (T := tt) (i := 2) [3, 7, 11, 12, 14, 18, 19] [0, 1, 2, 4, 5, 6, 8, 9, 10, 13, 15, 16, 17, 20] (OF.fst 0 (OF.fst 1 (OF.fst 2 (OF.fst 4 (OF.fst 5 (OF.fst 6 (OF.fst 8 (OF.fst 9 (OF.fst 10 (OF.fst 13 (OF.alt 3 (OF.alt 7 (OF.alt 11 (OF.alt 12 (OF.alt 14 (OF.fst 15 (OF.fst 16 (OF.fst 17 (OF.alt 18 (OF.alt 19 (OF.fst 20 OF.nil) OF.nil) OF.nil)))) (OF.alt 18 (OF.alt 14 (OF.fst 15 (OF.fst 16 (OF.fst 17 (OF.alt 19 (OF.fst 20 OF.nil) OF.nil)))) OF.nil) OF.nil)) (OF.alt 18 (OF.alt 12 (OF.alt 14 (OF.fst 15 (OF.fst 16 (OF.fst 17 (OF.alt 19 (OF.fst 20 OF.nil) OF.nil)))) OF.nil) OF.nil) OF.nil)) (OF.alt 18 (OF.alt 11 (OF.alt 12 (OF.alt 14 (OF.fst 15 (OF.fst 16 (OF.fst 17 (OF.alt 19 (OF.fst 20 OF.nil) OF.nil)))) OF.nil) OF.nil) OF.nil) OF.nil)) (OF.alt 11 (OF.alt 7 (OF.alt 12 (OF.alt 14 (OF.fst 15 (OF.fst 16 (OF.fst 17 (OF.alt 18 (OF.alt 19 (OF.fst 20 OF.nil) OF.nil) OF.nil)))) (OF.alt 18 (OF.alt 14 (OF.fst 15 (OF.fst 16 (OF.fst 17 (OF.alt 19 (OF.fst 20 OF.nil) OF.nil)))) OF.nil) OF.nil)) (OF.alt 18 (OF.alt 12 (OF.alt 14 (OF.fst 15 (OF.fst 16 (OF.fst 17 (OF.alt 19 (OF.fst 20 OF.nil) OF.nil)))) OF.nil) OF.nil) OF.nil)) (OF.alt 18 (OF.alt 7 (OF.alt 12 (OF.alt 14 (OF.fst 15 (OF.fst 16 (OF.fst 17 (OF.alt 19 (OF.fst 20 OF.nil) OF.nil)))) OF.nil) OF.nil) OF.nil) OF.nil)) (OF.alt 18 (OF.alt 7 (OF.alt 11 (OF.alt 12 (OF.alt 14 (OF.fst 15 (OF.fst 16 (OF.fst 17 (OF.alt 19 (OF.fst 20 OF.nil) OF.nil)))) OF.nil) OF.nil) OF.nil) (OF.alt 11 (OF.alt 7 (OF.alt 12 (OF.alt 14 (OF.fst 15 (OF.fst 16 (OF.fst 17 (OF.alt 19 (OF.fst 20 OF.nil) OF.nil)))) OF.nil) OF.nil) OF.nil) OF.nil)) OF.nil))) (OF.alt 7 (OF.alt 3 (OF.alt 11 (OF.alt 12 (OF.alt 14 (OF.fst 15 (OF.fst 16 (OF.fst 17 (OF.alt 18 (OF.alt 19 (OF.fst 20 OF.nil) OF.nil) OF.nil)))) (OF.alt 18 (OF.alt 14 (OF.fst 15 (OF.fst 16 (OF.fst 17 (OF.alt 19 (OF.fst 20 OF.nil) OF.nil)))) OF.nil) OF.nil)) (OF.alt 18 (OF.alt 12 (OF.alt 14 (OF.fst 15 (OF.fst 16 (OF.fst 17 (OF.alt 19 (OF.fst 20 OF.nil) OF.nil)))) OF.nil) OF.nil) OF.nil)) (OF.alt 18 (OF.alt 11 (OF.alt 12 (OF.alt 14 (OF.fst 15 (OF.fst 16 (OF.fst 17 (OF.alt 19 (OF.fst 20 OF.nil) OF.nil)))) OF.nil) OF.nil) OF.nil) OF.nil)) (OF.alt 11 (OF.alt 3 (OF.alt 12 (OF.alt 14 (OF.fst 15 (OF.fst 16 (OF.fst 17 (OF.alt 18 (OF.alt 19 (OF.fst 20 OF.nil) OF.nil) OF.nil)))) (OF.alt 18 (OF.alt 14 (OF.fst 15 (OF.fst 16 (OF.fst 17 (OF.alt 19 (OF.fst 20 OF.nil) OF.nil)))) OF.nil) OF.nil)) (OF.alt 18 (OF.alt 12 (OF.alt 14 (OF.fst 15 (OF.fst 16 (OF.fst 17 (OF.alt 19 (OF.fst 20 OF.nil) OF.nil)))) OF.nil) OF.nil) OF.nil)) (OF.alt 18 (OF.alt 3 (OF.alt 12 (OF.alt 14 (OF.fst 15 (OF.fst 16 (OF.fst 17 (OF.alt 19 (OF.fst 20 OF.nil) OF.nil)))) OF.nil) OF.nil) OF.nil) OF.nil)) (OF.alt 18 (OF.alt 3 (OF.alt 11 (OF.alt 12 (OF.alt 14 (OF.fst 15 (OF.fst 16 (OF.fst 17 (OF.alt 19 (OF.fst 20 OF.nil) OF.nil)))) OF.nil) OF.nil) OF.nil) (OF.alt 11 (OF.alt 3 (OF.alt 12 (OF.alt 14 (OF.fst 15 (OF.fst 16 (OF.fst 17 (OF.alt 19 (OF.fst 20 OF.nil) OF.nil)))) OF.nil) OF.nil) OF.nil) OF.nil)) OF.nil))) (OF.alt 11 (OF.alt 3 (OF.alt 7 (OF.alt 12 (OF.alt 14 (OF.fst 15 (OF.fst 16 (OF.fst 17 (OF.alt 18 (OF.alt 19 (OF.fst 20 OF.nil) OF.nil) OF.nil)))) (OF.alt 18 (OF.alt 14 (OF.fst 15 (OF.fst 16 (OF.fst 17 (OF.alt 19 (OF.fst 20 OF.nil) OF.nil)))) OF.nil) OF.nil)) (OF.alt 18 (OF.alt 12 (OF.alt 14 (OF.fst 15 (OF.fst 16 (OF.fst 17 (OF.alt 19 (OF.fst 20 OF.nil) OF.nil)))) OF.nil) OF.nil) OF.nil)) (OF.alt 18 (OF.alt 7 (OF.alt 12 (OF.alt 14 (OF.fst 15 (OF.fst 16 (OF.fst 17 (OF.alt 19 (OF.fst 20 OF.nil) OF.nil)))) OF.nil) OF.nil) OF.nil) OF.nil)) (OF.alt 7 (OF.alt 3 (OF.alt 12 (OF.alt 14 (OF.fst 15 (OF.fst 16 (OF.fst 17 (OF.alt 18 (OF.alt 19 (OF.fst 20 OF.nil) OF.nil) OF.nil)))) (OF.alt 18 (OF.alt 14 (OF.fst 15 (OF.fst 16 (OF.fst 17 (OF.alt 19 (OF.fst 20 OF.nil) OF.nil)))) OF.nil) OF.nil)) (OF.alt 18 (OF.alt 12 (OF.alt 14 (OF.fst 15 (OF.fst 16 (OF.fst 17 (OF.alt 19 (OF.fst 20 OF.nil) OF.nil)))) OF.nil) OF.nil) OF.nil)) (OF.alt 18 (OF.alt 3 (OF.alt 12 (OF.alt 14 (OF.fst 15 (OF.fst 16 (OF.fst 17 (OF.alt 19 (OF.fst 20 OF.nil) OF.nil)))) OF.nil) OF.nil) OF.nil) OF.nil)) (OF.alt 18 (OF.alt 3 (OF.alt 7 (OF.alt 12 (OF.alt 14 (OF.fst 15 (OF.fst 16 (OF.fst 17 (OF.alt 19 (OF.fst 20 OF.nil) OF.nil)))) OF.nil) OF.nil) OF.nil) (OF.alt 7 (OF.alt 3 (OF.alt 12 (OF.alt 14 (OF.fst 15 (OF.fst 16 (OF.fst 17 (OF.alt 19 (OF.fst 20 OF.nil) OF.nil)))) OF.nil) OF.nil) OF.nil) OF.nil)) OF.nil))) (OF.alt 18 (OF.alt 3 (OF.alt 7 (OF.alt 11 (OF.alt 12 (OF.alt 14 (OF.fst 15 (OF.fst 16 (OF.fst 17 (OF.alt 19 (OF.fst 20 OF.nil) OF.nil)))) OF.nil) OF.nil) OF.nil) (OF.alt 11 (OF.alt 7 (OF.alt 12 (OF.alt 14 (OF.fst 15 (OF.fst 16 (OF.fst 17 (OF.alt 19 (OF.fst 20 OF.nil) OF.nil)))) OF.nil) OF.nil) OF.nil) OF.nil)) (OF.alt 7 (OF.alt 3 (OF.alt 11 (OF.alt 12 (OF.alt 14 (OF.fst 15 (OF.fst 16 (OF.fst 17 (OF.alt 19 (OF.fst 20 OF.nil) OF.nil)))) OF.nil) OF.nil) OF.nil) (OF.alt 11 (OF.alt 3 (OF.alt 12 (OF.alt 14 (OF.fst 15 (OF.fst 16 (OF.fst 17 (OF.alt 19 (OF.fst 20 OF.nil) OF.nil)))) OF.nil) OF.nil) OF.nil) OF.nil)) (OF.alt 11 (OF.alt 3 (OF.alt 7 (OF.alt 12 (OF.alt 14 (OF.fst 15 (OF.fst 16 (OF.fst 17 (OF.alt 19 (OF.fst 20 OF.nil) OF.nil)))) OF.nil) OF.nil) OF.nil) (OF.alt 7 (OF.alt 3 (OF.alt 12 (OF.alt 14 (OF.fst 15 (OF.fst 16 (OF.fst 17 (OF.alt 19 (OF.fst 20 OF.nil) OF.nil)))) OF.nil) OF.nil) OF.nil) OF.nil)) OF.nil))) OF.nil)))))))))))))) (by kernel_rfl) ?_ | (refine CL.mk (Or.inl ?_); (conv => whnf); refine Cl.is (hcut) rfl (by first | exact fun _ => rfl | fail) ?_) | (refine CL.mk (Or.inr (Raw.callI [] [920] rfl rfl rfl rfl rfl rfl rfl (hmo) ?_)); rintro _ _ ⟨rfl, rfl⟩; refine Bk.mk rfl rfl ?_)) --D
  · intro _ _
    dsimp only
    clear hcut hmo m1 m2 hok
    have hcs := cutR_size c
    have hsp := splitN_T (cutR' c) (by omega)
    have hst := hasShow_T c
    have hsh := show_T hv hL he p hp (cutR' c)
    have hnm := isName_T' (cutR' c)
    have hlw : ((strs (spN 3 (cutR' c))).length : Int) = ((spN 3 (cutR' c)).length : Int) := by simp
    have t1 := toList_beq c clearK
    have t2 := toList_beq c whereK
    have t3 := toList_beq (cutW c) breakK
    have hadd := fun h => add_P l p bs (spN 3 (cutR' c)) hb h
    generalize spN 3 (cutR' c) = ws at *
    generalize cutR' c = rest at *
    generalize cutW c = word at *
    generalize showM l p rest = o at *
    generalize isShow c = bsh at *
    generalize nameB rest = bnm at *
    rw [decide_eq_false c1] at t1
    rw [decide_eq_false c2] at t2
    clear hadd
    have hb3 : ∃ b3 : Bool, (word.toList == breakK.toList) = b3 ∧ (b3 = true → ¬ (ws.length = 2 ∨ ws.length = 4)) := ⟨_, rfl, fun h h' => c3 ⟨by rw [t3] at h; exact of_decide_eq_true h, h'⟩⟩
    obtain ⟨b3, t4, t5⟩ := hb3
    clear t3
    subst c4
    cases b3
    · repeat' ((conv => whnf); first | rw [t1] | rw [t2] | rw [t4] | refine Gs.id ?_ | with_reducible refine Brn.F rfl ?_ | (refine CL.mk (Or.inl ?_); (conv => whnf); first | refine Cl.is (hsp) rfl (by first | (intro e; cases e; done) | fail) ?_ | refine Cl.is (hst) rfl (by first | exact fun _ => rfl | fail) ?_) | fail)
      all_goals (conv => whnf)
      all_goals first | (exfalso; simp_all; done) | (exfalso; simp at *; omega) | (refine RetO.mk ⟨[(902, .k 902), (1, .k 1), (907, .k 907)], _, _, (by first | exact LeS.d (by first | exact LeD.u rfl | fail) | fail), (by repeat (first | exact LeO.nil | refine LeO.bx rfl rfl (by repeat (first | exact LeL.nil | refine LeL.cons (by first | exact LeD.u rfl | fail) ?_)) ?_ | refine LeO.ab rfl rfl (by repeat (first | exact LeL.nil | refine LeL.cons (by first | exact LeD.p rfl | fail) ?_)) (by first | rfl | fail) ?_ | fail)), rfl, rfl⟩)
    · have t6 := t5 rfl
      repeat' ((conv => whnf); first | rw [t1] | rw [t2] | rw [t4] | refine Gs.id ?_ | with_reducible refine Brn.T rfl ?_ | with_reducible refine Brn.F rfl ?_ | refine Brn.F (by (try simp only [smT]); first | rfl | omega | fail) ?_ | (refine Bnd.mk (fun hm => ?_); (try simp only [smT] at hm)) | (refine CL.mk (Or.inl ?_); (conv => whnf); first | refine Cl.is (hsp) rfl (by first | (intro e; cases e; done) | fail) ?_ | refine Cl.is (hst) rfl (by first | exact fun _ => rfl | fail) ?_) | fail)
      all_goals (conv => whnf)
      all_goals first | (exfalso; simp_all; done) | (exfalso; simp at *; omega) | (refine RetO.mk ⟨[(902, .k 902), (1, .k 1), (907, .k 907)], _, _, (by first | exact LeS.d (by first | exact LeD.u rfl | fail) | fail), (by repeat (first | exact LeO.nil | refine LeO.bx rfl rfl (by repeat (first | exact LeL.nil | refine LeL.cons (by first | exact LeD.u rfl | fail) ?_)) ?_ | refine LeO.ab rfl rfl (by repeat (first | exact LeL.nil | refine LeL.cons (by first | exact LeD.p rfl | fail) ?_)) (by first | rfl | fail) ?_ | fail)), rfl, rfl⟩)
end Go.Proofs.YtabmcfnefjipbaaGreatDoor
namespace Go.Proofs.YtabmcfnefjipbaaGreatDoor
open Go.RowKit
set_option maxHeartbeats 8000000 in
theorem doA_show (us : List Value) (zb : Fz) {l : List Ev} (hv : Vd l) (hL : l.length ≤ 20000) (he : ∀ e ∈ l, e.locs.length ≤ 9000000000) (hn : ∀ e ∈ l, e.line ≤ 9223372036854775807) (p : Int) (hp : -1 ≤ p ∧ p ≤ (l.length : Int)) (bs : List Bp) (hb : bs.length ≤ 1000) (c : ByteArray) (hc : c.size ≤ 4000) (zt : Fz) (hz : Tab zt) (hcm : cmdM (depM l p) bs c = none) (c1 : c ≠ clearK) (c2 : c ≠ whereK) (c3 : ¬ (cutW c = breakK ∧ ((spN 3 (cutR' c)).length = 2 ∨ (spN 3 (cutR' c)).length = 4))) (c4 : isShow c = true) :
    CallsA Tryz.prog 65 [.d (.p 1 0), dsr c] [(902, .ab [.p 1 0] us zb (· = [])), (1, .bx 120 (sesV l p bs)), (907, tbOb zt)] (Iso (dsr (if (showM l p (cutR' c)).isSome = true ∧ nameB (cutR' c) = true then (showM l p (cutR' c)).getD emB else unknownB)) [(902, .ab [.p 1 0] us zb (· = [])), (1, .bx 120 (sesV l (p) (bs))), (907, tbOb zt)]) := by
  have hcut := cutJ_T c (by omega)
  have hmo : CallsA Tryz.prog 54 [.d (.u (evs l)), .d (.u (bkV bs)), di p] [] (Iso (.d (.mp 920)) [(920, .mp false true (motE (depM l p) (bkV bs)))]) := by
    cases bs with
    | nil => exact motions0_T l p hp
    | cons b r => exact motions_T l (b :: r) p hp
  have hmk : ∀ e ∈ l, CallsA Tryz.prog 89 [.a e.ds, .d (.q [bkV bs] 0)] [] (Is (db (bs.any (hitB e)))) := by
    intro e q
    cases bs with
    | nil => exact mrk0_T e (he e q)
    | cons b r => exact mrk_T (b :: r) e (he e q) (by omega)
  obtain ⟨m1, m2⟩ := motE_get (depM l p) (bkV bs) c zMot
  have hok := motE_ok (depM l p) (bkV bs)
  rw [cmd_none hcm] at m1 m2
  clear hmk hcm
  refine callsA_of_rdO (T := tt) Tryz.func65 rfl rfl rfl rfl rfl ?_
  refine' cutR (fun _ : Unit => True) (fun _ => ⟨[(0, .d (.p 1 0)), (1, dsr c), (5, dsr (cutW c)), (6, dsr (cutR' c)), (9, db false)], [(902, .ab [.p 1 0] us zb (· = [])), (1, .bx 120 (sesV l p bs)), (907, tbOb zt)]⟩) _ (fun hR => ?_) ?_
  rotate_left
  · repeat' ((conv => whnf); first | refine Mlk.of zMot false (by kernel_rfl) hok m1 m2 ?_ | (exact Gs.cut (i := 3) (by assumption) () [(902, .k 902), (1, .k 1), (907, .k 907)] rfl ⟨by (try dsimp only); (repeat (refine LeT.cons rfl (by first | exact LeS.d (by first | exact LeD.u rfl | exact LeD.p rfl | fail) | fail) ?_)); (first | exact LeT.nil | fail), by (try dsimp only); (repeat (first | exact LeO.nil | refine LeO.bx rfl rfl (by repeat (first | exact LeL.nil | refine LeL.cons (by first | exact LeD.u rfl | fail) ?_)) ?_ | refine LeO.ab rfl rfl (by repeat (first | exact LeL.nil | refine LeL.cons (by first | exact LeD.p rfl | fail) ?_)) (by first | rfl | fail) ?_ | fail)); done⟩ (by trivial)) | refine Gs.id ?_ | with_reducible refine And.intro ?_ ?_ | refine Drw.ofT (T := tt) (i := 2) [3, 7, 11, 12, 14, 18, 19] [0, 1, 2, 4, 5, 6, 8, 9, 10, 13, 15, 16, 17, 20] (OF.fst 0 (OF.fst 1 (OF.fst 2 (OF.fst 4 (OF.fst 5 (OF.fst 6 (OF.fst 8 (OF.fst 9 (OF.fst 10 (OF.fst 13 (OF.alt 3 (OF.alt 7 (OF.alt 11 (OF.alt 12 (OF.alt 14 (OF.fst 15 (OF.fst 16 (OF.fst 17 (OF.alt 18 (OF.alt 19 (OF.fst 20 OF.nil) OF.nil) OF.nil)))) (OF.alt 18 (OF.alt 14 (OF.fst 15 (OF.fst 16 (OF.fst 17 (OF.alt 19 (OF.fst 20 OF.nil) OF.nil)))) OF.nil) OF.nil)) (OF.alt 18 (OF.alt 12 (OF.alt 14 (OF.fst 15 (OF.fst 16 (OF.fst 17 (OF.alt 19 (OF.fst 20 OF.nil) OF.nil)))) OF.nil) OF.nil) OF.nil)) (OF.alt 18 (OF.alt 11 (OF.alt 12 (OF.alt 14 (OF.fst 15 (OF.fst 16 (OF.fst 17 (OF.alt 19 (OF.fst 20 OF.nil) OF.nil)))) OF.nil) OF.nil) OF.nil) OF.nil)) (OF.alt 11 (OF.alt 7 (OF.alt 12 (OF.alt 14 (OF.fst 15 (OF.fst 16 (OF.fst 17 (OF.alt 18 (OF.alt 19 (OF.fst 20 OF.nil) OF.nil) OF.nil)))) (OF.alt 18 (OF.alt 14 (OF.fst 15 (OF.fst 16 (OF.fst 17 (OF.alt 19 (OF.fst 20 OF.nil) OF.nil)))) OF.nil) OF.nil)) (OF.alt 18 (OF.alt 12 (OF.alt 14 (OF.fst 15 (OF.fst 16 (OF.fst 17 (OF.alt 19 (OF.fst 20 OF.nil) OF.nil)))) OF.nil) OF.nil) OF.nil)) (OF.alt 18 (OF.alt 7 (OF.alt 12 (OF.alt 14 (OF.fst 15 (OF.fst 16 (OF.fst 17 (OF.alt 19 (OF.fst 20 OF.nil) OF.nil)))) OF.nil) OF.nil) OF.nil) OF.nil)) (OF.alt 18 (OF.alt 7 (OF.alt 11 (OF.alt 12 (OF.alt 14 (OF.fst 15 (OF.fst 16 (OF.fst 17 (OF.alt 19 (OF.fst 20 OF.nil) OF.nil)))) OF.nil) OF.nil) OF.nil) (OF.alt 11 (OF.alt 7 (OF.alt 12 (OF.alt 14 (OF.fst 15 (OF.fst 16 (OF.fst 17 (OF.alt 19 (OF.fst 20 OF.nil) OF.nil)))) OF.nil) OF.nil) OF.nil) OF.nil)) OF.nil))) (OF.alt 7 (OF.alt 3 (OF.alt 11 (OF.alt 12 (OF.alt 14 (OF.fst 15 (OF.fst 16 (OF.fst 17 (OF.alt 18 (OF.alt 19 (OF.fst 20 OF.nil) OF.nil) OF.nil)))) (OF.alt 18 (OF.alt 14 (OF.fst 15 (OF.fst 16 (OF.fst 17 (OF.alt 19 (OF.fst 20 OF.nil) OF.nil)))) OF.nil) OF.nil)) (OF.alt 18 (OF.alt 12 (OF.alt 14 (OF.fst 15 (OF.fst 16 (OF.fst 17 (OF.alt 19 (OF.fst 20 OF.nil) OF.nil)))) OF.nil) OF.nil) OF.nil)) (OF.alt 18 (OF.alt 11 (OF.alt 12 (OF.alt 14 (OF.fst 15 (OF.fst 16 (OF.fst 17 (OF.alt 19 (OF.fst 20 OF.nil) OF.nil)))) OF.nil) OF.nil) OF.nil) OF.nil)) (OF.alt 11 (OF.alt 3 (OF.alt 12 (OF.alt 14 (OF.fst 15 (OF.fst 16 (OF.fst 17 (OF.alt 18 (OF.alt 19 (OF.fst 20 OF.nil) OF.nil) OF.nil)))) (OF.alt 18 (OF.alt 14 (OF.fst 15 (OF.fst 16 (OF.fst 17 (OF.alt 19 (OF.fst 20 OF.nil) OF.nil)))) OF.nil) OF.nil)) (OF.alt 18 (OF.alt 12 (OF.alt 14 (OF.fst 15 (OF.fst 16 (OF.fst 17 (OF.alt 19 (OF.fst 20 OF.nil) OF.nil)))) OF.nil) OF.nil) OF.nil)) (OF.alt 18 (OF.alt 3 (OF.alt 12 (OF.alt 14 (OF.fst 15 (OF.fst 16 (OF.fst 17 (OF.alt 19 (OF.fst 20 OF.nil) OF.nil)))) OF.nil) OF.nil) OF.nil) OF.nil)) (OF.alt 18 (OF.alt 3 (OF.alt 11 (OF.alt 12 (OF.alt 14 (OF.fst 15 (OF.fst 16 (OF.fst 17 (OF.alt 19 (OF.fst 20 OF.nil) OF.nil)))) OF.nil) OF.nil) OF.nil) (OF.alt 11 (OF.alt 3 (OF.alt 12 (OF.alt 14 (OF.fst 15 (OF.fst 16 (OF.fst 17 (OF.alt 19 (OF.fst 20 OF.nil) OF.nil)))) OF.nil) OF.nil) OF.nil) OF.nil)) OF.nil))) (OF.alt 11 (OF.alt 3 (OF.alt 7 (OF.alt 12 (OF.alt 14 (OF.fst 15 (OF.fst 16 (OF.fst 17 (OF.alt 18 (OF.alt 19 (OF.fst 20 OF.nil) OF.nil) OF.nil)))) (OF.alt 18 (OF.alt 14 (OF.fst 15 (OF.fst 16 (OF.fst 17 (OF.alt 19 (OF.fst 20 OF.nil) OF.nil)))) OF.nil) OF.nil)) (OF.alt 18 (OF.alt 12 (OF.alt 14 (OF.fst 15 (OF.fst 16 (OF.fst 17 (OF.alt 19 (OF.fst 20 OF.nil) OF.nil)))) OF.nil) OF.nil) OF.nil)) (OF.alt 18 (OF.alt 7 (OF.alt 12 (OF.alt 14 (OF.fst 15 (OF.fst 16 (OF.fst 17 (OF.alt 19 (OF.fst 20 OF.nil) OF.nil)))) OF.nil) OF.nil) OF.nil) OF.nil)) (OF.alt 7 (OF.alt 3 (OF.alt 12 (OF.alt 14 (OF.fst 15 (OF.fst 16 (OF.fst 17 (OF.alt 18 (OF.alt 19 (OF.fst 20 OF.nil) OF.nil) OF.nil)))) (OF.alt 18 (OF.alt 14 (OF.fst 15 (OF.fst 16 (OF.fst 17 (OF.alt 19 (OF.fst 20 OF.nil) OF.nil)))) OF.nil) OF.nil)) (OF.alt 18 (OF.alt 12 (OF.alt 14 (OF.fst 15 (OF.fst 16 (OF.fst 17 (OF.alt 19 (OF.fst 20 OF.nil) OF.nil)))) OF.nil) OF.nil) OF.nil)) (OF.alt 18 (OF.alt 3 (OF.alt 12 (OF.alt 14 (OF.fst 15 (OF.fst 16 (OF.fst 17 (OF.alt 19 (OF.fst 20 OF.nil) OF.nil)))) OF.nil) OF.nil) OF.nil) OF.nil)) (OF.alt 18 (OF.alt 3 (OF.alt 7 (OF.alt 12 (OF.alt 14 (OF.fst 15 (OF.fst 16 (OF.fst 17 (OF.alt 19 (OF.fst 20 OF.nil) OF.nil)))) OF.nil) OF.nil) OF.nil) (OF.alt 7 (OF.alt 3 (OF.alt 12 (OF.alt 14 (OF.fst 15 (OF.fst 16 (OF.fst 17 (OF.alt 19 (OF.fst 20 OF.nil) OF.nil)))) OF.nil) OF.nil) OF.nil) OF.nil)) OF.nil))) (OF.alt 18 (OF.alt 3 (OF.alt 7 (OF.alt 11 (OF.alt 12 (OF.alt 14 (OF.fst 15 (OF.fst 16 (OF.fst 17 (OF.alt 19 (OF.fst 20 OF.nil) OF.nil)))) OF.nil) OF.nil) OF.nil) (OF.alt 11 (OF.alt 7 (OF.alt 12 (OF.alt 14 (OF.fst 15 (OF.fst 16 (OF.fst 17 (OF.alt 19 (OF.fst 20 OF.nil) OF.nil)))) OF.nil) OF.nil) OF.nil) OF.nil)) (OF.alt 7 (OF.alt 3 (OF.alt 11 (OF.alt 12 (OF.alt 14 (OF.fst 15 (OF.fst 16 (OF.fst 17 (OF.alt 19 (OF.fst 20 OF.nil) OF.nil)))) OF.nil) OF.nil) OF.nil) (OF.alt 11 (OF.alt 3 (OF.alt 12 (OF.alt 14 (OF.fst 15 (OF.fst 16 (OF.fst 17 (OF.alt 19 (OF.fst 20 OF.nil) OF.nil)))) OF.nil) OF.nil) OF.nil) OF.nil)) (OF.alt 11 (OF.alt 3 (OF.alt 7 (OF.alt 12 (OF.alt 14 (OF.fst 15 (OF.fst 16 (OF.fst 17 (OF.alt 19 (OF.fst 20 OF.nil) OF.nil)))) OF.nil) OF.nil) OF.nil) (OF.alt 7 (OF.alt 3 (OF.alt 12 (OF.alt 14 (OF.fst 15 (OF.fst 16 (OF.fst 17 (OF.alt 19 (OF.fst 20 OF.nil) OF.nil)))) OF.nil) OF.nil) OF.nil) OF.nil)) OF.nil))) OF.nil)))))))))))))) (by kernel_rfl) ?_ | (refine CL.mk (Or.inl ?_); (conv => whnf); refine Cl.is (hcut) rfl (by first | exact fun _ => rfl | fail) ?_) | (refine CL.mk (Or.inr (Raw.callI [] [920] rfl rfl rfl rfl rfl rfl rfl (hmo) ?_)); rintro _ _ ⟨rfl, rfl⟩; refine Bk.mk rfl rfl ?_)) --D
  · intro _ _
    dsimp only
    clear hcut hmo m1 m2 hok
    have hcs := cutR_size c
    have hsp := splitN_T (cutR' c) (by omega)
    have hst := hasShow_T c
    have hsh := show_T hv hL he p hp (cutR' c)
    have hnm := isName_T' (cutR' c)
    have hlw : ((strs (spN 3 (cutR' c))).length : Int) = ((spN 3 (cutR' c)).length : Int) := by simp
    have t1 := toList_beq c clearK
    have t2 := toList_beq c whereK
    have t3 := toList_beq (cutW c) breakK
    have hadd := fun h => add_P l p bs (spN 3 (cutR' c)) hb h
    generalize spN 3 (cutR' c) = ws at *
    generalize cutR' c = rest at *
    generalize cutW c = word at *
    generalize showM l p rest = o at *
    generalize isShow c = bsh at *
    generalize nameB rest = bnm at *
    rw [decide_eq_false c1] at t1
    rw [decide_eq_false c2] at t2
    clear hadd
    have hb3 : ∃ b3 : Bool, (word.toList == breakK.toList) = b3 ∧ (b3 = true → ¬ (ws.length = 2 ∨ ws.length = 4)) := ⟨_, rfl, fun h h' => c3 ⟨by rw [t3] at h; exact of_decide_eq_true h, h'⟩⟩
    obtain ⟨b3, t4, t5⟩ := hb3
    clear t3
    subst c4
    dsimp only [varS] at hsh
    generalize o.getD emB = tx at *
    generalize o.isSome = bo at *
    cases bo <;> cases bnm
    all_goals
      first | rw [if_pos ⟨rfl, rfl⟩] | rw [if_neg (by simp)]
      cases b3
      · repeat' ((conv => whnf); first | rw [t1] | rw [t2] | rw [t4] | refine Gs.id ?_ | with_reducible refine Brn.T rfl ?_ | with_reducible refine Brn.F rfl ?_ | refine Drw.of (T := tt) (i := 27) [] [] [(0, true), (1, true), (2, true), (3, true), (4, true), (5, true), (6, true), (7, true), (8, true), (9, false), (10, true), (11, true), (12, true), (13, true), (14, true)] (by kernel_rfl) ?_ | (refine CL.mk (Or.inl ?_); (conv => whnf); first | refine Cl.is (hsp) rfl (by first | (intro e; cases e; done) | fail) ?_ | refine Cl.is (hst) rfl (by first | exact fun _ => rfl | fail) ?_ | refine Cl.is (hsh) rfl (by first | exact fun _ => rfl | fail) ?_ | refine Cl.is (hnm) rfl (by first | exact fun _ => rfl | fail) ?_) | fail)
        all_goals (conv => whnf)
        all_goals first | (exfalso; simp_all; done) | (exfalso; simp at *; omega) | (refine RetO.mk ⟨[(902, .k 902), (1, .k 1), (907, .k 907)], _, _, (by first | exact LeS.d (by first | exact LeD.u rfl | fail) | fail), (by repeat (first | exact LeO.nil | refine LeO.bx rfl rfl (by repeat (first | exact LeL.nil | refine LeL.cons (by first | exact LeD.u rfl | fail) ?_)) ?_ | refine LeO.ab rfl rfl (by repeat (first | exact LeL.nil | refine LeL.cons (by first | exact LeD.p rfl | fail) ?_)) (by first | rfl | fail) ?_ | fail)), rfl, rfl⟩)
      · have t6 := t5 rfl
        repeat' ((conv => whnf); first | rw [t1] | rw [t2] | rw [t4] | refine Gs.id ?_ | with_reducible refine Brn.T rfl ?_ | with_reducible refine Brn.F rfl ?_ | refine Brn.F (by (try simp only [smT]); first | rfl | omega | fail) ?_ | (refine Bnd.mk (fun hm => ?_); (try simp only [smT] at hm)) | refine Drw.of (T := tt) (i := 27) [] [] [(0, true), (1, true), (2, true), (3, true), (4, true), (5, true), (6, true), (7, true), (8, true), (9, false), (10, true), (11, true), (12, true), (13, true), (14, true)] (by kernel_rfl) ?_ | (refine CL.mk (Or.inl ?_); (conv => whnf); first | refine Cl.is (hsp) rfl (by first | (intro e; cases e; done) | fail) ?_ | refine Cl.is (hst) rfl (by first | exact fun _ => rfl | fail) ?_ | refine Cl.is (hsh) rfl (by first | exact fun _ => rfl | fail) ?_ | refine Cl.is (hnm) rfl (by first | exact fun _ => rfl | fail) ?_) | fail)
        all_goals (conv => whnf)
        all_goals first | (exfalso; simp_all; done) | (exfalso; simp at *; omega) | (refine RetO.mk ⟨[(902, .k 902), (1, .k 1), (907, .k 907)], _, _, (by first | exact LeS.d (by first | exact LeD.u rfl | fail) | fail), (by repeat (first | exact LeO.nil | refine LeO.bx rfl rfl (by repeat (first | exact LeL.nil | refine LeL.cons (by first | exact LeD.u rfl | fail) ?_)) ?_ | refine LeO.ab rfl rfl (by repeat (first | exact LeL.nil | refine LeL.cons (by first | exact LeD.p rfl | fail) ?_)) (by first | rfl | fail) ?_ | fail)), rfl, rfl⟩)
end Go.Proofs.YtabmcfnefjipbaaGreatDoor
namespace Go.Proofs.YtabmcfnefjipbaaGreatDoor
open Go.RowKit
theorem doA_T (us : List Value) (zb : Fz) {l : List Ev} (hv : Vd l) (hL : l.length ≤ 20000) (he : ∀ e ∈ l, e.locs.length ≤ 9000000000) (hn : ∀ e ∈ l, e.line ≤ 9223372036854775807) (p : Int) (hp : -1 ≤ p ∧ p ≤ (l.length : Int)) (bs : List Bp) (hb : bs.length ≤ 1000) (c : ByteArray) (hc : c.size ≤ 4000) (hdig : cutW c = breakK → 1 ≤ ((spN 3 (cutR' c))[1]?.getD emB).size ∧ ((spN 3 (cutR' c))[1]?.getD emB).size ≤ 9 ∧ digsB ((spN 3 (cutR' c))[1]?.getD emB)) (zt : Fz) (hz : Tab zt) :
    CallsA Tryz.prog 65 [.d (.p 1 0), dsr c] [(902, .ab [.p 1 0] us zb (· = [])), (1, .bx 120 (sesV l p bs)), (907, tbOb zt)] (Iso (dsr ((doM l ⟨p, bs⟩ c).1)) [(902, .ab [.p 1 0] us zb (· = [])), (1, .bx 120 (sesV l ((doM l ⟨p, bs⟩ c).2.p) ((doM l ⟨p, bs⟩ c).2.bs))), (907, tbOb zt)]) := by
  cases hcm : cmdM (depM l p) bs c with
  | some sg =>
    obtain ⟨s, g⟩ := sg
    have e : doM l ⟨p, bs⟩ c = (atB l (mvM g l s (p + s)), ⟨mvM g l s (p + s), bs⟩) := by unfold doM; dsimp only; rw [hcm]
    rw [e]
    exact doA_some us zb hv hL he hn p hp bs hb c hc zt hz hcm
  | none =>
    have e : doM l ⟨p, bs⟩ c = if c = clearK then (clearedB, ⟨p, []⟩)
    else if c = whereK then (whereL ((activeM l p).map Av.pc), ⟨p, bs⟩)
    else if cutW c = breakK ∧ ((spN 3 (cutR' c)).length = 2 ∨ (spN 3 (cutR' c)).length = 4) then ((addM bs (spN 3 (cutR' c))).1, ⟨p, (addM bs (spN 3 (cutR' c))).2⟩)
    else if isShow c = true then ((if (showM l p (cutR' c)).isSome = true ∧ nameB (cutR' c) = true then (showM l p (cutR' c)).getD emB else unknownB), ⟨p, bs⟩)
    else (whatB, ⟨p, bs⟩) := by unfold doM; dsimp only; rw [hcm]
    rw [e]
    by_cases c1 : c = clearK
    · rw [if_pos c1]
      exact doA_clear us zb hv hL he hn p hp bs hb c hc zt hz hcm c1
    · rw [if_neg c1]
      by_cases c2 : c = whereK
      · rw [if_pos c2]
        exact doA_where us zb hv hL he hn p hp bs hb c hc zt hz hcm c1 c2
      · rw [if_neg c2]
        by_cases c3 : cutW c = breakK ∧ ((spN 3 (cutR' c)).length = 2 ∨ (spN 3 (cutR' c)).length = 4)
        · rw [if_pos c3]
          exact doA_break us zb hv hL he hn p hp bs hb c hc zt hz hcm c1 c2 c3 hdig
        · rw [if_neg c3]
          cases c4 : isShow c
          · rw [if_neg (by simp)]
            exact doA_else us zb hv hL he hn p hp bs hb c hc zt hz hcm c1 c2 c3 c4
          · rw [if_pos rfl]
            exact doA_show us zb hv hL he hn p hp bs hb c hc zt hz hcm c1 c2 c3 c4
end Go.Proofs.YtabmcfnefjipbaaGreatDoor
namespace Go.Proofs.YtabmcfnefjipbaaGreatDoor
open Go.RowKit
def digOk (c : ByteArray) : Prop := cutW c = breakK → 1 ≤ ((spN 3 (cutR' c))[1]?.getD emB).size ∧ ((spN 3 (cutR' c))[1]?.getD emB).size ≤ 9 ∧ digsB ((spN 3 (cutR' c))[1]?.getD emB)
theorem do_P {l : List Ev} (hv : Vd l) (hL : l.length ≤ 20000) (he : ∀ e ∈ l, e.locs.length ≤ 9000000000) (hn : ∀ e ∈ l, e.line ≤ 9223372036854775807) (p : Int) (hp : -1 ≤ p ∧ p ≤ (l.length : Int)) (bs : List Bp) (hb : bs.length ≤ 1000) (c : ByteArray) (hc : c.size ≤ 4000) (hdig : digOk c) (zt : Fz) (hz : Tab zt) :
    CallsP Tryz.prog 65 [.d (.p 1 0), dsr c] [(1, .bx 120 (sesV l p bs)), (907, tbOb zt)] [1] (Iso (dsr (doM l ⟨p, bs⟩ c).1) [(1, .bx 120 (sesV l (doM l ⟨p, bs⟩ c).2.p (doM l ⟨p, bs⟩ c).2.bs)), (907, tbOb zt)]) := by
  refine .ofP 902 [1] rfl (fun p hp => ?_) (fun j hj => ?_) fun us zb => doA_T us zb hv hL he hn p hp bs hb c hc hdig zt hz
  · simp only [List.mem_cons, List.not_mem_nil, or_false] at hp
    rcases hp with rfl | rfl
    · simp [NorP, norD]
    · simp [NorP]
  · simp only [List.mem_cons, List.not_mem_nil, or_false] at hj
    subst hj
    exact ⟨_, _, _, _, rfl, rfl, rfl⟩
/-- A session, command by command: what it says, where it is. -/
def sesAt (l : List Ev) (cs : List ByteArray) : Nat → List ByteArray × Ses
  | 0 => ([], ⟨-1, []⟩)
  | i + 1 => match cs[i]? with
    | some c => ((sesAt l cs i).1 ++ [(doM l (sesAt l cs i).2 c).1], (doM l (sesAt l cs i).2 c).2)
    | none => sesAt l cs i
theorem addM_len (bs : List Bp) (ws : List ByteArray) : (addM bs ws).2.length ≤ bs.length + 1 := by
  unfold addM
  split
  · dsimp only; omega
  · unfold addG
    split
    · dsimp only; omega
    · simp
theorem doM_ok {l : List Ev} {s : Ses} {c : ByteArray} (hp : -1 ≤ s.p ∧ s.p ≤ (l.length : Int)) : (-1 ≤ (doM l s c).2.p ∧ (doM l s c).2.p ≤ (l.length : Int)) ∧ (doM l s c).2.bs.length ≤ s.bs.length + 1 := by
  unfold doM
  split
  · rename_i st g hc
    have hs : st = 1 ∨ st = -1 := by
      unfold cmdM at hc
      (repeat' split at hc) <;> first | (cases hc; done) | (injection hc with hc; injection hc with h1 _; omega)
    exact ⟨mvM_rng hs _ _ (Nat.le_refl _), by dsimp only; omega⟩
  · split
    · exact ⟨hp, by simp⟩
    · split
      · exact ⟨hp, by dsimp only; omega⟩
      · split
        · exact ⟨hp, addM_len _ _⟩
        · split
          · exact ⟨hp, by dsimp only; omega⟩
          · exact ⟨hp, by dsimp only; omega⟩
theorem sesAt_ok {l : List Ev} {cs : List ByteArray} : ∀ i, (-1 ≤ (sesAt l cs i).2.p ∧ (sesAt l cs i).2.p ≤ (l.length : Int)) ∧ (sesAt l cs i).2.bs.length ≤ i
  | 0 => ⟨⟨Int.le_refl _, by simp only [sesAt]; omega⟩, Nat.le_refl _⟩
  | i + 1 => by
    obtain ⟨h1, h2⟩ := sesAt_ok (l := l) (cs := cs) i
    rw [sesAt]
    split
    · rename_i c hc
      have := doM_ok (c := c) h1
      exact ⟨this.1, by have := this.2; dsimp only; omega⟩
    · exact ⟨h1, by omega⟩
set_option maxHeartbeats 4000000 in
theorem session_T {l : List Ev} (hv0 : (validM l).1 = 0) (he : ∀ e ∈ l, e.locs.length ≤ 9000000000) (hn : ∀ e ∈ l, e.line ≤ 9223372036854775807) (cs : List ByteArray) (hcl : cs.length ≤ 200) (hcs : ∀ c ∈ cs, c.size ≤ 4000 ∧ digOk c) (zt : Fz) (hz : Tab zt) :
    CallsA Tryz.prog 31 [.d (.u (evs l)), .d (.u (strs' cs))] [(907, tbOb zt)] (Iso (.t [.d (.ow 931 (sesAt l cs cs.length).1.length), .a [.u (.int .i64 0), .u (.int .i64 0)]]) [(931, .ar 9 1 (strs (sesAt l cs cs.length).1)), (907, tbOb zt)]) := by
  have h1 := validate_T l
  obtain ⟨hv, hL⟩ := valid_Vd hv0
  have hz0 : validM l = (0, 0) := by
    have q := posM_zero (l := l) (p := -1) (by unfold posM; rw [if_neg (by simpa using hv0), if_neg (by omega)])
    unfold posM at q
    rw [if_neg (by simpa using hv0)] at q
    have e1 : (validM l).2 = 0 := by
      have : ∀ (r : List Ev) (i f : Int) (a : List Fu), (vFrom i f a r).1 = 0 → (vFrom i f a r).2 = 0 := by
        intro r
        induction r with
        | nil => intro i f a _; rfl
        | cons x r ih =>
          intro i f a h
          rw [vFrom] at h ⊢
          split at h
          · rename_i h2; exact absurd h h2
          · rename_i h2; rw [if_neg h2]; exact ih _ _ _ h
      unfold validM at hv0 ⊢
      split at hv0
      · cases hv0
      · rename_i h2; rw [if_neg h2]; exact this _ _ _ _ hv0
    exact Prod.ext hv0 e1
  rw [hz0] at h1
  clear hz0 hv0
  refine callsA_of_vcO (T := tt) Tryz.func31 rfl rfl rfl rfl rfl ?_
  repeat' ((conv => whnf); first | refine Gs.id ?_ | with_reducible refine Brn.F rfl ?_ | refine Brn.F (by (try simp only [smT]); first | rfl | omega | fail) ?_ | (refine Bnd.mk (fun hm => ?_); (try simp only [smT] at hm)) | (refine CL.mk (Or.inl ?_); (conv => whnf); refine Cl.is (h1) rfl (by first | exact fun _ => rfl | fail) ?_) | fail)
  all_goals (conv => whnf)
  all_goals try (exfalso; simp at *; omega)
  refine ⟨⟨Nat, fun i => i ≤ cs.length, fun i => cs.length - i, fun i => ⟨[(0, .d (.u (evs l))), (1, .d (.u (strs' cs))), (5, .d (.p 5 0)), (23, .d (.u (strs' cs))), (24, di cs.length), (25, di i)], [(5, .bx 25 [.u (.int .i64 0), .u (.int .i64 0)]), (907, tbOb zt)]⟩, 0, Nat.zero_le _, ⟨[(5, .k 5), (907, .k 907)], ⟨by (try dsimp only); (repeat (refine LeT.cons rfl (by first | exact LeS.d (by first | exact LeD.u rfl | exact LeD.p rfl | exact LeD.u (by simp; done) | fail) | fail) ?_)); exact LeT.nil, by (try dsimp only); repeat (first | exact LeO.nil | refine LeO.bx rfl rfl (by repeat (first | exact LeL.nil | refine LeL.cons (by first | exact LeD.u rfl | fail) ?_)) ?_ | refine LeO.ab rfl rfl (by repeat (first | exact LeL.nil | fail)) (by first | rfl | fail) ?_ | fail)⟩⟩, fun i hi => ?_⟩⟩
  dsimp only at hi ⊢
  by_cases h9 : i < cs.length
  · have hrow : ∀ {K : List V → Prop}, K [V.str cs[i]] → Ix (strs cs) (i : Int) K := fun k => Ix.map rfl h9 k
    have hcz := (hcs cs[i] (List.getElem_mem h9)).1
    generalize cs[i] = c at *
    repeat' ((conv => whnf); first | refine hrow ?_ | refine Gs.id ?_ | refine Brn.T (by (try simp only [smT]); first | rfl | omega | fail) ?_ | refine Brn.F (by (try simp only [smT]); first | rfl | omega | fail) ?_ | (refine Bnd.mk (fun hm => ?_); (try simp only [smT] at hm)) | refine Rng.mk (by (try simp only [smT]); omega) ?_ | fail)
    all_goals (conv => whnf)
    all_goals first | (exfalso; simp at *; omega) | exact ⟨i + 1, by omega, by omega, [(5, .k 5), (907, .k 907)], ⟨by (try dsimp only); (repeat (refine LeT.cons rfl (by first | exact LeS.d (by first | exact LeD.u rfl | exact LeD.p rfl | fail) | fail) ?_)); exact LeT.nil, by (try dsimp only); repeat (first | exact LeO.nil | refine LeO.bx rfl rfl (by repeat (first | exact LeL.nil | refine LeL.cons (by first | exact LeD.u rfl | fail) ?_)) ?_ | refine LeO.ab rfl rfl (by repeat (first | exact LeL.nil | fail)) (by first | rfl | fail) ?_ | fail)⟩⟩
  · obtain rfl : i = cs.length := by omega
    repeat' ((conv => whnf); first | refine Gs.id ?_ | refine Brn.F (by (try simp only [smT]); first | rfl | omega | fail) ?_ | (refine Bnd.mk (fun hm => ?_); (try simp only [smT] at hm)) | fail)
    all_goals (conv => whnf)
    all_goals try (exfalso; simp at *; omega)
    refine ⟨⟨Nat, fun i => i ≤ cs.length, fun i => cs.length - i, fun i => ⟨[(5, .d (.p 5 0)), (9, .d (.p 1 0)), (10, .d (.ow 931 (sesAt l cs i).1.length)), (40, .d (.u (strs' cs))), (41, di cs.length), (42, di i)], [(5, .bx 25 [.u (.int .i64 0), .u (.int .i64 0)]), (1, .bx 120 (sesV l (sesAt l cs i).2.p (sesAt l cs i).2.bs)), (931, .ar 9 1 (strs (sesAt l cs i).1)), (907, tbOb zt)]⟩, 0, Nat.zero_le _, ⟨[(5, .k 5), (1, .k 39), (931, .n 1), (907, .k 907)], ⟨by (try dsimp only); (repeat (refine LeT.cons rfl (by first | exact LeS.d (by first | exact LeD.u rfl | exact LeD.p rfl | exact LeD.no rfl rfl | exact LeD.u (by simp [sesAt, bkV]; done) | fail) | fail) ?_)); exact LeT.nil, by (try dsimp only); repeat (first | exact LeO.nil | refine LeO.bx rfl rfl (by repeat (first | exact LeL.nil | refine LeL.cons (by first | exact LeD.u rfl | fail) ?_)) ?_ | refine LeO.ab rfl rfl (by repeat (first | exact LeL.nil | fail)) (by first | rfl | fail) ?_ | refine LeO.no rfl rfl ?_)⟩⟩, fun i hi => ?_⟩⟩
    dsimp only at hi ⊢
    by_cases h8 : i < cs.length
    · have hci : cs[i]? = some cs[i] := List.getElem?_eq_getElem h8
      have hrow : ∀ {K : List V → Prop}, K [V.str cs[i]] → Ix (strs cs) (i : Int) K := fun k => Ix.map rfl h8 k
      obtain ⟨hcz, hdg⟩ := hcs cs[i] (List.getElem_mem h8)
      obtain ⟨o1, o2⟩ := sesAt_ok (l := l) (cs := cs) i
      have hlen : ∀ i, (sesAt l cs i).1.length ≤ i := by
        intro i
        induction i with
        | zero => exact Nat.le_refl _
        | succ i ih =>
          rw [sesAt]
          split
          · simp; omega
          · omega
      have hll := hlen i
      have hdo := do_P hv hL he hn (sesAt l cs i).2.p o1 (sesAt l cs i).2.bs (by omega) cs[i] hcz hdg zt hz
      have hst : sesAt l cs (i + 1) = ((sesAt l cs i).1 ++ [(doM l (sesAt l cs i).2 cs[i]).1], (doM l (sesAt l cs i).2 cs[i]).2) := by rw [sesAt, hci]
      clear hlen
      have hse : (⟨(sesAt l cs i).2.p, (sesAt l cs i).2.bs⟩ : Ses) = (sesAt l cs i).2 := rfl
      rw [hse] at hdo
      generalize doM l (sesAt l cs i).2 cs[i] = dm at *
      generalize cs[i] = c at *
      generalize sesAt l cs i = x at *
      obtain ⟨outs, x2⟩ := x
      obtain ⟨ans, x3⟩ := dm
      dsimp only at *
      repeat' ((conv => whnf); first | refine hrow ?_ | refine Gs.id ?_ | refine Brn.T (by (try simp only [smT]); first | rfl | omega | fail) ?_ | refine Rng.mk (by (try simp only [smT]); omega) ?_ | refine Apd.mk (by first | rfl | simp) (by first | rfl | fail) (by (try simp only [smT]); first | omega | fail) (by unfold maxLen; first | (simp; omega) | fail) ?_ | (refine CL.mk (Or.inr (Raw.callFP (x := .func _) [1] [1,907] [907] rfl rfl rfl rfl rfl rfl rfl rfl rfl (hdo) ?_)); rintro _ _ ⟨rfl, rfl⟩; refine BkP.mk rfl rfl ?_))
      all_goals (conv => whnf)
      all_goals first | (exfalso; simp at *; omega) | exact ⟨i + 1, by omega, by omega, [(5, .k 5), (1, .k 1), (931, .k 51), (907, .k 907)], by (rw [hst]; exact ⟨by (try dsimp only); (repeat (refine LeT.cons rfl (by first | exact LeS.d (by first | exact LeD.u rfl | exact LeD.p rfl | exact LeD.ow rfl (by simp) | fail) | fail) ?_)); exact LeT.nil, by (try dsimp only); repeat (first | exact LeO.nil | refine LeO.bx rfl rfl (by repeat (first | exact LeL.nil | refine LeL.cons (by first | exact LeD.u rfl | fail) ?_)) ?_ | refine LeO.ar rfl rfl (by first | rfl | simp) ?_ | refine LeO.ab rfl rfl (by repeat (first | exact LeL.nil | fail)) (by first | rfl | fail) ?_ | fail)⟩)⟩
    · obtain rfl : i = cs.length := by omega
      repeat' ((conv => whnf); first | refine Gs.id ?_ | refine Brn.F (by (try simp only [smT]); first | rfl | omega | fail) ?_ | fail)
      all_goals (conv => whnf)
      all_goals first | (exfalso; simp at *; omega) | (refine RetO.mk ⟨[(931, .k 931), (907, .k 907)], _, _, (by exact LeS.ts (by repeat (first | exact LeCs.nil | refine LeCs.cons (by first | exact LeC.d (by first | exact LeD.ow rfl rfl | fail) | exact LeC.a (by repeat (first | exact LeL.nil | refine LeL.cons (by first | exact LeD.u rfl | fail) ?_))) ?_))), (by repeat (first | exact LeO.nil | refine LeO.ar rfl rfl (by first | rfl | fail) ?_ | refine LeO.ab rfl rfl (by repeat (first | exact LeL.nil | fail)) (by first | rfl | fail) ?_ | fail)), rfl, rfl⟩)
end Go.Proofs.YtabmcfnefjipbaaGreatDoor
namespace Go.Proofs.YtabmcfnefjipbaaGreatDoor
open Go.RowKit
abbrev mainB : ByteArray := ByteArray.mk #[109, 97, 105, 110]
abbrev moduleB : ByteArray := ByteArray.mk #[109, 111, 100, 117, 108, 101]
abbrev fB : ByteArray := ByteArray.mk #[102]
abbrev noB : ByteArray := ByteArray.mk #[]
abbrev mkEv (k : Int) (fn : ByteArray) (d f : Int) : Ev := ⟨k, mainB, fn, 0, d, f, noB, []⟩
theorem event_T (k : Int) (fn : ByteArray) (d f : Int) : CallsA Tryz.prog 77 [di k, dsr fn, di d, di f] [] (Is (.a (mkEv k fn d f).ds)) := by
  refine callsA_of_vc (T := tt) Tryz.func77 rfl rfl rfl rfl rfl ?_
  repeat' ((conv => whnf); first | refine Gs.id ?_ | fail)
  all_goals (conv => whnf)
  all_goals exact Ret.nl (by repeat (first | exact NlL.nil | exact NlD.refl | exact NlD.u (NlV.nl (by first | rfl | fail)) | refine NlL.cons ?_ ?_ | refine NlS.a ?_ | fail))
/-- The trace of a call. -/
def nestL : List Ev := [mkEv 2 moduleB 1 0, mkEv 2 fB 2 2, ⟨1, mainB, fB, 7, 2, 3, noB, [(ByteArray.mk #[120], ByteArray.mk #[49])]⟩, mkEv 3 fB 2 5, mkEv 3 moduleB 1 6]
theorem nested_T : CallsA Tryz.prog 45 [] [] (Is (.d (.u (evs nestL)))) := by
  have h1 := fun k fn d f => event_T k fn d f
  refine callsA_of_vc (T := tt) Tryz.func45 rfl rfl rfl rfl rfl ?_
  repeat' ((conv => whnf); first | refine Drw.ghost (i := 4) ((Ghost.frzA 5 rfl (by repeat ((conv => whnf); first | exact trivial | refine Len.mk (by first | rfl | fail) ?_))).trans (Ghost.frzB 1 rfl rfl)) ?_ | refine Gs.id ?_ | refine Len.mk (by first | rfl | fail) ?_ | refine Drw.of (T := tt) (i := 4) [] [] [(2, true), (0, false), (1, false), (3, false), (4, false), (5, false), (6, true)] (by kernel_rfl) ?_ | (refine CL.mk (Or.inl ?_); (conv => whnf); refine Cl.is (h1 _ _ _ _) rfl (by first | (intro e; cases e; done) | fail) ?_) | fail)
  all_goals (conv => whnf)
  all_goals exact Ret.is rfl
end Go.Proofs.YtabmcfnefjipbaaGreatDoor
namespace Go.Proofs.YtabmcfnefjipbaaGreatDoor
open Go.RowKit
abbrev xB : ByteArray := ByteArray.mk #[120]
abbrev oneB : ByteArray := ByteArray.mk #[49]
abbrev cmdsB : List ByteArray := [ByteArray.mk #[98, 114, 101, 97, 107, 32, 109, 97, 105, 110, 32, 55], goK, whereK, ByteArray.mk #[115, 104, 111, 119, 32, 120], outK']
abbrev saysB : List ByteArray := [ByteArray.mk #[98, 114, 101, 97, 107, 112, 111, 105, 110, 116, 32, 49], ByteArray.mk #[109, 97, 105, 110, 58, 55, 32, 102], ByteArray.mk #[109, 97, 105, 110, 58, 55, 32, 102, 59, 32, 109, 97, 105, 110, 58, 48, 32, 109, 111, 100, 117, 108, 101], oneB, endB]
theorem nest_move : moveM nestL [] (-1) stepK = (2, (0, 0)) := by kernel_rfl
theorem nest_show : showP nestL 3 xB = (some oneB, (0, 0)) := by kernel_rfl
theorem nest_stack : stackP nestL 2 = [⟨mainB, moduleB, 0⟩, ⟨mainB, fB, 7⟩] := by kernel_rfl
theorem nest_pos : posM nestL 2 = (0, 0) := by kernel_rfl
theorem nest_valid : (validM nestL).1 = 0 := by kernel_rfl
theorem nest_locs : ∀ e ∈ nestL, e.locs.length ≤ 9000000000 := by
  intro e he
  simp only [nestL, List.mem_cons, List.not_mem_nil, or_false] at he
  rcases he with rfl | rfl | rfl | rfl | rfl <;> simp
theorem nest_line : ∀ e ∈ nestL, e.line ≤ 9223372036854775807 := by
  intro e he
  simp only [nestL, List.mem_cons, List.not_mem_nil, or_false] at he
  rcases he with rfl | rfl | rfl | rfl | rfl <;> decide
theorem cmds_ok : ∀ c ∈ cmdsB, c.size ≤ 4000 ∧ digOk c := by
  intro c hc
  simp only [List.mem_cons, List.not_mem_nil, or_false] at hc
  rcases hc with rfl | rfl | rfl | rfl | rfl
  · refine ⟨by decide, fun _ => ?_⟩
    have e : (spN 3 (cutR' (ByteArray.mk #[98, 114, 101, 97, 107, 32, 109, 97, 105, 110, 32, 55])))[1]?.getD emB = ByteArray.mk #[55] := by kernel_rfl
    rw [e]
    refine ⟨by decide, by decide, fun i hi => ?_⟩
    have : i = 0 := by have h1 : (ByteArray.mk #[55]).size = 1 := rfl; omega
    subst this
    decide
  all_goals exact ⟨by decide, fun h => absurd h (by decide +kernel)⟩
theorem nest_says : (sesAt nestL cmdsB cmdsB.length).1 = saysB := by kernel_rfl
set_option maxHeartbeats 4000000 in
theorem stopped_T (zt : Fz) (hz : Tab zt) : CallsA Tryz.prog 24 [] [(907, tbOb zt)] (Iso (db true) [(907, tbOb zt)]) := by
  have h1 := nested_T
  have h2 := move_T nestL [] (-1) stepK nest_locs
  have h3 := showD_T nestL nest_locs 3 xB
  have h4 := stackD_T nestL 2
  have h5 := session_T nest_valid nest_locs nest_line cmdsB (by decide) cmds_ok zt hz
  rw [nest_says] at h5
  rw [nest_move] at h2
  rw [nest_show] at h3
  rw [nest_stack, nest_pos] at h4
  have h6 := strings_R saysB saysB
  rw [decide_eq_true rfl] at h6
  refine callsA_of_vcO (T := tt) Tryz.func24 rfl rfl rfl rfl rfl ?_
  repeat' ((conv => whnf); first | (refine CL.mk (Or.inr (Raw.ghost (Ghost.frzA 28 rfl (by repeat ((conv => whnf); first | exact trivial | refine Len.mk (by first | rfl | fail) ?_))) ?_)); refine (Raw.callI [907] [907, 931] rfl rfl rfl rfl rfl rfl rfl h5 ?_); rintro _ _ ⟨rfl, rfl⟩; refine Bk.mk rfl rfl ?_) | refine Gs.id ?_ | with_reducible refine Brn.F rfl ?_ | refine Brn.T (by (try simp only [smT]); first | rfl | (simp [*]; done) | fail) ?_ | refine Brn.F (by (try simp only [smT]); first | rfl | (simp [*]; done) | fail) ?_ | (refine Bnd.mk (fun hm => ?_); (try simp only [smT] at hm)) | refine Ix.map rfl (by (try simp only [smT]); omega) ?_ | refine Eqv.mk (by kernel_rfl) ?_ | (refine CL.mk (Or.inl ?_); (conv => whnf); first | refine Cl.is (h1) rfl (by first | (intro e; cases e; done) | fail) ?_ | refine Cl.nl (by repeat (first | exact NlSs.nil | exact NlS.refl | exact NlD.u (NlV.nl (by first | rfl | fail)) | refine NlSs.cons ?_ ?_ | refine NlS.d ?_ | fail)) (h2) rfl (by first | exact fun _ => rfl | fail) ?_ | refine Cl.is (h3) rfl (by first | exact fun _ => rfl | fail) ?_ | refine Cl.is (h4) rfl (by first | (intro e; cases e; done) | fail) ?_ | fail) | (refine CL.mk (Or.inl ?_); (conv => whnf); refine ClO.mk (Or.inl ?_); (repeat ((conv => whnf); refine Len.mk (by first | rfl | fail) ?_)); (conv => whnf); refine Cl.is (h6) rfl (by first | exact fun _ => rfl | fail) ?_) | fail)
  all_goals (conv => whnf)
  all_goals refine RetO.mk ⟨[(907, .k 907)], _, _, (by first | exact LeS.d (by first | exact LeD.u rfl | fail) | fail), (by repeat (first | exact LeO.nil | refine LeO.ab rfl rfl (by repeat (first | exact LeL.nil | fail)) (by first | rfl | fail) ?_ | fail)), rfl, rfl⟩
end Go.Proofs.YtabmcfnefjipbaaGreatDoor
namespace Go.Proofs.YtabmcfnefjipbaaGreatDoor
open Go.RowKit
/-- A step as an argument of yield. -/
abbrev stepSV (e : Ev) (a : Int) (s : List Ac) : SV := .a [.u (.int .i64 e.kind), .u (.str e.md), .u (.str e.fn), .u (.int .i64 e.line), .u (.int .i64 e.depth), .u (.int .i64 e.fuel), .u (.str e.text), .u (.sl 2 (e.locs.map locR)), .u (.int .i64 a), .u (.sl 3 (s.map acR))]
end Go.Proofs.YtabmcfnefjipbaaGreatDoor
namespace Go.Proofs.YtabmcfnefjipbaaGreatDoor
open Go.RowKit
instance decMem {α : Type} [DecidableEq α] (f : α) (s : List α) : Decidable (f ∈ s) := @List.instDecidableMemOfLawfulBEq α instBEqOfDecidableEq inferInstance f s
structure Co where
  md : ByteArray
  fn : ByteArray
  calls : Int
  rets : Int
  raises : Int
  lines : Int
  own : Int
  tot : Int
abbrev coR (c : Co) : List V := [.str c.md, .str c.fn, .int .i64 c.calls, .int .i64 c.rets, .int .i64 c.raises, .int .i64 c.lines, .int .i64 c.own, .int .i64 c.tot]
def Co.fu (c : Co) : Fu := (c.md, c.fn)
def Ac.fu (a : Ac) : Fu := (a.md, a.fn)
def zeroC (f : Fu) : Co := ⟨f.1, f.2, 0, 0, 0, 0, 0, 0⟩
/-- Where the function stands. -/
def fidx : List Co → Fu → Option Nat
  | [], _ => none
  | c :: r, f => if c.fu = f then some 0 else (fidx r f).map (· + 1)
/-- The function's costs are changed. -/
def updF (g : Co → Co) : List Co → Fu → List Co
  | [], _ => []
  | c :: r, f => if c.fu = f then g c :: r else c :: updF g r f
/-- The map from functions to places. -/
def atE : Nat → List Co → List (List V × List V)
  | _, [] => []
  | k, c :: r => ([.str c.md, .str c.fn], [.int .i64 (k : Int)]) :: atE (k + 1) r
abbrev kFs : List (Nat × TypeId) := [(0, 9), (1, 9)]
/-- The functions that were seen. -/
def seenE (s : List Fu) : List (List V × List V) := s.map fun f => ([.str f.1, .str f.2], [.bool true])
/-- An event is counted. -/
def bump (k : Int) (c : Co) : Co := if k = 1 then { c with lines := c.lines + 1 } else if k = 2 then { c with calls := c.calls + 1 } else if k = 3 then { c with rets := c.rets + 1 } else { c with raises := c.raises + 1 }
def addOwn (a : Int) (c : Co) : Co := { c with own := c.own + a }
def addTot (a : Int) (c : Co) : Co := { c with tot := c.tot + a }
/-- The function is there. -/
def ensF (out : List Co) (f : Fu) : List Co := if f ∈ out.map Co.fu then out else out ++ [zeroC f]
/-- Totals of the functions of a stack. -/
def totM (a : Int) : List Fu → List Ac → List Co → List Co
  | _, [], out => out
  | seen, x :: r, out => if x.fu ∈ seen then totM a seen r out else totM a (seen ++ [x.fu]) r (updF (addTot a) out x.fu)
structure Cs where
  out : List Co
  rest : Int
/-- One step: the event, its amount, the stack behind it. -/
def stepC (x : Cs) (e : Ev) (a : Int) (s : List Ac) : Cs :=
  let out := updF (bump e.kind) (ensF x.out e.fu) e.fu
  match s.getLast? with
  | none => ⟨out, x.rest + a⟩
  | some t => ⟨totM a [] s (updF (addOwn a) out t.fu), x.rest⟩
def costsAt (l : List Ev) (fuel : Int) : Nat → Cs
  | 0 => ⟨[], beforeM l fuel⟩
  | i + 1 => match l[i]? with
    | some e => stepC (costsAt l fuel i) e (amt l fuel i) (stackAt l (i + 1))
    | none => costsAt l fuel i
theorem addTot_fu (a : Int) (c : Co) : (addTot a c).fu = c.fu := rfl
end Go.Proofs.YtabmcfnefjipbaaGreatDoor
namespace Go.Proofs.YtabmcfnefjipbaaGreatDoor
open Go.RowKit
structure CBd (Bo Bt N : Int) (c : Co) : Prop where
  c0 : 0 ≤ c.calls ∧ c.calls ≤ N
  r0 : 0 ≤ c.rets ∧ c.rets ≤ N
  e0 : 0 ≤ c.raises ∧ c.raises ≤ N
  l0 : 0 ≤ c.lines ∧ c.lines ≤ N
  o0 : 0 ≤ c.own ∧ c.own ≤ Bo
  t0 : 0 ≤ c.tot ∧ c.tot ≤ Bt
def CBs (Bo Bt N : Int) (l : List Co) : Prop := ∀ c ∈ l, CBd Bo Bt N c
/-- While totals are added. -/
def TI (B a : Int) (seen : List Fu) (l : List Co) : Prop := ∀ c ∈ l, 0 ≤ c.tot ∧ c.tot ≤ B + a ∧ (c.fu ∉ seen → c.tot ≤ B)
/-- All but the totals. -/
def CN (Bo N : Int) (l : List Co) : Prop := ∀ c ∈ l, (0 ≤ c.calls ∧ c.calls ≤ N) ∧ (0 ≤ c.rets ∧ c.rets ≤ N) ∧ (0 ≤ c.raises ∧ c.raises ≤ N) ∧ (0 ≤ c.lines ∧ c.lines ≤ N) ∧ (0 ≤ c.own ∧ c.own ≤ Bo)
/-- The fuel at an event; behind the last one: that of the run. -/
def curF (l : List Ev) (fuel : Int) (i : Nat) : Int := match l[i]? with
  | some e => e.fuel
  | none => fuel
structure CI (B : Int) (N : Int) (x : Cs) : Prop where
  out : CBs B B N x.out
  r0 : 0 ≤ x.rest
  r1 : x.rest ≤ B
end Go.Proofs.YtabmcfnefjipbaaGreatDoor
namespace Go.Proofs.YtabmcfnefjipbaaGreatDoor
open Go.RowKit
def stepI (e : Ev) (i : Nat) (ix : List Nat) : List Nat := if e.kind = 2 then ix ++ [i] else if e.kind ≠ 1 then ix.dropLast else ix
/-- The reference's stack behind n events. -/
def stkI (l : List Ev) : Nat → List Nat
  | 0 => []
  | n + 1 => match l[n]? with
    | some e => stepI e n (stkI l n)
    | none => stkI l n
end Go.Proofs.YtabmcfnefjipbaaGreatDoor
namespace Go.Proofs.YtabmcfnefjipbaaGreatDoor
open Go.RowKit
/-- The line of the activation that event e began, behind the first n events; j: its number. -/
def lineM (l : List Ev) (e : Ev) (j : Nat) : Nat → Int
  | 0 => e.line
  | n + 1 => if n ≤ j then e.line else match l[n]? with
    | some x => if x.kind = 1 ∧ x.depth = e.depth then x.line else lineM l e j n
    | none => lineM l e j n
end Go.Proofs.YtabmcfnefjipbaaGreatDoor
namespace Go.Proofs.YtabmcfnefjipbaaGreatDoor
open Go.RowKit
end Go.Proofs.YtabmcfnefjipbaaGreatDoor
namespace Go.Proofs.YtabmcfnefjipbaaGreatDoor
open Go.RowKit
/-- The activation that event j began, behind n events. -/
def acOf (l : List Ev) (n j : Nat) : Ac := match l[j]? with
  | some e => ⟨e.md, e.fn, lineM l e j n⟩
  | none => ⟨ByteArray.mk #[], ByteArray.mk #[], 0⟩
/-- The calls on the stack, by their depths. -/
def DepI (l : List Ev) (ix : List Nat) : Prop := ∀ (k j : Nat), ix[k]? = some j → ∃ e, l[j]? = some e ∧ e.depth = (k : Int) + 1
end Go.Proofs.YtabmcfnefjipbaaGreatDoor
namespace Go.Proofs.YtabmcfnefjipbaaGreatDoor
open Go.RowKit
def acP (a : Ac) : Pc := ⟨a.md, a.fn, a.line⟩
/-- The place of the activation that event j began, behind n events. -/
def plOf (l : List Ev) (n j : Nat) : Pc := acP (acOf l n j)
/-- The calls at a position. -/
def posI (l : List Ev) (p : Nat) : List Nat := match l[p]? with
  | some e => if e.kind = 2 then stkI l p ++ [p] else stkI l p
  | none => []
def avA (a : Av) : Ac := ⟨a.md, a.fn, a.line⟩
/-- What the reference's Shown finds among the first i events, at depth d. -/
def shownM (l : List Ev) (d : Int) (n : ByteArray) : Nat → Option ByteArray
  | 0 => none
  | i + 1 => match l[i]? with
    | some e => if e.depth = d ∧ e.kind = 1 then varM n e.locs else if e.depth = d ∧ e.kind = 2 then none else shownM l d n i
    | none => shownM l d n i
theorem shownM_succ {l : List Ev} {d : Int} {n : ByteArray} {i : Nat} {e : Ev} (h : l[i]? = some e) : shownM l d n (i + 1) = if e.depth = d ∧ e.kind = 1 then varM n e.locs else if e.depth = d ∧ e.kind = 2 then none else shownM l d n i := by rw [shownM, h]
/-- The text at an activation's last stop. -/
def stopT (l : List Ev) (n : ByteArray) (a : Av) : Option ByteArray := if a.stop < 0 then none else match l[a.stop.toNat]? with
  | some e => varM n e.locs
  | none => none
theorem avAt_shown {l : List Ev} (hv : Vd l) (n : ByteArray) {p : Nat} : ∀ i, i ≤ p + 1 → i ≤ l.length → ∀ (k : Nat) (a : Av), (avAt l p i)[k]? = some a → stopT l n a = shownM l ((k : Int) + 1) n i
  | 0, _, _, k, a, h => by simp [avAt] at h
  | i + 1, hip, hi, k, a, h => by
    have he : l[i]? = some l[i] := List.getElem?_eq_getElem (by omega)
    have ih := avAt_shown hv n (p := p) i (by omega) (by omega)
    have ok := hv.ok he
    have hlen := congrArg List.length (avAt_fu hv (p := p) i (by omega) (by omega))
    rw [List.length_map] at hlen
    have hdep := ok.depth
    have hlast := ok.last
    rw [avAt_succ he, stepV] at h
    rw [shownM_succ he]
    unfold pushM at hdep hlast
    generalize hx : l[i] = x at *
    have hkl := (List.getElem?_eq_some_iff.1 h).1
    by_cases h2 : x.kind = 2
    · rw [if_pos h2] at h hdep
      rw [if_neg (by omega)]
      rw [List.length_append, ← hlen] at hdep
      simp only [List.length_cons, List.length_nil] at hdep
      rcases Nat.lt_or_ge k (avAt l p i).length with hk | hk
      · rw [List.getElem?_append_left hk] at h
        rw [if_neg (by omega)]
        exact ih k a h
      · rw [List.getElem?_append_right hk] at h
        rcases h0 : k - (avAt l p i).length with _ | m
        · rw [h0] at h
          simp at h
          subst h
          rw [if_pos (by omega)]
          rfl
        · rw [h0] at h; simp at h
    · rw [if_neg h2] at h hdep hlast
      rw [← hlen] at hdep
      rw [if_neg (c := x.depth = _ ∧ x.kind = 2) (fun h => h2 h.2)]
      by_cases h1 : x.kind = 1
      · rw [if_pos h1] at h
        rcases List.eq_nil_or_concat (avAt l p i) with h0 | ⟨L, b, h0⟩
        · rw [h0] at h; simp [setAv] at h
        · rw [List.concat_eq_append] at h0
          rw [h0] at h hdep
          rw [h0] at ih
          simp only [setAv, List.getLast?_append, List.getLast?_singleton, Option.some_or, List.dropLast_concat] at h
          rw [List.length_append] at hdep
          simp only [List.length_cons, List.length_nil] at hdep
          rcases Nat.lt_or_ge k L.length with hk | hk
          · rw [List.getElem?_append_left hk] at h
            rw [if_neg (by omega)]
            exact ih k a (by rw [List.getElem?_append_left hk]; exact h)
          · rw [List.getElem?_append_right hk] at h
            rcases h00 : k - L.length with _ | m
            · rw [h00] at h
              simp at h
              subst h
              rw [if_pos ⟨by omega, h1⟩]
              unfold stopT
              dsimp only
              rw [if_neg (by omega), Int.toNat_natCast, he]
            · rw [h00] at h; simp at h
      · rw [if_neg h1] at h
        rw [if_neg (fun h => h1 h.2)]
        split at h
        · rw [List.getElem?_dropLast] at h
          split at h
          · exact ih k a h
          · cases h
        · exact ih k a h
theorem showM_eq (l : List Ev) (p : Int) (n : ByteArray) : showM l p n = match (activeM l p).getLast? with
    | none => none
    | some a => stopT l n a := rfl
/-- PLAIN LAW: the text of a variable at a position. -/
theorem shown_agree {l : List Ev} (hv : Vd l) (n : ByteArray) {p : Nat} {e : Ev} (he : l[p]? = some e) : showM l p n = shownM l e.depth n (p + 1) := by
  have hp := (List.getElem?_eq_some_iff.1 he).1
  have ea : activeM l p = avAt l p (p + 1) := by rw [activeM, if_neg (by omega), Int.toNat_natCast]
  have hs := avAt_shown hv n (p := p) (p + 1) (Nat.le_refl _) (by omega)
  have ok := hv.ok he
  have hlen := congrArg List.length (avAt_fu hv (p := p) p (Nat.le_refl _) (by omega))
  rw [List.length_map] at hlen
  have hdep := ok.depth
  have hlast := ok.last
  have hle : ((avAt l p (p + 1)).length : Int) = e.depth ∧ avAt l p (p + 1) ≠ [] := by
    rw [avAt_succ he, stepV]
    unfold pushM at hdep hlast
    by_cases h2 : e.kind = 2
    · rw [if_pos h2] at hdep ⊢
      rw [List.length_append, ← hlen] at hdep
      refine ⟨?_, by simp⟩
      rw [hdep]; simp
    · rw [if_neg h2] at hdep hlast ⊢
      have hne : avAt l p p ≠ [] := fun h0 => by
        rw [h0] at hlen
        rw [List.eq_nil_of_length_eq_zero hlen.symm] at hlast
        cases hlast
      by_cases h1 : e.kind = 1
      · rw [if_pos h1]
        have h3 := congrArg List.length (setAv_fu (avAt l p p) e.line p)
        simp only [List.length_map] at h3
        refine ⟨by rw [h3, hdep, hlen], fun h0 => ?_⟩
        rw [h0] at h3
        exact hne (List.eq_nil_of_length_eq_zero h3.symm)
      · rw [if_neg h1, if_neg (Nat.lt_irrefl _)]
        exact ⟨by rw [hdep, hlen], hne⟩
  rw [showM_eq, ea]
  obtain ⟨h3, h4⟩ := hle
  rcases List.eq_nil_or_concat (avAt l p (p + 1)) with h0 | ⟨L, a, h0⟩
  · exact absurd h0 h4
  · rw [List.concat_eq_append] at h0
    have h5 := hs L.length a (by rw [h0]; simp)
    rw [h0, List.length_append] at h3
    simp only [List.length_cons, List.length_nil] at h3
    rw [h0, List.getLast?_append, List.getLast?_singleton, Option.some_or]
    dsimp only
    rw [h5, show ((L.length : Int) + 1) = e.depth by omega]
end Go.Proofs.YtabmcfnefjipbaaGreatDoor
