/-
  Part 7 of the proofs of stacks_holds: laws and contracts that they need.
-/
import Derived.Test.YtabmcfnefjipbaaGreatDoorR6
set_option linter.unusedVariables false
set_option linter.unusedSimpArgs false
namespace Go.Proofs.YtabmcfnefjipbaaGreatDoor
open Go.RowKit
section
variable {ρ ρ' : Rho} {z z' : Fz} {k : Nat}
theorem ObsOk.faSet : ∀ {ob : List (Nat × Ob)} {hp : List (Nat × Hb)} {o : Ob}, ObsOk ρ z ob hp → lk k ob = some o → famOne k ob = true → ∃ X rest, ObOk ρ z k o X ∧ hp.Perm (X ++ rest) ∧
    (∀ (z' : Fz) o' Y, Mz z z' → (∀ j, j ≠ k → z'.G.fam j = z.G.fam j) → z'.G.own = z.G.own → ObOk ρ z' k o' Y → ∃ hp', ObsOk ρ z' (obu k o' ob) hp' ∧ hp'.Perm (Y ++ rest)) ∧
    ∀ (ρ' : Rho) (z' : Fz) t sz' rs' Y, Mz z z' → (∀ j, j ≠ k → z'.G.fam j = z.G.fam j) → z'.G.own = z.G.own → OsAt k ρ ρ' → ObOk ρ' z' k (.fa t sz' rs') Y → ∃ hp', ObsOk ρ' z' (dropO k (obu k (.fa t sz' rs') ob)) hp' ∧ hp'.Perm (Y ++ rest)
  | [], _, _, _, h, _ => by simp [lk] at h
  | (j, x) :: r, hp, o, ⟨X, hp0, h1, h2, h3⟩, h, hn => by
    simp only [lk] at h
    simp only [famOne] at hn
    cases hb : Nat.beq k j <;> rw [hb] at h hn
    · obtain ⟨X1, rest, q1, q2, q3, q4⟩ := h3.faSet h hn
      have hjk : j ≠ k := fun e => beq_ne hb e.symm
      have hpm : ∀ (A B : List (Nat × Hb)), (X ++ (A ++ B)).Perm (A ++ (X ++ B)) := fun A B => by
        rw [← List.append_assoc, ← List.append_assoc]; exact List.perm_append_comm.append_right _
      subst h1
      refine ⟨X1, X ++ rest, q1, (q2.append_left X).trans (hpm _ _), fun z' o' Y m hf hw ho => ?_, fun ρ' z' t sz' rs' Y m hf hw a ho => ?_⟩
      · obtain ⟨hp', r1, r2⟩ := q3 z' o' Y m hf hw ho
        simp only [obu, hb, cond_false]
        exact ⟨X ++ hp', ⟨X, hp', rfl, h2.mono m .refl (Fms.of fun t rs e => ⟨hf j hjk, by rw [hw]; exact id⟩), r1⟩, (r2.append_left X).trans (hpm _ _)⟩
      · obtain ⟨hp', r1, r2⟩ := q4 ρ' z' t sz' rs' Y m hf hw a ho
        simp only [obu, hb, cond_false]
        have hone : ObsOk ρ z [(j, x)] X := ⟨X, [], by simp, h2, rfl⟩
        have hno : famNo k [(j, x)] = true := by simp [famNo, hb]
        have hx := hone.drop m hf hw a hno
        cases x with
        | bx t cs =>
          obtain ⟨Z, hz, e1, e2, e3⟩ := hx
          have : hz = [] := e3
          subst this
          rw [List.append_nil] at e1
          subst e1
          exact ⟨X ++ hp', ⟨X, hp', rfl, e2, r1⟩, (r2.append_left X).trans (hpm _ _)⟩
        | ar t sz rs =>
          obtain ⟨Z, hz, e1, e2, e3⟩ := hx
          have : hz = [] := e3
          subst this
          rw [List.append_nil] at e1
          subst e1
          exact ⟨X ++ hp', ⟨X, hp', rfl, e2, r1⟩, (r2.append_left X).trans (hpm _ _)⟩
        | mp kg vg es =>
          obtain ⟨Z, hz, e1, e2, e3⟩ := hx
          have : hz = [] := e3
          subst this
          rw [List.append_nil] at e1
          subst e1
          exact ⟨X ++ hp', ⟨X, hp', rfl, e2, r1⟩, (r2.append_left X).trans (hpm _ _)⟩
        | fa t sz rs =>
          obtain ⟨Z, hz, e1, e2, e3⟩ := hx
          have : hz = [] := e3
          subst this
          rw [List.append_nil] at e1
          subst e1
          exact ⟨X ++ hp', ⟨X, hp', rfl, e2, r1⟩, (r2.append_left X).trans (hpm _ _)⟩
        | ab cs us zb φ =>
          obtain ⟨Z, hz, e1, e2, e3⟩ := hx
          have : hz = [] := e3
          subst this
          rw [List.append_nil] at e1
          subst e1
          exact ⟨X ++ hp', ⟨X, hp', rfl, e2, r1⟩, (r2.append_left X).trans (hpm _ _)⟩
        | fm t rs =>
          obtain ⟨Z, hz, e1, e2, e3⟩ := hx
          have : hz = [] := e3
          subst this
          rw [List.append_nil] at e1
          subst e1
          exact ⟨X ++ hp', ⟨X, hp', rfl, e2, r1⟩, (r2.append_left X).trans (hpm _ _)⟩
    · simp only [cond_true, Option.some.injEq] at h
      subst h
      have := Nat.eq_of_beq_eq_true hb
      subst this
      refine ⟨X, hp0, h2, by rw [h1], fun z' o' Y m hf hw ho => ?_, fun ρ' z' t sz' rs' Y m hf hw a ho => ?_⟩
      · simp only [obu, hb, cond_true]
        exact ⟨Y ++ hp0, ⟨Y, hp0, rfl, ho, h3.keep m hf hw hn⟩, .refl _⟩
      · simp only [obu, hb, cond_true, dropO]
        exact ⟨Y ++ hp0, ⟨Y, hp0, rfl, ho, h3.drop m hf hw a hn⟩, .refl _⟩
end
theorem spl_set {us us1 : List Value} {n off : Nat} {v : Value} (h1 : n + us1.length ≤ us.length) (h2 : ∀ (j : Nat) u, us1[j]? = some u → us[n + j]? = some u) (ho : off < us1.length) : spl us n (us1.set off v) = us.set (n + off) v := by
  rw [spl_mid _ _ _ (by rw [List.length_set]; exact h1), List.length_set]
  apply List.ext_getElem?
  intro j
  rw [List.getElem?_set]
  by_cases c1 : j < n
  · rw [List.append_assoc, List.getElem?_append_left (by simp; omega), List.getElem?_take_of_lt c1, if_neg (by omega)]
  · by_cases c2 : j < n + us1.length
    · rw [List.append_assoc, List.getElem?_append_right (by simp; omega), List.getElem?_append_left (by simp; omega)]
      have e : (us.take n).length = n := by simp; omega
      rw [e, List.getElem?_set]
      by_cases c3 : n + off = j
      · subst c3
        rw [if_pos rfl, if_pos (by omega), if_pos (by omega), if_pos (by omega)]
      · rw [if_neg (by omega), if_neg c3]
        have := h2 (j - n) _ (List.getElem?_eq_getElem (by omega))
        rw [show n + (j - n) = j by omega] at this
        rw [this, List.getElem?_eq_getElem (by omega)]
    · rw [List.getElem?_append_right (by simp; omega), List.getElem?_drop, if_neg (by omega)]
      congr 1
      simp
      omega
section
variable {P : Program} {T : List (Nat × Ty)} [hT : Tys P T] {nt : Nt} {Q : Exit → Act → World → Prop} {c : Cx} {st : St} {tm : List (Nat × Value)} {h : Hs} {ρ : Rho} {G : FG} {ty : TypeId} {pos : String} {af : Array Edge} {gd : Option (Nat × Bool)} {K : Kt}
omit hT in
/-- A cell of a row is exchanged: what lies where then. -/
theorem Gd.faPut {F : Nat → Prop} {w0 : World} {hp : List (Nat × Hb)} (g : Gd c st tm ⟨F, w0, hp⟩ ρ G) {k m off u sz : Nat} {rs : List (List E)} {row : List E} {e : E} (hk : lk k st.ob = some (.fa u sz rs)) (h1 : famOne k st.ob = true) (hr : rs[m]? = some row) (ho : row[off]? = some e) :
    ∃ b cc us Xe rest, ρ k = some ⟨some ⟨b, 0, none⟩, cc, sz⟩ ∧ m * sz + off < us.length ∧ us.all Value.oneCell' = true ∧ (∃ u0, us[m * sz + off]? = some u0 ∧ CellOk ρ ⟨G, w0⟩ k m off e u0 Xe) ∧ hp.Perm ((b, ⟨u, us, cc * sz⟩) :: (Xe ++ rest)) ∧
      (∀ y v, (∃ x, e = .v x) ∨ e = .hl → DenV ⟨G, w0⟩ y v → ∃ hq, hq.Perm ((b, ⟨u, us.set (m * sz + off) v, cc * sz⟩) :: (Xe ++ rest)) ∧ Gd c ⟨st.tm, obu k (.fa u sz (rs.set m (row.set off (.v y)))) st.ob⟩ tm ⟨F, w0, hq⟩ ρ G) ∧
      (∀ e' v l Xe', CellOk (updOs ρ k m off l) ⟨G, w0⟩ k m off e' v Xe' → ∃ hq, hq.Perm ((b, ⟨u, us.set (m * sz + off) v, cc * sz⟩) :: (Xe' ++ rest)) ∧ Gd c ⟨dropT k st.tm, dropO k (obu k (.fa u sz (rs.set m (row.set off e'))) st.ob)⟩ tm ⟨F, w0, hq⟩ (updOs ρ k m off l) G) := by
  obtain ⟨X, rest0, ⟨A, cc, us, Y, rfl, q0, q1, q2, q3⟩, p2, s3, s4⟩ := g.ob.faSet hk h1
  obtain ⟨us1, X1, rest1, r0, r1, r2, r3, r4, r5⟩ := q2.split q3 hr
  rw [Nat.zero_add] at r3 r5
  obtain ⟨u0, Xe, rest2, t1, t2, t3, t4⟩ := r3.split ho
  rw [Nat.zero_add] at t2 t4
  have hm : m < rs.length := (List.getElem?_eq_some_iff.1 hr).1
  have hA : ∃ b, A = some ⟨b, 0, none⟩ := by
    rcases q1.form with ⟨_, h0, _⟩ | h0
    · omega
    · exact h0
  obtain ⟨b, rfl⟩ := hA
  have hoff : off < us1.length := (List.getElem?_eq_some_iff.1 t1).1
  have hbA1 : ∀ us', hbA (some ⟨b, 0, none⟩) u us' cc sz = [(b, (⟨u, us', cc * sz⟩ : Hb))] := fun us' => hbA_some
  have hperm : ∀ (A B C D E1 X1' Y' : List (Nat × Hb)) (q : Nat × Hb), X1'.Perm (A ++ B) → Y'.Perm (X1' ++ C) → E1.Perm (([q] ++ Y') ++ D) → E1.Perm (q :: (A ++ (B ++ C ++ D))) := fun A B C D E1 X1' Y' q h1 h2 h3 => by
    refine h3.trans ?_
    simp only [List.cons_append, List.nil_append, List.append_assoc]
    refine List.Perm.cons q ?_
    have h4 := h2.trans (h1.append_right C)
    have := h4.append_right D
    simpa [List.append_assoc] using this
  have hup : ∀ v, spl us (m * sz) (us1.set off v) = us.set (m * sz + off) v := fun v => spl_set (by omega) r2 hoff
  have hnew : ∀ (us' : List Value), us'.length = us.length → ∀ row', OkA (some ⟨b, 0, none⟩) us' (rs.set m row').length cc sz := fun us' hl row' => by
    rw [List.length_set]
    exact ⟨q1.form, by rw [hl]; exact q1.len, q1.cap, q1.max⟩
  have hrows : ∀ e', ∀ r ∈ rs.set m (row.set off e'), r.length = sz := fun e' r hr' => by
    rcases List.mem_or_eq_of_mem_set hr' with h | h
    · exact q3 r h
    · subst h; rw [List.length_set]; exact q3 _ (List.mem_of_getElem? hr)
  refine ⟨b, cc, us, Xe, rest2 ++ rest1 ++ rest0, q0, ?_, q2.one, ⟨u0, r2 off u0 t1, t2⟩, hperm _ _ _ _ _ _ _ _ t3 r4 (by rw [hbA1] at p2; exact p2), fun y v hx hv => ?_, fun e' v l Xe' hc => ?_⟩
  · have := (List.getElem?_eq_some_iff.1 (r2 off u0 t1)).1
    exact this
  · have hXe : Xe = [] := by
      rcases hx with ⟨x, rfl⟩ | rfl
      · exact t2.1
      · exact t2.1
    subst hXe
    obtain ⟨X1', v1, v2⟩ := t4 ρ (.v y) v [] (fun _ _ => rfl) ⟨rfl, hv⟩
    obtain ⟨Y', w1, w2⟩ := r5 ρ _ _ _ (by rw [List.length_set]; exact r0) (fun _ _ _ => rfl) v1
    rw [hup] at w1
    obtain ⟨hq, x1, x2⟩ := s3 ⟨G, w0⟩ (.fa u sz (rs.set m (row.set off (.v y)))) _ .refl (fun _ _ => rfl) rfl ⟨_, cc, _, Y', rfl, q0, hnew _ (by rw [List.length_set]) _, w1, hrows _⟩
    rw [hbA1] at x2
    exact ⟨hq, hperm _ _ _ _ _ _ _ _ v2 w2 x2, g.fF, g.fw, g.gF, g.gx, g.fm, g.tm, x1⟩
  · obtain ⟨X1', v1, v2⟩ := t4 (updOs ρ k m off l) e' v Xe' (fun o' ho' => by simp [updOs, ho']) hc
    obtain ⟨Y', w1, w2⟩ := r5 (updOs ρ k m off l) _ _ _ (by rw [List.length_set]; exact r0) (fun i' o hi => by simp [updOs, hi]) v1
    rw [hup] at w1
    obtain ⟨hq, x1, x2⟩ := s4 (updOs ρ k m off l) ⟨G, w0⟩ u sz (rs.set m (row.set off e')) _ .refl (fun _ _ => rfl) rfl updOs_at ⟨_, cc, _, Y', rfl, q0, hnew _ (by rw [List.length_set]) _, w1, hrows _⟩
    rw [hbA1] at x2
    refine ⟨hq, hperm _ _ _ _ _ _ _ _ v2 w2 x2, g.fF, g.fw, g.gF, g.gx, g.fm, fun j s hj => ?_, x1⟩
    obtain ⟨_, d1, d2⟩ := dropK_get hj
    obtain ⟨v', v1, v2⟩ := g.tm j s d1
    exact ⟨v', v1, v2.inF updOs_at d2⟩
theorem set_same {us : List Value} {n : Nat} {v : Value} (h : us[n]? = some v) : us.set n v = us := by
  apply List.ext_getElem?
  intro j
  rw [List.getElem?_set]
  split
  · rename_i e; subst e
    rw [if_pos (List.getElem?_eq_some_iff.1 h).1, h]
  · rfl
/-- A value of one cell is stored into a row. -/
theorem Raw.faStoreV {t : TypeId} {x y : Operand} {k m off u sz : Nat} {yv : V} {rs : List (List E)} {row : List E} {e : E} {i : Ty} {tmT : List (Nat × SV)} {ob : List (Nat × Ob)} (hx : evT tmT x = some (.d (.e k m off))) (hy : evT tmT y = some (.d (.u yv))) (ht : lk t T = some i) (hi : i.size = 1) (hk : lk k ob = some (.fa u sz rs)) (h1 : famOne k ob = true) (hr : rs[m]? = some row) (ho : row[off]? = some e) (he : (∃ x, e = .v x) ∨ e = .hl)
    (kk : K tmT (obu k (.fa u sz (rs.set m (row.set off (.v yv)))) ob)) : Raw P nt ⟨none, .store t x y, ty, pos, af, gd⟩ tmT ob K := ⟨fun Q c tm h ρ G g => by
  obtain ⟨F, w0, hp⟩ := h
  obtain ⟨v, q1, q2⟩ := g.ev hy
  obtain ⟨p, r1, r2⟩ := g.ev hx
  cases r2 with | d r2 => cases r2 with | @e _ _ _ b c' sz' h0 =>
  have hv : DenL ρ ⟨G, w0⟩ [.u yv] (vcells v) := cellsOfT_den rfl q2
  obtain ⟨b2, cc, us, Xe, rest, z0, hlt, hone, _, p1, p2, _⟩ := g.faPut hk h1 hr ho
  rw [h0] at z0
  injection z0 with z0
  injection z0 with e1 e2 e3
  injection e1 with e1
  injection e1 with e1 _ _
  subst e1 e2 e3
  obtain ⟨u0, hu0⟩ : ∃ u0, vcells v = [u0] := by
    have hl := hv.len
    match hvc : vcells v, hl with
    | [u], _ => exact ⟨u, rfl⟩
  have hdu := hv.den 0 (.u yv) u0 rfl (by rw [hu0]; rfl)
  cases hdu with | u hdu =>
  obtain ⟨hq, s1, s2⟩ := p2 yv u0 he hdu
  refine OpS.wk (h' := ⟨F, w0, (b, ⟨u, us, c' * sz'⟩) :: (Xe ++ rest)⟩) (fun w hw => hw.perm p1) ?_
  refine OpS.store (z := ⟨u, us, c' * sz'⟩) r1 q1 ht UpdB.here (by rw [hv.len]; exact hi.symm) hv.one (by rw [hi, Nat.ble_eq]; exact hlt) rfl ?_
  rw [hu0, spl_one hlt]
  exact ⟨⟨_, _⟩, _, G, ⟨F, w0, hq⟩, fun w hw => hw.perm s1.symm, s2, kk⟩⟩
/-- An own array is stored into a row: it moves in. -/
theorem Raw.faStoreO {t : TypeId} {x y : Operand} {k m off u sz d n e0 sz0 : Nat} {ra : List (List V)} {rs : List (List E)} {row : List E} {e : E} {i : Ty} {tmT : List (Nat × SV)} {ob : List (Nat × Ob)} (hx : evT tmT x = some (.d (.e k m off))) (hy : evT tmT y = some (.d (.ow d n))) (hd : lk d ob = some (.ar e0 sz0 ra)) (hn : ra.length = n) (ht : lk t T = some i) (hi : i.size = 1) (hk : lk k (obr d ob) = some (.fa u sz rs)) (h1 : famOne k (obr d ob) = true) (hr : rs[m]? = some row) (ho : row[off]? = some e)
    (kk : K (dropT k tmT) (dropO k (obu k (.fa u sz (rs.set m (row.set off (.os e0 sz0 ra)))) (obr d ob)))) : Raw P nt ⟨none, .store t x y, ty, pos, af, gd⟩ tmT ob K := ⟨fun Q c tm h ρ G g => by
  obtain ⟨F, w0, hp⟩ := h
  obtain ⟨v, q1, q2⟩ := g.ev hy
  obtain ⟨p, r1, r2⟩ := g.ev hx
  cases r2 with | d r2 => cases r2 with | @e _ _ _ b c' sz' h0 =>
  have hv : DenL ρ ⟨G, w0⟩ [.ow d n] (vcells v) := cellsOfT_den rfl q2
  obtain ⟨X0, f, ⟨A, cc0, us1, rfl, g2, g3, g4, g5⟩, g6, _, g8⟩ := g.ob.set hd
  have g0 : Gd c ⟨tmT, obr d ob⟩ tm ⟨F, w0, f []⟩ ρ G := ⟨g.fF, g.fw, g.gF, g.gx, g.fm, g.tm, g8⟩
  have hperm : hp.Perm (hbA A e0 us1 cc0 sz0 ++ f []) := by have := g6.perm (hbA A e0 us1 cc0 sz0); rwa [g6.eq] at this
  obtain ⟨b2, cc, us, Xe, rest, z0, hlt, hone, _, p1, _, p3⟩ := g0.faPut hk h1 hr ho
  rw [h0] at z0
  injection z0 with z0
  injection z0 with e1 e2 e3
  injection e1 with e1
  injection e1 with e1 _ _
  subst e1 e2 e3
  obtain ⟨u0, hu0⟩ : ∃ u0, vcells v = [u0] := by
    have hl := hv.len
    match hvc : vcells v, hl with
    | [u], _ => exact ⟨u, rfl⟩
  have hdu := hv.den 0 (.ow d n) u0 rfl (by rw [hu0]; rfl)
  have hvs : u0 = .slice A ra.length cc0 := by
    cases hdu with | @ow _ _ l h0 hA hnc =>
    rw [h0] at g2
    injection g2 with g2; subst g2
    rw [hn]
  subst hvs
  obtain ⟨hq, s1, s2⟩ := p3 (.os e0 sz0 ra) (.slice A ra.length cc0) (some ⟨A, cc0, sz0⟩) (hbA A e0 us1 cc0 sz0) ⟨A, cc0, us1, rfl, rfl, by simp [updOs], g3, g4, g5⟩
  have pp : hp.Perm ((b, ⟨u, us, c' * sz'⟩) :: (Xe ++ rest ++ hbA A e0 us1 cc0 sz0)) := by
    refine hperm.trans ?_
    refine List.perm_append_comm.trans ?_
    refine (p1.append_right _).trans ?_
    simp
  refine OpS.wk (h' := ⟨F, w0, (b, ⟨u, us, c' * sz'⟩) :: (Xe ++ rest ++ hbA A e0 us1 cc0 sz0)⟩) (fun w hw => hw.perm pp) ?_
  refine OpS.store (z := ⟨u, us, c' * sz'⟩) r1 q1 ht UpdB.here (by rw [hv.len]; exact hi.symm) hv.one (by rw [hi, Nat.ble_eq]; exact hlt) rfl ?_
  rw [hu0, spl_one hlt]
  refine ⟨⟨_, _⟩, _, G, ⟨F, w0, hq⟩, fun w hw => ?_, s2, kk⟩
  have p4 : ((b, (⟨u, us.set (m * sz' + off) (.slice A ra.length cc0), c' * sz'⟩ : Hb)) :: (Xe ++ rest ++ hbA A e0 us1 cc0 sz0)).Perm (Xe ++ ((b, ⟨u, us.set (m * sz' + off) (.slice A ra.length cc0), c' * sz'⟩) :: (hbA A e0 us1 cc0 sz0 ++ rest))) := by
    refine List.Perm.trans ?_ List.perm_middle.symm
    refine List.Perm.cons _ ?_
    rw [List.append_assoc]
    exact List.perm_append_comm.append_left _
  exact (((hw.perm p4).sub (List.sublist_append_right _ _)).perm s1.symm)⟩
/-- A store into an array that a cell of a row owns. -/
theorem Raw.faStoreRe {x y : Operand} {t : TypeId} {k m o j off u e sz szf : Nat} {rs : List (List E)} {row : List E} {rr : List (List V)} {r2 : List V} {sy : SV} {xs : List D} {ys : List V} {i : Ty} {tmT : List (Nat × SV)} {ob : List (Nat × Ob)} (hx : evT tmT x = some (.d (D.re k m o j off))) (hk : lk k ob = some (.fa u szf rs)) (h1 : famOne k ob = true) (hy : evT tmT y = some sy) (hc : cellsOfT sy = some xs) (hb : borL [] xs = some ys) (ht : lk t T = some i) (hsz : xs.length = i.size) (hr : rs[m]? = some row) (ho : row[o]? = some (.os e sz rr)) (hr2 : rr[j]? = some r2) (hle : off + ys.length ≤ sz)
    (kk : K (dropT k tmT) (dropO k (obu k (.fa u szf (rs.set m (row.set o (.os e sz (rr.set j (r2.take off ++ ys ++ r2.drop (off + ys.length))))))) ob))) : Raw P nt ⟨none, .store t x y, ty, pos, af, gd⟩ tmT ob K := ⟨fun Q c tm h ρ G g => by
  obtain ⟨F, w0, hp⟩ := h
  obtain ⟨vy, y1, y2⟩ := g.ev hy
  have hv := cellsOfT_den hc y2
  have hv' := borL_nil_den hb hv
  obtain ⟨p, r1, r2'⟩ := g.ev hx
  cases r2' with | d r2' => cases r2' with | @re _ _ _ _ _ b1 c1 sz1 x0 =>
  obtain ⟨b, cf, us, Xe, rest, _, hlt, hone, ⟨u0, hu0, A', cc', us1, rfl, rfl, t3, t4, t5, t6⟩, p1, _, p3⟩ := g.faPut hk h1 hr ho
  rw [x0] at t3
  injection t3 with t3
  injection t3 with e1 e2 e3
  subst e1 e2 e3
  have hrl : r2.length = sz1 := t6 r2 (List.mem_of_getElem? hr2)
  have hfl := flat_len t6
  have hm : j < rr.length := (List.getElem?_eq_some_iff.1 hr2).1
  have hin : j * sz1 + off + ys.length ≤ rr.flatten.length := by
    rw [hfl]
    have : (j + 1) * sz1 ≤ rr.length * sz1 := Nat.mul_le_mul_right _ hm
    rw [Nat.succ_mul] at this; omega
  have hmid : DenVL ⟨G, w0⟩ (rr.set j (r2.take off ++ ys ++ r2.drop (off + ys.length))).flatten (spl us1 (j * sz1 + off) (vcells vy)) := by
    rw [flat_mid t6 hr2 hle]
    exact t5.mid hv' hin
  have hlen : (rr.set j (r2.take off ++ ys ++ r2.drop (off + ys.length))).length = rr.length := by simp
  obtain ⟨hq, z1, z2⟩ := p3 (.os e sz1 (rr.set j (r2.take off ++ ys ++ r2.drop (off + ys.length)))) (.slice (some ⟨b1, 0, none⟩) rr.length c1) (some ⟨some ⟨b1, 0, none⟩, c1, sz1⟩) (hbA (some ⟨b1, 0, none⟩) e (spl us1 (j * sz1 + off) (vcells vy)) c1 sz1) ⟨some ⟨b1, 0, none⟩, c1, _, rfl, by rw [hlen], by simp [updOs], by rw [hlen]; exact ⟨.inr ⟨b1, rfl⟩, by rw [spl_length]; exact t4.len, t4.cap, t4.max⟩, hmid, fun r hr0 => by
    rcases List.mem_or_eq_of_mem_set hr0 with q | q
    · exact t6 r q
    · subst q; simp; omega⟩
  rw [set_same hu0] at z1
  have pp : hp.Perm ((b1, ⟨e, us1, c1 * sz1⟩) :: ((b, ⟨u, us, cf * szf⟩) :: rest)) := by
    rw [hbA_some] at p1
    exact p1.trans (List.Perm.swap _ _ _)
  have pp' : ((b1, (⟨e, spl us1 (j * sz1 + off) (vcells vy), c1 * sz1⟩ : Hb)) :: ((b, ⟨u, us, cf * szf⟩) :: rest)).Perm hq := by
    rw [hbA_some] at z1
    exact (List.Perm.swap _ _ _).trans z1.symm
  refine OpS.wk (fun w hw => hw.perm pp) ?_
  refine OpS.store (z := ⟨e, us1, c1 * sz1⟩) r1 y1 ht .here (by rw [hv.len]; exact hsz) hv.one (by rw [← hsz, ← hv.len, hv'.len]; simp only [t5.len]; rw [Nat.ble_eq]; exact hin) rfl ?_
  exact ⟨⟨_, _⟩, _, G, ⟨F, w0, hq⟩, fun w hw => hw.perm pp', z2, kk⟩⟩
/-- append onto an array that a cell of a row owns: it moves out. -/
theorem Raw.faAppend {x y : Operand} {t t' : TypeId} {d k m o sz n e u szf mm : Nat} {rs : List (List E)} {row : List E} {rr rs' : List (List V)} {ky : Option Nat} {sy : SV} {i : Ty} {jk : Tk} {jb : Nat} {jz : List Value} {tmT : List (Nat × SV)} {ob : List (Nat × Ob)} (hx : evT tmT x = some (.d (D.r k m o sz n))) (hy : evT tmT y = some sy) (hry : rowsT ob sy = some (rs', mm, ky)) (hsz : szT ob sz sy = true) (hk : lk k ob = some (.fa u szf rs)) (h1 : famOne k ob = true)
    (ht : lk t T = some i) (hi : i.k = .sl e) (hj : lk e T = some ⟨jk, sz, jb, jz⟩) (ht' : Nat.beq t t' = true) (hpos : Nat.blt 0 sz = true) (hz : jz.length = sz) (hd : Nat.blt d nt = true) (hrow : rs[m]? = some row) (ho : row[o]? = some (.os e sz rr)) (hnew : newN d (dropT k tmT) (dropO k (obu k (.fa u szf (rs.set m (row.set o .hl))) ob)) = true)
    (hA : Apd rr.length n rs'.length mm jb (K ((d, .d (.ow d (rr ++ rs').length)) :: dropT k tmT) ((d, .ar e sz (rr ++ rs')) :: dropO k (obu k (.fa u szf (rs.set m (row.set o .hl))) ob)))) : Raw P nt ⟨some d, .call ⟨.builtin .append, #[x, y], #[t, t']⟩, ty, pos, af, gd⟩ tmT ob K := ⟨fun Q c tm h ρ G g => by
  have := Nat.eq_of_beq_eq_true ht'
  subst this
  obtain ⟨hn, hm, hbb, hxx, kk⟩ := hA
  obtain ⟨vx, q1, q2⟩ := g.ev hx
  obtain ⟨vy, r1, r2⟩ := g.ev hy
  obtain ⟨B, dd, us', rfl, s1, s2, s3⟩ := src_den g hry hsz hm r2
  obtain ⟨F, w0, hp⟩ := h
  cases q2 with | d q2 => cases q2 with | @r _ _ _ _ _ cc A x0 xA xc xm =>
  obtain ⟨b, cf, us, Xe, rest, _, hlt, hone, ⟨u0, hu0, A', cc', us1, rfl, rfl, t3, t4, t5, t6⟩, p1, _, p3⟩ := g.faPut hk h1 hrow ho
  rw [x0] at t3
  injection t3 with t3
  injection t3 with e1 e2 _
  subst e1 e2
  obtain ⟨hq, z1, z2⟩ := p3 .hl (.slice A rr.length cc) (some ⟨A, cc, sz⟩) [] ⟨rfl, rfl⟩
  have hul : us'.length = mm * sz := by rw [s2.len, flat_len s3, hm]
  rw [set_same hu0] at z1
  have pp : hp.Perm (hbA A e us1 cc sz ++ ((b, ⟨u, us, cf * szf⟩) :: rest)) := p1.trans List.perm_middle.symm
  have s1' : SrcA ⟨F, w0, hbA A e us1 cc sz ++ ((b, ⟨u, us, cf * szf⟩) :: rest)⟩ B us' := ⟨fun w hw => s1.out w (hw.perm pp.symm)⟩
  refine OpS.wk (h' := ⟨F, w0, hbA A e us1 cc sz ++ ((b, ⟨u, us, cf * szf⟩) :: rest)⟩) (fun w hw => hw.perm pp) ?_
  refine OpS.appendA q1 r1 ht hi hj hz (by simpa [Nat.blt_eq] using hpos) (by rw [hn] at t4; exact t4) .here s1' hul (fun u hu => List.all_eq_true.1 s2.one u hu) (by rw [← hn, ← hm]; exact hbb) (by rw [← hn, ← hm]; exact hxx) hd fun A2 c2 hA2 => ?_
  have hlen : (rr ++ rs').length = n + mm := by rw [List.length_append, hn, hm]
  have hob : ObOk (upd (updOs ρ k m o (some ⟨A, cc, sz⟩)) d ⟨A2, c2, sz⟩) ⟨G, w0⟩ d (.ar e sz (rr ++ rs')) (hbA A2 e (us1 ++ us') c2 sz) :=
    ⟨A2, c2, us1 ++ us', rfl, upd_self, by rw [hlen]; exact hA2, by rw [List.flatten_append]; exact t5.app s2, fun r hr => by
      rcases List.mem_append.1 hr with hr | hr
      · exact t6 r hr
      · exact s3 r hr⟩
  have g1 := (z2.new (st := ⟨dropT k tmT, _⟩) hnew hob).put (d := d) (s := .d (.ow d (rr ++ rs').length)) (v := .slice A2 (n + mm) c2) (by
    rw [hlen]
    refine .d (.ow (l := ⟨A2, c2, sz⟩) upd_self (fun hA0 => ?_) hA2.cap)
    rcases hA2.form with ⟨_, e0, _⟩ | ⟨b, e0⟩
    · exact e0
    · dsimp only at hA0; rw [e0] at hA0; cases hA0)
  exact ⟨_, _, G, _, fun w hw => hw.perm ((z1.append_left _).symm), g1, kk⟩⟩
end
end Go.Proofs.YtabmcfnefjipbaaGreatDoor
namespace Go.Proofs.YtabmcfnefjipbaaGreatDoor
open Go.RowKit
theorem fa_get {α : Type} {l : List α} {i : Nat} {a : α} (h : i < l.length) : (l.set i a)[i]? = some a := by simp [h]
section
variable {P : Program} {T : List (Nat × Ty)} [hT : Tys P T] {nt : Nt} {Q : Exit → Act → World → Prop} {c : Cx} {st : St} {tm : List (Nat × Value)} {h : Hs} {ρ : Rho} {G : FG} {ty : TypeId} {pos : String} {af : Array Edge} {gd : Option (Nat × Bool)} {K : Kt}
omit hT in
/-- What does not satisfy p is forgotten; an object that does not is laid anew. -/
theorem Gd.anew {F : Nat → Prop} {w0 : World} {hp : List (Nat × Hb)} (g : Gd c st tm ⟨F, w0, hp⟩ ρ G) {p : Nat → Bool} {ρ' : Rho} (e : ∀ k, p k = true → ρ' k = ρ k) (e' : ∀ k, p k = true → ∀ i o, ρ'.os k i o = ρ.os k i o) (ho : okO p (cleanOb p st.ob) = true) {k : Nat} {o : Ob} {X : List (Nat × Hb)} (h : ObOk ρ' ⟨G, w0⟩ k o X) :
    Gd c ⟨keepTm p [] st.tm, (k, o) :: cleanOb p st.ob⟩ tm ⟨F, w0, X ++ hp⟩ ρ' G :=
  ⟨g.fF, g.fw, g.gF, g.gx, g.fm, fun j s hj => by
    obtain ⟨v, q1, q2⟩ := g.tm j s (keepTm_get hj).2
    exact ⟨v, q1, q2.okP e e' (okTm_get keepTm_ok j s hj)⟩, ⟨X, hp, rfl, h, (cleanOb_ok g.ob).okP e e' ho⟩⟩
omit hT in
theorem FaOk.congrB {ρ' : Rho} {z : Fz} {k i : Nat} {rs : List (List E)} {us : List Value} {X : List (Nat × Hb)} (h : FaOk ρ z k i rs us X) : (∀ i' o, i' < i + rs.length → ρ'.os k i' o = ρ.os k i' o) → FaOk ρ' z k i rs us X := by
  induction h with
  | nil => intro _; exact .nil
  | cons h _ ih => intro hq; exact .cons (h.congr fun o' _ => hq _ o' (by simp)) (ih fun i' o hi => hq i' o (by simp at hi ⊢; omega))
def nB (k : Nat) (j : Nat) : Bool := !Nat.beq j k
omit hT in
theorem nB_ne' {k j : Nat} (h : nB k j = true) : Nat.beq j k = false := by simpa [nB] using h
/-- A copy of such an array: the old block is forgotten, and its cells' arrays are owned by the new one. -/
theorem Raw.faCopy {x y : Operand} {t t' : TypeId} {d d0 k n e sz jb : Nat} {rs : List (List E)} {i : Ty} {jk : Tk} {jz : List Value} {tmT tmK : List (Nat × SV)} {ob obF : List (Nat × Ob)} (hx : evT tmT x = some (.d (.ow d0 0))) (hy : evT tmT y = some (.d (.ow k n))) (hd0 : lk d0 ob = some (.ar e sz [])) (hk : lk k (obr d0 ob) = some (.fa e sz rs))
    (ht : lk t T = some i) (hi : i.k = .sl e) (hj : lk e T = some ⟨jk, sz, jb, jz⟩) (ht' : Nat.beq t t' = true) (hpos : Nat.blt 0 sz = true) (hz : jz.length = sz) (hd : Nat.blt d nt = true) (hTm : keepTm (nB k) [] tmT = tmK) (hO : cleanOb (nB k) (obr k (obr d0 ob)) = obF) (hok : okO (nB k) obF = true)
    (hA : Apd 0 0 rs.length n jb (K ((d, .d (.ow k n)) :: tmK) ((k, .fa e sz rs) :: obF))) : Raw P nt ⟨some d, .call ⟨.builtin .append, #[x, y], #[t, t']⟩, ty, pos, af, gd⟩ tmT ob K := ⟨fun Q c tm h ρ G g => by
  have := Nat.eq_of_beq_eq_true ht'
  subst this
  subst hTm hO
  obtain ⟨_, hn, hbb, hxx, kk⟩ := hA
  obtain ⟨vx, q1, q2⟩ := g.ev hx
  obtain ⟨vy, r1, r2⟩ := g.ev hy
  obtain ⟨F, w0, hp⟩ := h
  obtain ⟨X0, f0, ⟨A0, c0, us0, rfl, a2, a3, a4, a5⟩, a6, _, a8⟩ := g.ob.set hd0
  obtain ⟨X1, f1, ⟨A, cc, us, Y, rfl, b2, b3, b4, b5⟩, b6, _, b8⟩ := a8.set hk
  have hu0 : us0 = [] := by have := a4.len; simpa using this
  subst hu0
  have hp1 : (f0 []).Perm ((hbA A e us cc sz ++ Y) ++ f1 []) := by have := b6.perm (hbA A e us cc sz ++ Y); rwa [b6.eq] at this
  have hp0 : hp.Perm (hbA A0 e [] c0 sz ++ f0 []) := by have := a6.perm (hbA A0 e [] c0 sz); rwa [a6.eq] at this
  have pp : hp.Perm (hbA A0 e [] c0 sz ++ (hbA A e us cc sz ++ (Y ++ f1 []))) := by
    refine hp0.trans (List.Perm.append_left _ ?_)
    rw [← List.append_assoc]
    exact hp1
  have hvx : vx = .slice A0 0 c0 := by
    cases q2 with | d q2 => cases q2 with | @ow _ _ l h0 hA hnc =>
    rw [h0] at a2
    injection a2 with a2; subst a2
    rfl
  have hvy : vy = .slice A n cc := by
    cases r2 with | d r2 => cases r2 with | @ow _ _ l h0 hA hnc =>
    rw [h0] at b2
    injection b2 with b2; subst b2
    rfl
  subst hvx hvy
  have hul : us.length = n * sz := by rw [b4.len b5, hn]
  have hone := b4.one
  have hs1 : SrcA ⟨F, w0, hbA A0 e [] c0 sz ++ (hbA A e us cc sz ++ (Y ++ f1 []))⟩ A us := ⟨fun w hw => by
    have r : RowAt (hbA A e us cc sz) (hbA A e us cc sz ++ (Y ++ f1 [])) (fun Z => Z ++ (Y ++ f1 [])) := .here
    exact (SrcA.row (F := F) (w0 := w0) r b3).out w (hw.sub (List.sublist_append_right _ _))⟩
  refine OpS.wk (h' := ⟨F, w0, hbA A0 e [] c0 sz ++ (hbA A e us cc sz ++ (Y ++ f1 []))⟩) (fun w hw => hw.perm pp) ?_
  refine OpS.appendA q1 r1 ht hi hj hz (by simpa [Nat.blt_eq] using hpos) a3 .here hs1 hul (fun u hu => List.all_eq_true.1 hone u hu) (by rw [← hn]; exact hbb) (by rw [← hn]; exact hxx) hd fun A2 c2 hA2 => ?_
  have hob : ObOk (upd ρ k ⟨A2, c2, sz⟩) ⟨G, w0⟩ k (.fa e sz rs) (hbA A2 e ([] ++ us) c2 sz ++ Y) :=
    ⟨A2, c2, [] ++ us, Y, rfl, upd_self, by simp only [Nat.zero_add] at hA2; rw [hn]; exact hA2, b4.congr fun _ _ => rfl, b5⟩
  have g1 := (Gd.anew (st := ⟨tmT, obr k (obr d0 ob)⟩) (hp := f1 []) ⟨g.fF, g.fw, g.gF, g.gx, g.fm, g.tm, b8⟩ (p := nB k) (ρ' := upd ρ k ⟨A2, c2, sz⟩) (fun j hj => upd_ne (nB_ne' hj)) (fun _ _ _ _ => rfl) hok hob).put (d := d) (s := .d (.ow k n)) (v := .slice A2 (0 + n) c2) (by
    rw [Nat.zero_add]
    simp only [Nat.zero_add] at hA2
    refine .d (.ow (l := ⟨A2, c2, sz⟩) upd_self (fun hA0 => ?_) hA2.cap)
    rcases hA2.form with ⟨_, e0, _⟩ | ⟨b, e0⟩
    · exact e0
    · dsimp only at hA0; rw [e0] at hA0; cases hA0)
  refine ⟨_, _, G, _, fun w hw => ?_, g1, kk⟩
  have p2 : (hbA A2 e ([] ++ us) c2 sz ++ (hbA A e us cc sz ++ (Y ++ f1 []))).Perm (hbA A e us cc sz ++ (hbA A2 e ([] ++ us) c2 sz ++ Y ++ f1 [])) := by
    rw [List.append_assoc, ← List.append_assoc, ← List.append_assoc (hbA A e us cc sz)]
    exact List.perm_append_comm.append_right _
  exact (hw.perm p2).sub (List.sublist_append_right _ _)⟩
/-- A plain own array is seen as one whose cells may own arrays. -/
def newOsA (ρ : Rho) (k : Nat) (sp : List (Nat × (Nat × Nat))) : Rho := ⟨ρ.loc, fun j i' o => if j = k then (match lk o sp with | some (_, sz) => some ⟨none, 0, sz⟩ | none => none) else ρ.os j i' o⟩
def nB2 (k k' : Nat) (j : Nat) : Bool := bif Nat.beq j k then false else !Nat.beq j k'
/-- An array of a cell is an own one from here on. -/
def tkD (k m o k1 : Nat) : D → D
  | .r k' m' o' sz n => bif Nat.beq k' k then bif Nat.beq m' m then bif Nat.beq o' o then .ow k1 n else .r k' m' o' sz n else .r k' m' o' sz n else .r k' m' o' sz n
  | d => d
end
end Go.Proofs.YtabmcfnefjipbaaGreatDoor
namespace Go.Proofs.YtabmcfnefjipbaaGreatDoor
open Go.RowKit
/-- Cells that own arrays, as values. -/
inductive FrL : List E → List V → Prop
  | nil : FrL [] []
  | v {x : V} {es : List E} {vs : List V} : FrL es vs → FrL (.v x :: es) (x :: vs)
  | os {t sz : Nat} {rr : List (List V)} {es : List E} {vs : List V} : FrL es vs → FrL (.os t sz rr :: es) (.sl sz rr :: vs)
inductive FrR : List (List E) → List (List V) → Prop
  | nil : FrR [] []
  | cons {r : List E} {v : List V} {rs : List (List E)} {vs : List (List V)} : FrL r v → FrR rs vs → FrR (r :: rs) (v :: vs)
theorem FrR.map {α : Type} {f : α → List E} {g : α → List V} (h : ∀ a, FrL (f a) (g a)) : ∀ {l : List α}, FrR (l.map f) (l.map g)
  | [] => .nil
  | a :: _ => .cons (h a) (FrR.map h)
theorem FrL.len {es : List E} {vs : List V} (h : FrL es vs) : vs.length = es.length := by
  induction h with
  | nil => rfl
  | v _ ih => simp [ih]
  | os _ ih => simp [ih]
theorem FrR.len {rs : List (List E)} {vs : List (List V)} (h : FrR rs vs) : vs.length = rs.length := by
  induction h with
  | nil => rfl
  | cons _ _ ih => simp [ih]
theorem FrR.rows {sz : Nat} {rs : List (List E)} {vs : List (List V)} (h : FrR rs vs) : (∀ r ∈ rs, r.length = sz) → ∀ r ∈ vs, r.length = sz := by
  induction h with
  | nil => intro _ r hr; cases hr
  | cons h1 _ ih =>
    intro hs r hr
    rcases List.mem_cons.1 hr with rfl | hr
    · rw [h1.len]; exact hs _ (by simp)
    · exact ih (fun r' h' => hs r' (by simp [h'])) r hr
section
variable {F : Nat → Prop} {w0 w : World} {hp : List (Nat × Hb)} {ρ : Rho} {G : FG}
theorem frz_row {A : Option Addr} {e cc sz n : Nat} {us : List Value} {rs : List (List V)} (hw : Hp ⟨F, w0, hp⟩ w) (hn : rs.length = n) (g3 : OkA A us n cc sz) (g4 : DenVL ⟨G.or (Bl hp), w⟩ rs.flatten us) (g5 : ∀ r ∈ rs, r.length = sz) (hm : ∀ p, p ∈ hbA A e us cc sz → p ∈ hp) :
    DenV ⟨G.or (Bl hp), w⟩ (.sl sz rs) (.slice A n cc) := by
  rcases g3.form with ⟨rfl, h1, h2⟩ | ⟨b, rfl⟩
  · have hrs : rs = [] := List.eq_nil_of_length_eq_zero (hn.trans h1)
    subst hrs
    exact .sl (b := 0) (o := 0) [] hn g3.cap (Nat.le_trans g3.cap g3.max) g5 (fun h => absurd rfl h) (by simp) (fun j u h => by simp at h) rfl (fun j d u h => by simp at h)
  · have hm' : (b, (⟨e, us, cc * sz⟩ : Hb)) ∈ hp := hm _ (by rw [hbA_some]; exact List.mem_singleton.2 rfl)
    exact .sl (b := b) (o := 0) us hn g3.cap (Nat.le_trans g3.cap g3.max) g5 (fun _ => ⟨rfl, .inr ⟨_, hm'⟩⟩) g4.len (fun j x hx => by rw [Nat.zero_add]; exact (hw.blk b _ hm').cell (x := ⟨e, us, _⟩) hx) g4.one g4.den
theorem CellsOk.frz (hw : Hp ⟨F, w0, hp⟩ w) (hz : Mz ⟨G, w0⟩ ⟨G.or (Bl hp), w⟩) {es : List E} {vs : List V} (h : FrL es vs) : ∀ {k i o : Nat} {us : List Value} {X : List (Nat × Hb)}, CellsOk ρ ⟨G, w0⟩ k i o es us X → (∀ p, p ∈ X → p ∈ hp) → DenVL ⟨G.or (Bl hp), w⟩ vs us := by
  induction h with
  | nil => intro k i o us X hc _; cases hc; exact .nil
  | @v x es vs _ ih =>
    intro k i o us X hc hX
    cases hc with
    | @cons _ _ u X1 _ us Y h1 h2 =>
      have h3 := ih h2 fun p hp => hX p (List.mem_append_right _ hp)
      have h4 : DenV ⟨G.or (Bl hp), w⟩ x u := h1.2.mono hz
      have h5 : DenVL ⟨G.or (Bl hp), w⟩ [x] [u] := ⟨rfl, by simp [h4.one], fun j d u' e1 e2 => by
        cases j with
        | zero => simp at e1 e2; subst e1 e2; exact h4
        | succ j => simp at e1⟩
      exact h5.app h3
  | @os t sz rr es vs _ ih =>
    intro k i o us X hc hX
    cases hc with
    | @cons _ _ u X1 _ us Y h1 h2 =>
      have h3 := ih h2 fun p hp => hX p (List.mem_append_right _ hp)
      obtain ⟨A, c, us1, rfl, rfl, t3, t4, t5, t6⟩ := h1
      have h4 : DenV ⟨G.or (Bl hp), w⟩ (.sl sz rr) (.slice A rr.length c) := frz_row hw rfl t4 (t5.mono hz) t6 fun p hp => hX p (List.mem_append_left _ hp)
      have h5 : DenVL ⟨G.or (Bl hp), w⟩ [.sl sz rr] [.slice A rr.length c] := ⟨rfl, by simp [h4.one], fun j d u' e1 e2 => by
        cases j with
        | zero => simp at e1 e2; subst e1 e2; exact h4
        | succ j => simp at e1⟩
      exact h5.app h3
theorem FaOk.frz (hw : Hp ⟨F, w0, hp⟩ w) (hz : Mz ⟨G, w0⟩ ⟨G.or (Bl hp), w⟩) {rs : List (List E)} {vs : List (List V)} (h : FrR rs vs) : ∀ {k i : Nat} {us : List Value} {X : List (Nat × Hb)}, FaOk ρ ⟨G, w0⟩ k i rs us X → (∀ p, p ∈ X → p ∈ hp) → DenVL ⟨G.or (Bl hp), w⟩ vs.flatten us := by
  induction h with
  | nil => intro k i us X hc _; cases hc; exact .nil
  | cons h1 _ ih =>
    intro k i us X hc hX
    cases hc with
    | cons c1 c2 =>
      exact (CellsOk.frz hw hz h1 c1 fun p hp => hX p (List.mem_append_left _ hp)).app (ih c2 fun p hp => hX p (List.mem_append_right _ hp))
end
/-- What an argument is read as. -/
inductive BorR (ob : List (Nat × Ob)) : D → V → Prop
  | u {x : V} : BorR ob (.u x) x
  | ar {k n t sz : Nat} {rs : List (List V)} : lk k ob = some (.ar t sz rs) → rs.length = n → BorR ob (.ow k n) (.sl sz rs)
  | fa {k n t sz : Nat} {rs : List (List E)} {vs : List (List V)} : lk k ob = some (.fa t sz rs) → rs.length = n → FrR rs vs → BorR ob (.ow k n) (.sl sz vs)
  | rf {k i o sz n u szf e : Nat} {rs : List (List E)} {row : List E} {rr : List (List V)} : lk k ob = some (.fa u szf rs) → rs[i]? = some row → row[o]? = some (.os e sz rr) → rr.length = n → BorR ob (D.r k i o sz n) (.sl sz rr)
inductive BorLR (ob : List (Nat × Ob)) : List D → List D → Prop
  | nil : BorLR ob [] []
  | cons {d : D} {v : V} {r r' : List D} : BorR ob d v → BorLR ob r r' → BorLR ob (d :: r) (.u v :: r')
inductive ArgR (ob : List (Nat × Ob)) (tm : List (Nat × SV)) : List Operand → List SV → Prop
  | nil : ArgR ob tm [] []
  | d {x : Operand} {d : D} {v : V} {r : List Operand} {ss : List SV} : evT tm x = some (.d d) → BorR ob d v → ArgR ob tm r ss → ArgR ob tm (x :: r) (.d (.u v) :: ss)
  | a {x : Operand} {ds ds' : List D} {r : List Operand} {ss : List SV} : evT tm x = some (.a ds) → BorLR ob ds ds' → ArgR ob tm r ss → ArgR ob tm (x :: r) (.a ds' :: ss)
section
variable {P : Program} {T : List (Nat × Ty)} {nt : Nt} {Q : Exit → Act → World → Prop} {c : Cx} {st : St} {tm : List (Nat × Value)} {h : Hs} {ρ : Rho} {G : FG} {ty : TypeId} {pos : String} {af : Array Edge} {gd : Option (Nat × Bool)} {K : Kt} {w : World}
theorem BorR.den (g : Gd c st tm h ρ G) (hw : Hp h w) {d : D} {x : V} {v : Value} (b : BorR st.ob d x) (hd : Den ρ ⟨G, h.w0⟩ d v) : DenV ⟨G.or (Bl h.hp), w⟩ x v := by
  have hz := g.mz hw (G' := G.or (Bl h.hp)) fun _ h => .inl h
  obtain ⟨F, w0, hp⟩ := h
  cases b with
  | u => cases hd with | u hd => exact hd.mono hz
  | @ar k n t sz rs hk hn =>
    cases hd with | @ow _ _ l h0 hA hnc =>
    obtain ⟨Y, f, ⟨A, cc, us, rfl, g2, g3, g4, g5⟩, g6⟩ := g.ob.at_ hk
    rw [h0] at g2
    injection g2 with g2; subst g2
    exact frz_row hw hn (by rw [← hn]; exact g3) (g4.mono hz) g5 fun p hp => g6.mem hp
  | @fa k n t sz rs vs hk hn hf =>
    cases hd with | @ow _ _ l h0 hA hnc =>
    obtain ⟨Y, f, ⟨A, cc, us, X, rfl, g2, g3, g4, g5⟩, g6⟩ := g.ob.at_ hk
    rw [h0] at g2
    injection g2 with g2; subst g2
    exact frz_row (e := t) hw (hf.len.trans hn) (by rw [← hn]; exact g3) (FaOk.frz hw hz hf g4 fun p hp => g6.mem (List.mem_append_right _ hp)) (hf.rows g5) fun p hp => g6.mem (List.mem_append_left _ hp)
  | @rf k i o sz n u szf e rs row rr hk hr ho hn =>
    cases hd with | @r _ _ _ _ _ cc0 A0 h0 hA hnc hm0 =>
    obtain ⟨Y, f, ⟨A, cc, us, X, rfl, g2, g3, g4, g5⟩, g6⟩ := g.ob.at_ hk
    obtain ⟨us1, X1, rest1, r0, r1, r2, r3, r4, _⟩ := g4.split g5 hr
    rw [Nat.zero_add] at r3
    obtain ⟨u0, Xe, rest2, t1, ⟨A', cc', us2, rfl, rfl, t3, t4, t5, t6⟩, t7, _⟩ := r3.split ho
    rw [Nat.zero_add] at t3
    rw [t3] at h0
    injection h0 with h0
    injection h0 with e1 e2 _
    subst e1 e2
    exact frz_row (e := e) hw hn (by rw [← hn]; exact t4) (t5.mono hz) t6 fun p hp => g6.mem (List.mem_append_right _ (r4.mem_iff.2 (List.mem_append_left _ (t7.mem_iff.2 (List.mem_append_left _ hp)))))
theorem BorLR.den (g : Gd c st tm h ρ G) (hw : Hp h w) {ds ds' : List D} (b : BorLR st.ob ds ds') : ∀ {us : List Value}, DenL ρ ⟨G, h.w0⟩ ds us → DenL ρ ⟨G.or (Bl h.hp), w⟩ ds' us := by
  induction b with
  | nil =>
    intro us hd
    have := hd.len
    simp at this
    subst this
    exact ⟨rfl, rfl, fun _ _ _ h => by simp at h⟩
  | cons h1 _ ih =>
    intro us hd
    have hl := hd.len
    cases us with
    | nil => simp at hl
    | cons u us =>
      have h2 := ih (us := us) ⟨by simpa using hl, by have := hd.one; simp at this; simpa using this.2, fun j d v e1 e2 => hd.den (j + 1) d v (by simpa using e1) (by simpa using e2)⟩
      exact h2.cons (.u (h1.den g hw (hd.den 0 _ u rfl rfl)))
theorem ArgR.ev (g : Gd c st tm h ρ G) {xs : List Operand} {ss : List SV} (b : ArgR st.ob st.tm xs ss) : ∃ vs, ArgsL tm xs vs ∧ vs.length = ss.length ∧ ∀ w, Hp h w → ∀ (j : Nat) s v, ss[j]? = some s → vs[j]? = some v → DenS ρ ⟨G.or (Bl h.hp), w⟩ s v := by
  induction b with
  | nil => exact ⟨[], .nil, rfl, fun w hw j s v e => by simp at e⟩
  | d h1 h2 _ ih =>
    obtain ⟨v, q1, q2⟩ := g.ev h1
    obtain ⟨vs, r1, r2, r3⟩ := ih
    refine ⟨v :: vs, .cons q1 r1, by simp [r2], fun w hw j s0 v0 e1 e2 => ?_⟩
    cases j with
    | zero =>
      simp at e1 e2; subst e1 e2
      cases q2 with | d q2 => exact .d (.u (h2.den g hw q2))
    | succ j => exact r3 w hw j s0 v0 (by simpa using e1) (by simpa using e2)
  | a h1 h2 _ ih =>
    obtain ⟨v, q1, q2⟩ := g.ev h1
    obtain ⟨vs, r1, r2, r3⟩ := ih
    refine ⟨v :: vs, .cons q1 r1, by simp [r2], fun w hw j s0 v0 e1 e2 => ?_⟩
    cases j with
    | zero =>
      simp at e1 e2; subst e1 e2
      cases q2 with | a q2 => exact .a (h2.den g hw q2)
    | succ j => exact r3 w hw j s0 v0 (by simpa using e1) (by simpa using e2)
end
end Go.Proofs.YtabmcfnefjipbaaGreatDoor
namespace Go.Proofs.YtabmcfnefjipbaaGreatDoor
open Go.RowKit
/-- Orders of a region: alternatives, each with what follows it; or a free operation first. -/
inductive OF where
  | nil
  | alt (i : Nat) (s r : OF)
  | fst (i : Nat) (s : OF)
def OF.heads : OF → List Nat
  | .nil => []
  | .alt i _ r => i :: r.heads
  | .fst _ _ => []
def OF.depth : OF → Nat
  | .nil => 0
  | .alt _ s r => max (s.depth + 1) r.depth
  | .fst _ s => s.depth + 1
def OF.chk (ops : Array Oper) (late free : List Nat) : OF → Bool → Array Bool → Bool
  | .nil, top, listed => bif top then Region.ready .any ops listed == [] else true
  | .alt i s r, top, listed => (bif top then Region.ready .any ops listed == (OF.alt i s r).heads else true) && ((late.contains i && !free.contains i) && (s.chk ops late free true (listed.setIfInBounds i true) && r.chk ops late free false listed))
  | .fst i s, top, listed => (top && (free.contains i && regOk ops listed [] i)) && (dstAt ops i && s.chk ops late free true (listed.setIfInBounds i true))
section
variable (P : Program) (T : List (Nat × Ty)) (nt : Nt)
/-- An own array's row, found with no memory in sight. -/
def ixT (op : Op) (tm : List (Nat × SV)) (ob : List (Nat × Ob)) (K : SV → Prop) : Option Prop := match op with
  | .indexAddr t x ix => match evT tm ix with
    | some (.d (.u (.int _ i))) => match lk t T with
      | none => none
      | some ti => match ti.k with
        | .sl e => match lk e T with
          | none => none
          | some j => match evT tm x with
            | some (.d (.ow k n)) => bif szT ob j.size (.d (.ow k n)) then some (Ixo n i fun m => K (.d (.e k m 0))) else none
            | _ => none
        | _ => none
    | _ => none
  | _ => none
def vcYW (o : Oper) (tm : List (Nat × SV)) (ob : List (Nat × Ob)) (K : Kt) : Prop := match ixT T o.op tm ob (fun s => putT nt o.dst s tm ob K) with
  | some p => p
  | none => vcYF P T nt o tm ob K
end
section
variable {P : Program} {T : List (Nat × Ty)} [hT : Tys P T] {nt : Nt} {c : Cx} {st : St} {tm : List (Nat × Value)} {h : Hs} {ρ : Rho} {G : FG} {ty : TypeId} {pos : String} {af : Array Edge} {gd : Option (Nat × Bool)} {d : Option Tmp}
end
section
variable (P : Program) (T : List (Nat × Ty)) (nt : Nt)
def vcGF (ops : Array Oper) (i : Nat) (X : Kt) : Kt := fun tm ob => match nth ops.toList i with
  | none => False
  | some o => match o.guard with
    | none => vcYW P T nt o tm ob X
    | some (j, want) => match gdT ops j with
      | none => False
      | some t => match lk t tm with
        | some (.d (.u (.bool b))) => match want with
          | true => Brn b (vcYW P T nt o tm ob X) (skipT nt o.dst tm ob X)
          | false => Brn b (skipT nt o.dst tm ob X) (vcYW P T nt o tm ob X)
        | some (.t []) => skipT nt o.dst tm ob X
        | _ => False
def vcOF (ops : Array Oper) (K : Kt) : OF → Kt
  | .nil, tm, ob => K tm ob
  | .fst i s, tm, ob => vcGF P T nt ops i (vcOF ops K s) tm ob
  | .alt i s .nil, tm, ob => vcG P T nt ops i (vcOF ops K s) tm ob
  | .alt i s (.alt j s' r), tm, ob => vcG P T nt ops i (vcOF ops K s) tm ob ∧ vcOF ops K (.alt j s' r) tm ob
  | .alt _ _ (.fst _ _), _, _ => False
end
section
variable {P : Program} {T : List (Nat × Ty)} [hT : Tys P T] {nt : Nt} {ops : Array Oper} {Q : Exit → Act → World → Prop} {late free : List Nat} {c : Cx} {K : Kt}
end
end Go.Proofs.YtabmcfnefjipbaaGreatDoor
namespace Go.Proofs.YtabmcfnefjipbaaGreatDoor
open Go.RowKit
theorem at_R (a b : Int) : CallsA Tryz.prog 23 [di a, di b] [] (Is (dfa a b)) := by
  refine callsA_of_vc (T := tt) Tryz.func23 rfl rfl rfl rfl rfl ?_
  repeat' ((conv => whnf); first | refine Gs.id ?_ | fail)
  all_goals (conv => whnf)
  all_goals exact Ret.is rfl
theorem in_R (n lo hi : Int) : CallsA Tryz.prog 33 [di n, di lo, di hi] [] (Is (db (decide (lo ≤ n ∧ n ≤ hi)))) := by
  by_cases h1 : lo ≤ n
  · by_cases h2 : n ≤ hi
    · rw [show decide (lo ≤ n ∧ n ≤ hi) = true by simp [h1, h2]]
      refine callsA_of_vc (T := tt) Tryz.func33 rfl rfl rfl rfl rfl ?_
      repeat' ((conv => whnf); first | refine Gs.id ?_ | refine Brn.T (by (try simp only [smT]); first | rfl | assumption | fail) ?_ | fail)
      all_goals (conv => whnf)
      all_goals first | exact Ret.is rfl | (refine Ret.is ?_; simp [h1, h2]; rfl)
    · rw [show decide (lo ≤ n ∧ n ≤ hi) = false by simp [h2]]
      refine callsA_of_vc (T := tt) Tryz.func33 rfl rfl rfl rfl rfl ?_
      repeat' ((conv => whnf); first | refine Gs.id ?_ | refine Brn.T (by (try simp only [smT]); first | rfl | assumption | fail) ?_ | fail)
      all_goals (conv => whnf)
      all_goals first | exact Ret.is rfl | (refine Ret.is ?_; simp [h1, h2]; rfl)
  · rw [show decide (lo ≤ n ∧ n ≤ hi) = false by simp [h1]]
    refine callsA_of_vc (T := tt) Tryz.func33 rfl rfl rfl rfl rfl ?_
    repeat' ((conv => whnf); first | refine Gs.id ?_ | refine Brn.F (by (try simp only [smT]); first | rfl | omega | fail) ?_ | fail)
    all_goals (conv => whnf)
    all_goals first | exact Ret.is rfl | (refine Ret.is ?_; simp [h1]; rfl)
/-- The index of the call of each active function. -/
def pushI (e : Ev) (i : Nat) (ix : List Nat) : List Nat := if e.kind = 2 then ix ++ [i] else ix
def actI (e : Ev) (i : Nat) (ix : List Nat) : List Nat := if 2 < e.kind then (pushI e i ix).dropLast else pushI e i ix
/-- The functions of these events. -/
def fuI (l : List Ev) (ix : List Nat) : List Fu := ix.map fun j => ((l[j]?.map Ev.fu).getD (ByteArray.mk #[], ByteArray.mk #[]))
abbrev ixR (i : Nat) : List V := [.int .i64 (i : Int)]
theorem fuI_push {l : List Ev} {e : Ev} {i : Nat} {ix : List Nat} (he : l[i]? = some e) : fuI l (pushI e i ix) = pushM e (fuI l ix) := by
  unfold pushI pushM
  split
  · simp [fuI, he]
  · rfl
theorem fuI_act {l : List Ev} {e : Ev} {i : Nat} {ix : List Nat} (he : l[i]? = some e) : fuI l (actI e i ix) = actM e (fuI l ix) := by
  unfold actI actM
  split
  · rw [← fuI_push he]; simp [fuI, List.map_dropLast]
  · exact fuI_push he
set_option maxHeartbeats 4000000 in
theorem trace_R (l : List Ev) (hsz : ∀ e ∈ l, e.md.size ≤ 1000000000000) : CallsA Tryz.prog 20 [.d (.u (evs l))] [] (Is (dfa (validM l).1 (validM l).2)) := by
  have hat := fun a b => at_R a b
  by_cases hl : 20000 < l.length
  · have e : validM l = (2, -1) := by rw [validM, if_pos hl]
    rw [e]
    refine callsA_of_vc (T := tt) Tryz.func20 rfl rfl rfl rfl rfl ?_
    repeat' ((conv => whnf); first | refine Gs.id ?_ | refine Brn.T (by (try simp only [smT]); first | rfl | omega | fail) ?_ | (refine Bnd.mk (fun hm => ?_); (try simp only [smT] at hm)) | (refine CL.mk (Or.inl ?_); (conv => whnf); refine Cl.is (hat _ _) rfl (by first | exact fun _ => rfl | fail) ?_) | fail)
    all_goals (conv => whnf)
    all_goals exact Ret.is rfl
  · have e : validM l = vFrom 0 0 [] l := by rw [validM, if_neg hl]
    rw [e]
    refine callsA_of_vc (T := tt) Tryz.func20 rfl rfl rfl rfl rfl ?_
    repeat' ((conv => whnf); first | refine Gs.id ?_ | refine Brn.F (by (try simp only [smT]); first | rfl | omega | fail) ?_ | (refine Bnd.mk (fun hm => ?_); (try simp only [smT] at hm)) | fail)
    all_goals (conv => whnf)
    refine ⟨⟨Nat × List Nat, fun x => x.1 ≤ l.length ∧ x.2.length ≤ x.1 ∧ (∀ j ∈ x.2, j < l.length) ∧ 0 ≤ fuelAt l x.1 ∧ vFrom 0 0 [] l = vFrom x.1 (fuelAt l x.1) (fuI l x.2) (l.drop x.1), fun x => l.length - x.1, fun x => ⟨[(0, .d (.u (evs l))), (2, .d (.p 2 0)), (3, .d (.ow 900 x.2.length)), (4, di x.1)], [(2, .bx 25 [.u (.int .i64 0), .u (.int .i64 0)]), (900, .ar 3 1 (x.2.map ixR))]⟩, (0, []), ⟨Nat.zero_le _, Nat.le_refl _, by simp, Int.le_refl _, rfl⟩, ⟨[(2, .k 2), (900, .n 1)], ⟨by (try dsimp only); (repeat (refine LeT.cons rfl (by first | exact LeS.d (by first | exact LeD.u rfl | exact LeD.p rfl | exact LeD.no rfl rfl | fail) | fail) ?_)); exact LeT.nil, by (try dsimp only); repeat (first | exact LeO.nil | refine LeO.bx rfl rfl (by repeat (first | exact LeL.nil | refine LeL.cons (by first | exact LeD.u rfl | fail) ?_)) ?_ | refine LeO.no rfl rfl ?_)⟩⟩, fun x hx => ?_⟩⟩
    obtain ⟨i, ix⟩ := x
    obtain ⟨hi, hxl, hxj, hf0, he⟩ := hx
    dsimp only at hi hxl hxj hf0 he ⊢
    rw [he]
    by_cases h9 : i < l.length
    · rw [List.drop_eq_getElem_cons h9, vFrom]
      have hev : l[i]? = some l[i] := List.getElem?_eq_getElem h9
      have hmem := List.mem_of_getElem? hev
      have hds := hsz _ hmem
      have hci : ((i + 1 : Nat) : Int) = (i : Int) + 1 := by omega
      have hrow : ∀ {K : List V → Prop} {j : Int}, j = (i : Int) → K (l[i]).row → Ix (l.map Ev.row) j K := fun h k => by subst h; exact Ix.map rfl h9 k
      have hpv : ∀ {K : List V → Prop} {j : Int}, 0 < i → j = (i : Int) - 1 → (∀ e', e'.fuel = fuelAt l i → K (Ev.row e')) → Ix (l.map Ev.row) j K := fun {K j} h0 h k => by
        subst h
        have hp : l[i - 1]? = some (l[i - 1]'(by omega)) := List.getElem?_eq_getElem (by omega)
        refine ⟨⟨i - 1, (l[i - 1]'(by omega)).row, by omega, by rw [List.getElem?_map, hp]; rfl, k _ ?_⟩⟩
        have := fuelAt_succ hp
        rw [show i - 1 + 1 = i by omega] at this
        exact this.symm
      have hpush := fuI_push (ix := ix) hev
      have hact := fuI_act (ix := ix) hev
      have hfs := fuelAt_succ hev
      generalize l[i] = e at *
      have hin := in_R e.kind 1 4
      have hd := dotted_R e.md hds
      rw [← dottedM_eq] at hd
      have hn := name_R e.fn
      have hs0 := str_nil (s := e.text)
      generalize hz : (e.text.toList == (ByteArray.mk #[]).toList) = bz at *
      have hl0 : ((e.locs.map locR).length : Int) = (e.locs.length : Int) := by simp
      by_cases hk : e.kind < 1 ∨ 4 < e.kind
      · have hs : shapeM e (fuelAt l i) = 5 := by rw [shapeM, if_pos hk]
        have hc : codeM e (fuelAt l i) (fuI l ix) = 5 := by rw [codeM, hs]; rfl
        rw [hc, if_pos (by decide)]
        rw [show decide ((1 : Int) ≤ e.kind ∧ e.kind ≤ 4) = false by simp; omega] at hin
        repeat' ((conv => whnf); first | refine hrow rfl ?_ | refine Gs.id ?_ | with_reducible refine Brn.T rfl ?_ | refine Brn.T (by (try simp only [smT]); first | rfl | omega | fail) ?_ | (refine Bnd.mk (fun hm => ?_); (try simp only [smT] at hm)) | (refine CL.mk (Or.inl ?_); (conv => whnf); first | refine Cl.is (hin) rfl (by first | exact fun _ => rfl | fail) ?_ | refine Cl.is (hat _ _) rfl (by first | exact fun _ => rfl | fail) ?_) | fail)
        all_goals (conv => whnf)
        all_goals exact Ret.is rfl
      · rw [show decide ((1 : Int) ≤ e.kind ∧ e.kind ≤ 4) = true by simp; omega] at hin
        by_cases hB : (e.kind ≠ 1 ∧ 0 < e.locs.length) ∨ (e.kind ≤ 2 ∧ e.text.size ≠ 0)
        · have hs : shapeM e (fuelAt l i) = 6 := by rw [shapeM, if_neg hk, if_pos hB]
          have hc : codeM e (fuelAt l i) (fuI l ix) = 6 := by rw [codeM, hs]; rfl
          rw [hc, if_pos (by decide)]
          by_cases hB1 : e.kind ≠ 1 ∧ 0 < e.locs.length
          · repeat' ((conv => whnf); first | refine hrow rfl ?_ | refine Gs.id ?_ | with_reducible refine Brn.T rfl ?_ | with_reducible refine Brn.F rfl ?_ | refine Brn.T (by (try simp only [smT]); first | rfl | omega | fail) ?_ | (refine Bnd.mk (fun hm => ?_); (try simp only [smT] at hm)) | (refine CL.mk (Or.inl ?_); (conv => whnf); first | refine Cl.is (hin) rfl (by first | exact fun _ => rfl | fail) ?_ | refine Cl.is (hat _ _) rfl (by first | exact fun _ => rfl | fail) ?_) | fail)
            all_goals (conv => whnf)
            all_goals first | exact Ret.is rfl | (exfalso; simp at *; omega)
          · obtain ⟨hB2, hB3⟩ := hB.resolve_left hB1
            rw [decide_eq_false hB3] at hs0
            subst hs0
            rcases (show e.kind = 1 ∨ e.kind = 2 by omega) with hk1 | hk1
            · repeat' ((conv => whnf); first | refine hrow rfl ?_ | rw [hz] | refine Gs.id ?_ | with_reducible refine Brn.T rfl ?_ | with_reducible refine Brn.F rfl ?_ | refine Brn.T (by (try simp only [smT]); first | rfl | assumption | omega | fail) ?_ | refine Brn.F (by (try simp only [smT]); first | rfl | assumption | fail) ?_ | (refine Bnd.mk (fun hm => ?_); (try simp only [smT] at hm)) | (refine CL.mk (Or.inl ?_); (conv => whnf); first | refine Cl.is (hin) rfl (by first | exact fun _ => rfl | fail) ?_ | refine Cl.is (hat _ _) rfl (by first | exact fun _ => rfl | fail) ?_) | fail)
              all_goals (conv => whnf)
              all_goals first | exact Ret.is rfl | (exfalso; simp at *; omega)
            · repeat' ((conv => whnf); first | refine hrow rfl ?_ | rw [hz] | refine Gs.id ?_ | with_reducible refine Brn.T rfl ?_ | with_reducible refine Brn.F rfl ?_ | refine Brn.T (by (try simp only [smT]); first | rfl | assumption | omega | fail) ?_ | refine Brn.F (by (try simp only [smT]); first | rfl | omega | fail) ?_ | (refine Bnd.mk (fun hm => ?_); (try simp only [smT] at hm)) | (refine CL.mk (Or.inl ?_); (conv => whnf); first | refine Cl.is (hin) rfl (by first | exact fun _ => rfl | fail) ?_ | refine Cl.is (hat _ _) rfl (by first | exact fun _ => rfl | fail) ?_) | fail)
              all_goals (conv => whnf)
              all_goals first | exact Ret.is rfl | (exfalso; simp at *; omega)
        · have hloc : e.kind ≠ 1 → e.locs.length = 0 := fun h => by omega
          have htx : e.kind ≤ 2 → bz = true := fun h => by rw [hs0]; exact decide_eq_true (by omega)
          refine' cutR (fun _ : Unit => True) (fun _ => ⟨[(0, .d (.u (evs l))), (2, .d (.p 2 0)), (3, .d (.ow 900 ix.length)), (4, di i), (5, .d (.p 5 0))], [(2, .bx 25 [.u (.int .i64 0), .u (.int .i64 0)]), (5, .bx 58 e.ds), (900, .ar 3 1 (ix.map ixR))]⟩) _ (fun hR => ?_) ?_
          rotate_left
          · rcases (show e.kind = 1 ∨ e.kind = 2 ∨ e.kind = 3 ∨ e.kind = 4 by omega) with hk1 | hk1 | hk1 | hk1
            · have hx := htx (by omega)
              subst hx
              repeat' ((conv => whnf); first | refine hrow rfl ?_ | rw [hz] | (exact Gs.cut (i := 12) (by assumption) () [(2, .k 2), (5, .k 5), (900, .k 900)] rfl ⟨by (try dsimp only); (repeat (refine LeT.cons rfl (by first | exact LeS.d (by first | exact LeD.u rfl | exact LeD.p rfl | exact LeD.ow rfl rfl | fail) | fail) ?_)); (first | exact LeT.nil | fail), by (try dsimp only); (repeat (first | exact LeO.nil | refine LeO.bx rfl rfl (by repeat (first | exact LeL.nil | refine LeL.cons (by first | exact LeD.u rfl | fail) ?_)) ?_ | refine LeO.ar rfl rfl (by first | rfl | fail) ?_ | fail)); done⟩ (by trivial)) | refine Gs.id ?_ | with_reducible refine Brn.T rfl ?_ | with_reducible refine Brn.F rfl ?_ | refine Brn.T (by (try simp only [smT]); first | rfl | assumption | omega | fail) ?_ | refine Brn.F (by (try simp only [smT]); first | rfl | assumption | fail) ?_ | (refine Bnd.mk (fun hm => ?_); (try simp only [smT] at hm)) | (refine CL.mk (Or.inl ?_); (conv => whnf); first | refine Cl.is (hin) rfl (by first | exact fun _ => rfl | fail) ?_ | fail) | fail)
            · have hx := htx (by omega)
              subst hx
              have hx2 := hloc (by omega)
              repeat' ((conv => whnf); first | refine hrow rfl ?_ | rw [hz] | (exact Gs.cut (i := 12) (by assumption) () [(2, .k 2), (5, .k 5), (900, .k 900)] rfl ⟨by (try dsimp only); (repeat (refine LeT.cons rfl (by first | exact LeS.d (by first | exact LeD.u rfl | exact LeD.p rfl | exact LeD.ow rfl rfl | fail) | fail) ?_)); (first | exact LeT.nil | fail), by (try dsimp only); (repeat (first | exact LeO.nil | refine LeO.bx rfl rfl (by repeat (first | exact LeL.nil | refine LeL.cons (by first | exact LeD.u rfl | fail) ?_)) ?_ | refine LeO.ar rfl rfl (by first | rfl | fail) ?_ | fail)); done⟩ (by trivial)) | refine Gs.id ?_ | with_reducible refine Brn.F rfl ?_ | refine Brn.T (by (try simp only [smT]); first | rfl | assumption | omega | fail) ?_ | refine Brn.F (by (try simp only [smT]); first | rfl | omega | fail) ?_ | (refine Bnd.mk (fun hm => ?_); (try simp only [smT] at hm)) | (refine CL.mk (Or.inl ?_); (conv => whnf); first | refine Cl.is (hin) rfl (by first | exact fun _ => rfl | fail) ?_ | fail) | fail)
            · have hx2 := hloc (by omega)
              repeat' ((conv => whnf); first | refine hrow rfl ?_ | (exact Gs.cut (i := 12) (by assumption) () [(2, .k 2), (5, .k 5), (900, .k 900)] rfl ⟨by (try dsimp only); (repeat (refine LeT.cons rfl (by first | exact LeS.d (by first | exact LeD.u rfl | exact LeD.p rfl | exact LeD.ow rfl rfl | fail) | fail) ?_)); (first | exact LeT.nil | fail), by (try dsimp only); (repeat (first | exact LeO.nil | refine LeO.bx rfl rfl (by repeat (first | exact LeL.nil | refine LeL.cons (by first | exact LeD.u rfl | fail) ?_)) ?_ | refine LeO.ar rfl rfl (by first | rfl | fail) ?_ | fail)); done⟩ (by trivial)) | refine Gs.id ?_ | with_reducible refine Brn.F rfl ?_ | refine Brn.T (by (try simp only [smT]); first | rfl | omega | fail) ?_ | refine Brn.F (by (try simp only [smT]); first | rfl | omega | fail) ?_ | (refine Bnd.mk (fun hm => ?_); (try simp only [smT] at hm)) | (refine CL.mk (Or.inl ?_); (conv => whnf); first | refine Cl.is (hin) rfl (by first | exact fun _ => rfl | fail) ?_ | fail) | fail)
            · have hx2 := hloc (by omega)
              repeat' ((conv => whnf); first | refine hrow rfl ?_ | (exact Gs.cut (i := 12) (by assumption) () [(2, .k 2), (5, .k 5), (900, .k 900)] rfl ⟨by (try dsimp only); (repeat (refine LeT.cons rfl (by first | exact LeS.d (by first | exact LeD.u rfl | exact LeD.p rfl | exact LeD.ow rfl rfl | fail) | fail) ?_)); (first | exact LeT.nil | fail), by (try dsimp only); (repeat (first | exact LeO.nil | refine LeO.bx rfl rfl (by repeat (first | exact LeL.nil | refine LeL.cons (by first | exact LeD.u rfl | fail) ?_)) ?_ | refine LeO.ar rfl rfl (by first | rfl | fail) ?_ | fail)); done⟩ (by trivial)) | refine Gs.id ?_ | with_reducible refine Brn.F rfl ?_ | refine Brn.T (by (try simp only [smT]); first | rfl | omega | fail) ?_ | refine Brn.F (by (try simp only [smT]); first | rfl | omega | fail) ?_ | (refine Bnd.mk (fun hm => ?_); (try simp only [smT] at hm)) | (refine CL.mk (Or.inl ?_); (conv => whnf); first | refine Cl.is (hin) rfl (by first | exact fun _ => rfl | fail) ?_ | fail) | fail)
          · intro _ _
            dsimp only
            clear hin hz hs0 hl0 hloc htx
            have hsN : (dottedM e.md = false ∨ nameB e.fn = false) → shapeM e (fuelAt l i) = 7 := fun h => by rw [shapeM, if_neg hk, if_neg hB, if_pos h]
            have hsY : ¬ (dottedM e.md = false ∨ nameB e.fn = false) → shapeM e (fuelAt l i) = (if e.line < 0 ∨ e.fuel < fuelAt l i then 4 else 0) := fun h => by rw [shapeM, if_neg hk, if_neg hB, if_neg h]
            generalize dottedM e.md = bd at *
            generalize nameB e.fn = bn at *
            by_cases hN : bd = false ∨ bn = false
            · have hs := hsN hN
              have hc : codeM e (fuelAt l i) (fuI l ix) = 7 := by rw [codeM, hs]; rfl
              rw [hc, if_pos (by decide)]
              cases bd
              · repeat' ((conv => whnf); first | refine Gs.id ?_ | with_reducible refine Brn.T rfl ?_ | (refine CL.mk (Or.inl ?_); (conv => whnf); first | refine Cl.is (hd) rfl (by first | exact fun _ => rfl | fail) ?_ | refine Cl.is (hat _ _) rfl (by first | exact fun _ => rfl | fail) ?_) | fail)
                all_goals (conv => whnf)
                all_goals exact Ret.is rfl
              · obtain rfl : bn = false := hN.resolve_left (by simp)
                repeat' ((conv => whnf); first | refine Gs.id ?_ | with_reducible refine Brn.T rfl ?_ | with_reducible refine Brn.F rfl ?_ | (refine CL.mk (Or.inl ?_); (conv => whnf); first | refine Cl.is (hd) rfl (by first | exact fun _ => rfl | fail) ?_ | refine Cl.is (hn) rfl (by first | exact fun _ => rfl | fail) ?_ | refine Cl.is (hat _ _) rfl (by first | exact fun _ => rfl | fail) ?_) | fail)
                all_goals (conv => whnf)
                all_goals exact Ret.is rfl
            · have hs := hsY hN
              obtain rfl : bd = true := by cases bd <;> simp_all
              obtain rfl : bn = true := by cases bn <;> simp_all
              by_cases hR0 : e.line < 0 ∨ e.fuel < fuelAt l i
              · rw [if_pos hR0] at hs
                have hc : codeM e (fuelAt l i) (fuI l ix) = 4 := by rw [codeM, hs]; rfl
                rw [hc, if_pos (by decide)]
                by_cases hR1 : e.line < 0
                · repeat' ((conv => whnf); first | refine Gs.id ?_ | with_reducible refine Brn.T rfl ?_ | with_reducible refine Brn.F rfl ?_ | refine Brn.T (by (try simp only [smT]); first | rfl | assumption | fail) ?_ | refine Drw.of (T := tt) (i := 14) [] [] [(0, true), (1, true), (2, true), (3, true), (4, true), (5, true), (6, true), (7, true), (8, true), (9, true), (10, true), (11, true), (12, true), (13, true), (14, true), (15, true), (16, true), (17, true), (18, true), (19, true), (20, true), (21, true), (22, true)] (by kernel_rfl) ?_ | (refine CL.mk (Or.inl ?_); (conv => whnf); first | refine Cl.is (hd) rfl (by first | exact fun _ => rfl | fail) ?_ | refine Cl.is (hn) rfl (by first | exact fun _ => rfl | fail) ?_ | refine Cl.is (hat _ _) rfl (by first | exact fun _ => rfl | fail) ?_) | fail)
                  all_goals (conv => whnf)
                  all_goals exact Ret.is rfl
                · by_cases hR2 : e.fuel < 0
                  · repeat' ((conv => whnf); first | refine Gs.id ?_ | with_reducible refine Brn.T rfl ?_ | with_reducible refine Brn.F rfl ?_ | refine Brn.T (by (try simp only [smT]); first | rfl | assumption | fail) ?_ | refine Brn.F (by (try simp only [smT]); first | rfl | omega | fail) ?_ | refine Drw.of (T := tt) (i := 14) [] [] [(0, true), (1, true), (2, true), (3, true), (4, true), (5, true), (6, true), (7, true), (8, true), (9, true), (10, true), (11, true), (12, true), (13, true), (14, true), (15, true), (16, true), (17, true), (18, true), (19, true), (20, true), (21, true), (22, true)] (by kernel_rfl) ?_ | (refine CL.mk (Or.inl ?_); (conv => whnf); first | refine Cl.is (hd) rfl (by first | exact fun _ => rfl | fail) ?_ | refine Cl.is (hn) rfl (by first | exact fun _ => rfl | fail) ?_ | refine Cl.is (hat _ _) rfl (by first | exact fun _ => rfl | fail) ?_) | fail)
                    all_goals (conv => whnf)
                    all_goals exact Ret.is rfl
                  · have hi0 : 0 < i := by
                      rcases Nat.eq_zero_or_pos i with h | h
                      · subst h
                        have : fuelAt l 0 = 0 := rfl
                        omega
                      · exact h
                    repeat' ((conv => whnf); first | refine hpv (by omega) rfl (fun e' he' => ?_) | refine Gs.id ?_ | with_reducible refine Brn.F rfl ?_ | refine Brn.T (by (try simp only [smT]); first | rfl | omega | fail) ?_ | refine Brn.F (by (try simp only [smT]); first | rfl | omega | fail) ?_ | refine Rng.mk (by (try simp only [smT]); omega) ?_ | refine Drw.of (T := tt) (i := 14) [] [] [(0, true), (1, true), (2, true), (3, true), (4, true), (5, true), (6, true), (7, true), (8, true), (9, true), (10, true), (11, true), (12, true), (13, true), (14, true), (15, true), (16, true), (17, true), (18, true), (19, true), (20, true), (21, true), (22, true)] (by kernel_rfl) ?_ | (refine CL.mk (Or.inl ?_); (conv => whnf); first | refine Cl.is (hd) rfl (by first | exact fun _ => rfl | fail) ?_ | refine Cl.is (hn) rfl (by first | exact fun _ => rfl | fail) ?_ | refine Cl.is (hat _ _) rfl (by first | exact fun _ => rfl | fail) ?_) | fail)
                    all_goals (conv => whnf)
                    all_goals exact Ret.is rfl
              · rw [if_neg hR0] at hs
                refine' cutR (fun _ : Unit => True) (fun _ => ⟨[(0, .d (.u (evs l))), (2, .d (.p 2 0)), (3, .d (.ow 900 (pushI e i ix).length)), (4, di i), (5, .d (.p 5 0))], [(2, .bx 25 [.u (.int .i64 0), .u (.int .i64 0)]), (5, .bx 58 e.ds), (900, .ar 3 1 ((pushI e i ix).map ixR))]⟩) _ (fun hR => ?_) ?_
                rotate_left
                · by_cases h2 : e.kind = 2
                  · have hp : pushI e i ix = ix ++ [i] := by rw [pushI, if_pos h2]
                    rcases Nat.eq_zero_or_pos i with h0 | h0
                    · repeat' ((conv => whnf); first | (exact Gs.cut (i := 18) (by assumption) () [(2, .k 2), (5, .k 5), (900, .k 96)] rfl ⟨by (try dsimp only); (repeat (refine LeT.cons rfl (by first | exact LeS.d (by first | exact LeD.u rfl | exact LeD.p rfl | exact LeD.ow rfl (by simp [hp]; done) | fail) | fail) ?_)); (first | exact LeT.nil | fail), by (try dsimp only); (repeat (first | exact LeO.nil | refine LeO.bx rfl rfl (by repeat (first | exact LeL.nil | refine LeL.cons (by first | exact LeD.u rfl | fail) ?_)) ?_ | refine LeO.ar rfl rfl (by first | (simp [hp]; done) | fail) ?_ | fail)); done⟩ (by trivial)) | refine Gs.id ?_ | with_reducible refine Brn.F rfl ?_ | refine Brn.T (by (try simp only [smT]); first | rfl | assumption | fail) ?_ | refine Brn.F (by (try simp only [smT]); first | rfl | omega | fail) ?_ | refine Apd.mk (by first | rfl | simp) (by first | rfl | fail) (by (try simp only [smT]); first | omega | fail) (by unfold maxLen; first | (simp; omega) | fail) ?_ | refine Drw.of (T := tt) (i := 14) [] [] [(0, true), (1, true), (2, true), (3, true), (4, true), (5, true), (6, true), (7, true), (8, true), (9, true), (10, true), (11, true), (12, true), (13, true), (14, true), (15, true), (16, true), (17, true), (18, true), (19, true), (20, true), (21, true), (22, true)] (by kernel_rfl) ?_ | (refine CL.mk (Or.inl ?_); (conv => whnf); first | refine Cl.is (hd) rfl (by first | exact fun _ => rfl | fail) ?_ | refine Cl.is (hn) rfl (by first | exact fun _ => rfl | fail) ?_ | fail) | fail)
                    · repeat' ((conv => whnf); first | refine hpv (by omega) rfl (fun e' he' => ?_) | (exact Gs.cut (i := 18) (by assumption) () [(2, .k 2), (5, .k 5), (900, .k 96)] rfl ⟨by (try dsimp only); (repeat (refine LeT.cons rfl (by first | exact LeS.d (by first | exact LeD.u rfl | exact LeD.p rfl | exact LeD.ow rfl (by simp [hp]; done) | fail) | fail) ?_)); (first | exact LeT.nil | fail), by (try dsimp only); (repeat (first | exact LeO.nil | refine LeO.bx rfl rfl (by repeat (first | exact LeL.nil | refine LeL.cons (by first | exact LeD.u rfl | fail) ?_)) ?_ | refine LeO.ar rfl rfl (by first | (simp [hp]; done) | fail) ?_ | fail)); done⟩ (by trivial)) | refine Gs.id ?_ | with_reducible refine Brn.F rfl ?_ | refine Brn.T (by (try simp only [smT]); first | rfl | assumption | omega | fail) ?_ | refine Brn.F (by (try simp only [smT]); first | rfl | omega | fail) ?_ | refine Rng.mk (by (try simp only [smT]); omega) ?_ | refine Apd.mk (by first | rfl | simp) (by first | rfl | fail) (by (try simp only [smT]); first | omega | fail) (by unfold maxLen; first | (simp; omega) | fail) ?_ | refine Drw.of (T := tt) (i := 14) [] [] [(0, true), (1, true), (2, true), (3, true), (4, true), (5, true), (6, true), (7, true), (8, true), (9, true), (10, true), (11, true), (12, true), (13, true), (14, true), (15, true), (16, true), (17, true), (18, true), (19, true), (20, true), (21, true), (22, true)] (by kernel_rfl) ?_ | (refine CL.mk (Or.inl ?_); (conv => whnf); first | refine Cl.is (hd) rfl (by first | exact fun _ => rfl | fail) ?_ | refine Cl.is (hn) rfl (by first | exact fun _ => rfl | fail) ?_ | fail) | fail)
                  · have hp : pushI e i ix = ix := by rw [pushI, if_neg h2]
                    rcases Nat.eq_zero_or_pos i with h0 | h0
                    · repeat' ((conv => whnf); first | (exact Gs.cut (i := 18) (by assumption) () [(2, .k 2), (5, .k 5), (900, .k 900)] rfl ⟨by (try dsimp only); (repeat (refine LeT.cons rfl (by first | exact LeS.d (by first | exact LeD.u rfl | exact LeD.p rfl | exact LeD.ow rfl (by simp [hp]; done) | fail) | fail) ?_)); (first | exact LeT.nil | fail), by (try dsimp only); (repeat (first | exact LeO.nil | refine LeO.bx rfl rfl (by repeat (first | exact LeL.nil | refine LeL.cons (by first | exact LeD.u rfl | fail) ?_)) ?_ | refine LeO.ar rfl rfl (by first | (simp [hp]; done) | fail) ?_ | fail)); done⟩ (by trivial)) | refine Gs.id ?_ | with_reducible refine Brn.F rfl ?_ | refine Brn.F (by (try simp only [smT]); first | rfl | assumption | omega | fail) ?_ | refine Drw.of (T := tt) (i := 14) [] [] [(0, true), (1, true), (2, true), (3, true), (4, true), (5, true), (6, true), (7, true), (8, true), (9, true), (10, true), (11, true), (12, true), (13, true), (14, true), (15, true), (16, true), (17, true), (18, true), (19, true), (20, true), (21, true), (22, true)] (by kernel_rfl) ?_ | (refine CL.mk (Or.inl ?_); (conv => whnf); first | refine Cl.is (hd) rfl (by first | exact fun _ => rfl | fail) ?_ | refine Cl.is (hn) rfl (by first | exact fun _ => rfl | fail) ?_ | fail) | fail)
                    · repeat' ((conv => whnf); first | refine hpv (by omega) rfl (fun e' he' => ?_) | (exact Gs.cut (i := 18) (by assumption) () [(2, .k 2), (5, .k 5), (900, .k 900)] rfl ⟨by (try dsimp only); (repeat (refine LeT.cons rfl (by first | exact LeS.d (by first | exact LeD.u rfl | exact LeD.p rfl | exact LeD.ow rfl (by simp [hp]; done) | fail) | fail) ?_)); (first | exact LeT.nil | fail), by (try dsimp only); (repeat (first | exact LeO.nil | refine LeO.bx rfl rfl (by repeat (first | exact LeL.nil | refine LeL.cons (by first | exact LeD.u rfl | fail) ?_)) ?_ | refine LeO.ar rfl rfl (by first | (simp [hp]; done) | fail) ?_ | fail)); done⟩ (by trivial)) | refine Gs.id ?_ | with_reducible refine Brn.F rfl ?_ | refine Brn.T (by (try simp only [smT]); first | rfl | omega | fail) ?_ | refine Brn.F (by (try simp only [smT]); first | rfl | assumption | omega | fail) ?_ | refine Rng.mk (by (try simp only [smT]); omega) ?_ | refine Drw.of (T := tt) (i := 14) [] [] [(0, true), (1, true), (2, true), (3, true), (4, true), (5, true), (6, true), (7, true), (8, true), (9, true), (10, true), (11, true), (12, true), (13, true), (14, true), (15, true), (16, true), (17, true), (18, true), (19, true), (20, true), (21, true), (22, true)] (by kernel_rfl) ?_ | (refine CL.mk (Or.inl ?_); (conv => whnf); first | refine Cl.is (hd) rfl (by first | exact fun _ => rfl | fail) ?_ | refine Cl.is (hn) rfl (by first | exact fun _ => rfl | fail) ?_ | fail) | fail)
                · intro _ _
                  dsimp only
                  have hs' : ¬ (shapeM e (fuelAt l i) ≠ 0) := fun h => h hs
                  have hcm : codeM e (fuelAt l i) (fuI l ix) = if (fuI l (pushI e i ix)).length = 0 ∨ e.depth ≠ ((fuI l (pushI e i ix)).length : Int) then 11 else if (fuI l (pushI e i ix)).getLast? ≠ some e.fu then 19 else 0 := by rw [codeM, if_neg hs', ← hpush]
                  have hfl : (fuI l (pushI e i ix)).length = (pushI e i ix).length := by simp [fuI]
                  have hjj : ∀ j ∈ pushI e i ix, j < l.length := by
                    intro j hj
                    unfold pushI at hj
                    split at hj
                    · rcases List.mem_append.1 hj with hj | hj
                      · exact hxj j hj
                      · simp at hj; omega
                    · exact hxj j hj
                  have hlen1 : (pushI e i ix).length ≤ i + 1 := by unfold pushI; split <;> first | omega | (simp; done) | (simp; omega)
                  have hai : actI e i ix = if 2 < e.kind then (pushI e i ix).dropLast else pushI e i ix := rfl
                  rw [hfl] at hcm
                  rw [← hact]
                  clear hs' hpush hact hd hn hs hrow hpv
                  generalize pushI e i ix = ix1 at *
                  rcases List.eq_nil_or_concat ix1 with rfl | ⟨L, j, rfl⟩
                  · have hc : codeM e (fuelAt l i) (fuI l ix) = 11 := by rw [hcm, if_pos (.inl rfl)]
                    rw [hc, if_pos (by decide)]
                    repeat' ((conv => whnf); first | refine Gs.id ?_ | with_reducible refine Brn.T rfl ?_ | (refine Bnd.mk (fun hm => ?_); (try simp only [smT] at hm)) | (refine CL.mk (Or.inl ?_); (conv => whnf); refine Cl.is (hat _ _) rfl (by first | exact fun _ => rfl | fail) ?_) | fail)
                    all_goals (conv => whnf)
                    all_goals exact Ret.is rfl
                  · rw [List.concat_eq_append] at *
                    have hlenL : (((L ++ [j]).length : Nat) : Int) = (L.length : Int) + 1 := by simp
                    by_cases hd1 : e.depth = (L.length : Int) + 1
                    · have hjl := hjj j (by simp)
                      obtain ⟨f, hf⟩ : ∃ f, l[j]? = some f := ⟨_, List.getElem?_eq_getElem hjl⟩
                      have hlast : (fuI l (L ++ [j])).getLast? = some f.fu := by simp [fuI, hf]
                      rw [hlast] at hcm
                      have hcm2 : codeM e (fuelAt l i) (fuI l ix) = if some f.fu ≠ some e.fu then 19 else 0 := by rw [hcm, if_neg (by simp; omega)]
                      have hrowj : ∀ {K : List V → Prop} {m : Int}, m = (j : Int) → K f.row → Ix (l.map Ev.row) m K := fun h k => ⟨⟨j, f.row, h, by rw [List.getElem?_map, hf]; rfl, k⟩⟩
                      have hget : ((L ++ [j]).map ixR)[L.length]? = some (ixR j) := by simp
                      have hb1 := toList_beq f.md e.md
                      have hb2 := toList_beq f.fn e.fn
                      by_cases hfu : f.md = e.md ∧ f.fn = e.fn
                      · have hc : codeM e (fuelAt l i) (fuI l ix) = 0 := by rw [hcm2, if_neg (by simp [Ev.fu, hfu.1, hfu.2])]
                        rw [hc, if_neg (by simp)]
                        rw [decide_eq_true hfu.1] at hb1
                        rw [decide_eq_true hfu.2] at hb2
                        by_cases h3 : 2 < e.kind
                        · have ha2 : actI e i ix = L := by rw [hai, if_pos h3]; simp
                          rw [ha2]
                          repeat' ((conv => whnf); first | refine Ixo.mk ⟨L.length, by simp, by simp, ?_⟩ | refine Rw.get hget ?_ | refine hrowj rfl ?_ | refine Slc.mk ⟨0, L.length, rfl, by simp, by omega, by simp, ?_⟩ | rw [hb1] | rw [hb2] | refine Gs.id ?_ | with_reducible refine Brn.F rfl ?_ | refine Brn.T (by (try simp only [smT]); first | rfl | assumption | fail) ?_ | refine Brn.F (by (try simp only [smT]); first | rfl | assumption | omega | fail) ?_ | (refine Bnd.mk (fun hm => ?_); (try simp only [smT] at hm)) | refine Rng.mk (by (try simp only [smT]); omega) ?_ | fail)
                          all_goals (conv => whnf)
                          all_goals exact ⟨(i + 1, L), ⟨by omega, by simp at hlen1; dsimp only; omega, fun j hj => hjj j (by simp [hj]), by rw [hfs]; omega, by dsimp only; rw [hfs, hci]⟩, by omega, [(2, .k 2), (900, .k 900)], (by (try dsimp only); (repeat (refine LeT.cons rfl (by first | exact LeS.d (by first | exact LeD.u rfl | exact LeD.p rfl | exact LeD.ow rfl rfl | fail) | fail) ?_)); exact LeT.nil), .bx rfl rfl (.cons (.u rfl) (.cons (.u rfl) .nil)) (.tr (m := L.length) rfl rfl (by simp) (by simp) .nil)⟩
                        · have ha2 : actI e i ix = L ++ [j] := by rw [hai, if_neg h3]
                          rw [ha2]
                          repeat' ((conv => whnf); first | refine Ixo.mk ⟨L.length, by simp, by simp, ?_⟩ | refine Rw.get hget ?_ | refine hrowj rfl ?_ | rw [hb1] | rw [hb2] | refine Gs.id ?_ | with_reducible refine Brn.F rfl ?_ | refine Brn.F (by (try simp only [smT]); first | rfl | assumption | omega | fail) ?_ | (refine Bnd.mk (fun hm => ?_); (try simp only [smT] at hm)) | refine Rng.mk (by (try simp only [smT]); omega) ?_ | fail)
                          all_goals (conv => whnf)
                          all_goals exact ⟨(i + 1, L ++ [j]), ⟨by omega, by dsimp only; omega, hjj, by rw [hfs]; omega, by dsimp only; rw [hfs, hci]⟩, by omega, [(2, .k 2), (900, .k 900)], ⟨by (try dsimp only); (repeat (refine LeT.cons rfl (by first | exact LeS.d (by first | exact LeD.u rfl | exact LeD.p rfl | exact LeD.ow rfl rfl | fail) | fail) ?_)); exact LeT.nil, by (try dsimp only); repeat (first | exact LeO.nil | refine LeO.bx rfl rfl (by repeat (first | exact LeL.nil | refine LeL.cons (by first | exact LeD.u rfl | fail) ?_)) ?_ | refine LeO.ar rfl rfl (by first | rfl | fail) ?_ | fail)⟩⟩
                      · have hc : codeM e (fuelAt l i) (fuI l ix) = 19 := by rw [hcm2, if_pos (by intro h; injection h with h; simp only [Ev.fu, Prod.mk.injEq] at h; exact hfu h)]
                        rw [hc, if_pos (by decide)]
                        repeat' ((conv => whnf); first | refine Ixo.mk ⟨L.length, by simp, by simp, ?_⟩ | refine Rw.get hget ?_ | refine hrowj rfl ?_ | rw [hb1] | rw [hb2] | refine Gs.id ?_ | with_reducible refine Brn.T rfl ?_ | refine Brn.T (by (try simp only [smT]); first | rfl | assumption | fail) ?_ | refine Brn.F (by (try simp only [smT]); first | rfl | assumption | omega | fail) ?_ | (refine Brn.mk (fun hb => ?_) (fun hb => ?_) <;> (try simp only [smT] at hb) <;> (try (exact absurd trivial hb)) <;> (try (exfalso; omega))) | (refine Bnd.mk (fun hm => ?_); (try simp only [smT] at hm)) | refine Rng.mk (by (try simp only [smT]); omega) ?_ | (refine CL.mk (Or.inl ?_); (conv => whnf); refine Cl.is (hat _ _) rfl (by first | exact fun _ => rfl | fail) ?_) | fail)
                        all_goals (conv => whnf)
                        all_goals first | exact Ret.is rfl | (exfalso; simp at *; grind)
                    · have hc : codeM e (fuelAt l i) (fuI l ix) = 11 := by rw [hcm, if_pos (.inr (by simp; omega))]
                      rw [hc, if_pos (by decide)]
                      repeat' ((conv => whnf); first | refine Gs.id ?_ | refine Brn.T (by (try simp only [smT]); first | rfl | assumption | fail) ?_ | refine Brn.F (by (try simp only [smT]); first | rfl | omega | fail) ?_ | (refine Bnd.mk (fun hm => ?_); (try simp only [smT] at hm)) | (refine CL.mk (Or.inl ?_); (conv => whnf); refine Cl.is (hat _ _) rfl (by first | exact fun _ => rfl | fail) ?_) | fail)
                      all_goals (conv => whnf)
                      all_goals first | exact Ret.is rfl | (exfalso; simp at *; omega)
    · obtain rfl : i = l.length := by omega
      rw [List.drop_length, vFrom]
      repeat' ((conv => whnf); first | refine Gs.id ?_ | refine Brn.F (by (try simp only [smT]); first | rfl | omega | fail) ?_ | (refine Bnd.mk (fun hm => ?_); (try simp only [smT] at hm)) | (refine CL.mk (Or.inl ?_); (conv => whnf); refine Cl.is (hat _ _) rfl (by first | exact fun _ => rfl | fail) ?_) | fail)
      all_goals (conv => whnf)
      all_goals exact Ret.is rfl
end Go.Proofs.YtabmcfnefjipbaaGreatDoor
namespace Go.Proofs.YtabmcfnefjipbaaGreatDoor
open Go.RowKit
theorem vFrom_zero : ∀ (r : List Ev) (i fuel : Int) (act : List Fu), (vFrom i fuel act r).1 = 0 → vFrom i fuel act r = (0, 0)
  | [], _, _, _, _ => rfl
  | e :: r, i, fuel, act, h => by
    rw [vFrom] at h ⊢
    split at h
    · rename_i hc; exact absurd h hc
    · rename_i hc
      rw [if_neg hc]
      exact vFrom_zero r _ _ _ h
theorem validM_zero {l : List Ev} (h : (validM l).1 = 0) : validM l = (0, 0) := by
  unfold validM at h ⊢
  split at h
  · cases h
  · rename_i hl; rw [if_neg hl]; exact vFrom_zero _ _ _ _ h
theorem checkM_zero {l : List Ev} {fuel : Int} (h : (checkM l fuel).1 = 0) : checkM l fuel = (0, 0) := by
  unfold checkM at h ⊢
  split at h
  · rename_i hc; exact absurd h hc
  · rename_i hc
    rw [if_neg hc]
    split at h
    · cases h
    · rename_i hf; rw [if_neg hf]
theorem fuelFault_T (l : List Ev) (fuel : Int) (hsz : ∀ e ∈ l, e.md.size ≤ 1000000000000) : CallsA Tryz.prog 13 [.d (.u (evs l)), di fuel] [] (Is (dfa (checkM l fuel).1 (checkM l fuel).2)) := by
  have hv := trace_R l hsz
  have hz := validM_zero (l := l)
  have hat := fun a b => at_R a b
  unfold checkM
  generalize validM l = v at *
  obtain ⟨c, i⟩ := v
  dsimp only at hv hz ⊢
  by_cases hc : c = 0
  · rw [if_neg (by simpa using hc)]
    obtain ⟨rfl, rfl⟩ : c = 0 ∧ i = 0 := by have := hz hc; injection this with h1 h2; exact ⟨h1, h2⟩
    rcases List.eq_nil_or_concat l with rfl | ⟨L, e, rfl⟩
    · by_cases hf : fuel < 0
      · rw [if_pos (.inl hf)]
        refine callsA_of_vc (T := tt) Tryz.func13 rfl rfl rfl rfl rfl ?_
        repeat' ((conv => whnf); first | refine Gs.id ?_ | with_reducible refine Brn.T rfl ?_ | refine Brn.T (by (try simp only [smT]); first | rfl | assumption | fail) ?_ | (refine CL.mk (Or.inl ?_); (conv => whnf); first | refine Cl.is (hv) rfl (by first | exact fun _ => rfl | fail) ?_ | refine Cl.is (hat _ _) rfl (by first | exact fun _ => rfl | fail) ?_) | fail)
        all_goals (conv => whnf)
        all_goals exact Ret.is rfl
      · rw [if_neg (by simp; omega)]
        refine callsA_of_vc (T := tt) Tryz.func13 rfl rfl rfl rfl rfl ?_
        repeat' ((conv => whnf); first | refine Gs.id ?_ | with_reducible refine Brn.T rfl ?_ | with_reducible refine Brn.F rfl ?_ | refine Brn.F (by (try simp only [smT]); first | rfl | omega | fail) ?_ | (refine Bnd.mk (fun hm => ?_); (try simp only [smT] at hm)) | (refine CL.mk (Or.inl ?_); (conv => whnf); first | refine Cl.is (hv) rfl (by first | exact fun _ => rfl | fail) ?_ | fail) | fail)
        all_goals (conv => whnf)
        all_goals exact Ret.is rfl
    · rw [List.concat_eq_append] at *
      have hrow : ∀ {K : List V → Prop} {i : Int}, i = (L.length : Int) → K e.row → Ix ((L ++ [e]).map Ev.row) i K := fun h k => ⟨⟨L.length, e.row, h, by simp, k⟩⟩
      have hlf : lastFuel (L ++ [e]) = e.fuel := by simp [lastFuel]
      rw [hlf]
      by_cases hf : fuel < 0
      · rw [if_pos (.inl hf)]
        refine callsA_of_vc (T := tt) Tryz.func13 rfl rfl rfl rfl rfl ?_
        repeat' ((conv => whnf); first | refine Gs.id ?_ | with_reducible refine Brn.T rfl ?_ | refine Brn.T (by (try simp only [smT]); first | rfl | assumption | fail) ?_ | (refine CL.mk (Or.inl ?_); (conv => whnf); first | refine Cl.is (hv) rfl (by first | exact fun _ => rfl | fail) ?_ | refine Cl.is (hat _ _) rfl (by first | exact fun _ => rfl | fail) ?_) | fail)
        all_goals (conv => whnf)
        all_goals exact Ret.is rfl
      · by_cases hf2 : fuel < e.fuel
        · rw [if_pos (.inr ⟨by simp, hf2⟩)]
          refine callsA_of_vc (T := tt) Tryz.func13 rfl rfl rfl rfl rfl ?_
          repeat' ((conv => whnf); first | refine hrow (by simp) ?_ | refine Gs.id ?_ | with_reducible refine Brn.T rfl ?_ | refine Brn.T (by (try simp only [smT]); first | rfl | assumption | omega | fail) ?_ | refine Brn.F (by (try simp only [smT]); first | rfl | omega | fail) ?_ | (refine Bnd.mk (fun hm => ?_); (try simp only [smT] at hm)) | refine Rng.mk (by (try simp only [smT]); omega) ?_ | (refine CL.mk (Or.inl ?_); (conv => whnf); first | refine Cl.is (hv) rfl (by first | exact fun _ => rfl | fail) ?_ | refine Cl.is (hat _ _) rfl (by first | exact fun _ => rfl | fail) ?_) | fail)
          all_goals (conv => whnf)
          all_goals first | exact Ret.is rfl | (exfalso; simp at *; omega)
        · rw [if_neg (by rintro (h | ⟨_, h⟩) <;> omega)]
          refine callsA_of_vc (T := tt) Tryz.func13 rfl rfl rfl rfl rfl ?_
          repeat' ((conv => whnf); first | refine hrow (by simp) ?_ | refine Gs.id ?_ | with_reducible refine Brn.T rfl ?_ | refine Brn.T (by (try simp only [smT]); first | rfl | omega | fail) ?_ | refine Brn.F (by (try simp only [smT]); first | rfl | omega | fail) ?_ | (refine Bnd.mk (fun hm => ?_); (try simp only [smT] at hm)) | refine Rng.mk (by (try simp only [smT]); omega) ?_ | (refine CL.mk (Or.inl ?_); (conv => whnf); first | refine Cl.is (hv) rfl (by first | exact fun _ => rfl | fail) ?_ | fail) | fail)
          all_goals (conv => whnf)
          all_goals first | exact Ret.is rfl | (exfalso; simp at *; omega)
  · rw [if_pos hc]
    refine callsA_of_vc (T := tt) Tryz.func13 rfl rfl rfl rfl rfl ?_
    repeat' ((conv => whnf); first | refine Gs.id ?_ | with_reducible refine Brn.F rfl ?_ | refine Brn.F (by (try simp only [smT]); first | rfl | assumption | fail) ?_ | (refine CL.mk (Or.inl ?_); (conv => whnf); first | refine Cl.is (hv) rfl (by first | exact fun _ => rfl | fail) ?_ | fail) | fail)
    all_goals (conv => whnf)
    all_goals exact Ret.is rfl
abbrev mainB : ByteArray := ByteArray.mk #[109, 97, 105, 110]
abbrev moduleB : ByteArray := ByteArray.mk #[109, 111, 100, 117, 108, 101]
abbrev fB : ByteArray := ByteArray.mk #[102]
abbrev noB : ByteArray := ByteArray.mk #[]
abbrev mkEv (k : Int) (fn : ByteArray) (d f : Int) : Ev := ⟨k, mainB, fn, 0, d, f, noB, []⟩
theorem event_T (k : Int) (fn : ByteArray) (d f : Int) : CallsA Tryz.prog 77 [di k, dsr fn, di d, di f] [] (Is (.a (mkEv k fn d f).ds)) := by
  refine callsA_of_vc (T := tt) Tryz.func77 rfl rfl rfl rfl rfl ?_
  repeat' ((conv => whnf); first | refine Gs.id ?_ | fail)
  all_goals (conv => whnf)
  all_goals exact Ret.nl (by repeat (first | exact NlL.nil | exact NlD.refl | exact NlD.u (NlV.nl (by first | rfl | fail)) | refine NlL.cons ?_ ?_ | refine NlS.a ?_ | fail))
/-- The trace of a call. -/
def nestL : List Ev := [mkEv 2 moduleB 1 0, mkEv 2 fB 2 2, ⟨1, mainB, fB, 7, 2, 3, noB, [(ByteArray.mk #[120], ByteArray.mk #[49])]⟩, mkEv 3 fB 2 5, mkEv 3 moduleB 1 6]
theorem nested_T : CallsA Tryz.prog 45 [] [] (Is (.d (.u (evs nestL)))) := by
  have h1 := fun k fn d f => event_T k fn d f
  refine callsA_of_vc (T := tt) Tryz.func45 rfl rfl rfl rfl rfl ?_
  repeat' ((conv => whnf); first | refine Drw.ghost (i := 4) ((Ghost.frzA 5 rfl (by repeat ((conv => whnf); first | exact trivial | refine Len.mk (by first | rfl | fail) ?_))).trans (Ghost.frzB 1 rfl rfl)) ?_ | refine Gs.id ?_ | refine Len.mk (by first | rfl | fail) ?_ | refine Drw.of (T := tt) (i := 4) [] [] [(2, true), (0, false), (1, false), (3, false), (4, false), (5, false), (6, true)] (by kernel_rfl) ?_ | (refine CL.mk (Or.inl ?_); (conv => whnf); refine Cl.is (h1 _ _ _ _) rfl (by first | (intro e; cases e; done) | fail) ?_) | fail)
  all_goals (conv => whnf)
  all_goals exact Ret.is rfl
end Go.Proofs.YtabmcfnefjipbaaGreatDoor
namespace Go.Proofs.YtabmcfnefjipbaaGreatDoor
open Go.RowKit
/-- A step as an argument of yield. -/
abbrev stepSV (e : Ev) (a : Int) (s : List Ac) : SV := .a [.u (.int .i64 e.kind), .u (.str e.md), .u (.str e.fn), .u (.int .i64 e.line), .u (.int .i64 e.depth), .u (.int .i64 e.fuel), .u (.str e.text), .u (.sl 2 (e.locs.map locR)), .u (.int .i64 a), .u (.sl 3 (s.map acR))]
set_option maxHeartbeats 4000000 in
theorem steps_T {l : List Ev} {fuel : Int} (t : Tr l fuel) (lp : Nat) (zb : Fz) (φ : Nat → List (Nat × Hb) → Prop) (hY : ∀ (i : Nat) (e : Ev), l[i]? = some e → YieldsA Tryz.prog lp [stepSV e (amt l fuel i) (stackAt l (i + 1))] zb (φ i) (φ (i + 1))) :
    CallsA Tryz.prog 71 [yv lp, .d (.q [evs l] 0), .d (.q [.int .i64 fuel] 0)] [(900, .ab [] [] zb (φ 0))] (fun _ ob => ob = [(900, .ab [] [] zb (φ l.length))]) := by
  refine callsA_of_vcO (T := tt) Tryz.func71 rfl rfl rfl rfl rfl ?_
  repeat' ((conv => whnf); first | refine Gs.id ?_ | (refine Bnd.mk (fun hm => ?_); (try simp only [smT] at hm)) | fail)
  all_goals (conv => whnf)
  refine ⟨⟨Nat, fun i => i ≤ l.length, fun i => l.length - i, fun i => ⟨[(0, yv lp), (1, .d (.q [evs l] 0)), (2, .d (.q [.int .i64 fuel] 0)), (4, .d (.ow 901 (stackAt l i).length)), (8, .d (.u (evs l))), (9, di l.length), (10, di i)], [(901, .ar 85 3 ((stackAt l i).map acR)), (900, .ab [] [] zb (φ i))]⟩, 0, Nat.zero_le _, ⟨[(901, .n 3), (900, .k 900)], ⟨by (try dsimp only); (repeat (refine LeT.cons rfl (by first | exact LeS.d (by first | exact LeD.u rfl | exact LeD.no rfl rfl | exact LeD.u (by simp; done) | exact LeD.q rfl | fail) | fail) ?_)); exact LeT.nil, by (try dsimp only); repeat (first | exact LeO.nil | refine LeO.ab rfl rfl (by repeat (first | exact LeL.nil | fail)) (by first | rfl | fail) ?_ | refine LeO.no rfl rfl ?_)⟩⟩, fun i hi => ?_⟩⟩
  dsimp only at hi ⊢
  by_cases h9 : i < l.length
  · obtain ⟨e, he⟩ : ∃ e, l[i]? = some e := ⟨_, List.getElem?_eq_getElem h9⟩
    have ok := t.vd.ok he
    have hy := hY i e he
    have hst := stackAt_succ he
    have hsl := stack_len (l := l) i
    have hlen := t.len
    obtain ⟨n1, n2, n3, n4⟩ := t.next h9
    rw [fuelAt_succ he] at n2 n4
    have hmx := t.mx
    have ham : amt l fuel i = nextF l fuel i - e.fuel := by rw [amt, fuelAt_succ he]
    have hrow : ∀ {K : List V → Prop}, K e.row → Ix (l.map Ev.row) (i : Int) K := fun k => ⟨⟨i, e.row, rfl, by rw [List.getElem?_map, he]; rfl, k⟩⟩
    have hof := of_T e
    by_cases hk2 : e.kind = 2
    · rw [stepL, if_pos hk2] at hst
      generalize stackAt l i = s at *
      rw [hst, stepSV, List.map_append] at hy
      by_cases h10 : i + 1 < l.length
      · obtain ⟨e2, he2⟩ : ∃ e2, l[i + 1]? = some e2 := ⟨_, List.getElem?_eq_getElem h10⟩
        have hnx : nextF l fuel i = e2.fuel := by rw [nextF, he2]
        have hrow2 : ∀ {K : List V → Prop} {j : Int}, j = (i : Int) + 1 → K e2.row → Ix (l.map Ev.row) j K := fun hj k => ⟨⟨i + 1, e2.row, by rw [hj]; omega, by rw [List.getElem?_map, he2]; rfl, k⟩⟩
        rw [ham, hnx] at hy
        rw [hnx] at n2 n3
        repeat' ((conv => whnf); first | refine hrow ?_ | refine hrow2 rfl ?_ | refine Gs.id ?_ | with_reducible refine Brn.F rfl ?_ | refine Brn.T (by (try simp only [smT]); first | rfl | assumption | omega | fail) ?_ | (refine Bnd.mk (fun hm => ?_); (try simp only [smT] at hm)) | refine Rng.mk (by (try simp only [smT]); omega) ?_ | refine Apd.mk (by first | rfl | simp) (by first | rfl | fail) (by (try simp only [smT]); first | omega | fail) (by unfold maxLen; first | (simp; omega) | fail) ?_ | refine Drw.of (T := tt) (i := 7) [7, 8] [] [(0, true), (1, true), (3, true), (4, true), (2, false), (5, true), (6, false), (7, false), (8, false)] (by kernel_rfl) ?_ | (refine CL.mk (Or.inl ?_); (conv => whnf); refine Cl.is (hof) rfl (by first | exact fun _ => rfl | fail) ?_) | (refine RawY.call 900 rfl rfl rfl (by (conv => whnf); (repeat (refine Len.mk (by first | rfl | fail) ?_)); exact trivial) rfl (hy) ?_))
        all_goals (conv => whnf)
        all_goals exact ⟨i + 1, by omega, by omega, [(901, .k 31), (900, .k 900)], by rw [hst]; exact ⟨by (try dsimp only); (repeat (refine LeT.cons rfl (by first | exact LeS.d (by first | exact LeD.u rfl | exact LeD.ow rfl (by simp [List.map_append]) | exact LeD.q rfl | fail) | fail) ?_)); exact LeT.nil, by (try dsimp only); repeat (first | exact LeO.nil | refine LeO.ar rfl rfl (by first | rfl | simp [List.map_append]) ?_ | refine LeO.ab rfl rfl (by repeat (first | exact LeL.nil | fail)) (by first | rfl | fail) ?_ | fail)⟩⟩
      · have hnx : nextF l fuel i = fuel := by rw [nextF, List.getElem?_eq_none (by omega)]
        rw [ham, hnx] at hy
        rw [hnx] at n2 n3
        repeat' ((conv => whnf); first | refine hrow ?_ | refine Gs.id ?_ | with_reducible refine Brn.F rfl ?_ | refine Brn.T (by (try simp only [smT]); first | rfl | assumption | omega | fail) ?_ | refine Brn.F (by (try simp only [smT]); first | rfl | omega | fail) ?_ | (refine Bnd.mk (fun hm => ?_); (try simp only [smT] at hm)) | refine Rng.mk (by (try simp only [smT]); omega) ?_ | refine Apd.mk (by first | rfl | simp) (by first | rfl | fail) (by (try simp only [smT]); first | omega | fail) (by unfold maxLen; first | (simp; omega) | fail) ?_ | refine Drw.of (T := tt) (i := 7) [7, 8] [] [(0, true), (1, true), (3, true), (4, true), (2, false), (5, true), (6, false), (7, false), (8, false)] (by kernel_rfl) ?_ | (refine CL.mk (Or.inl ?_); (conv => whnf); refine Cl.is (hof) rfl (by first | exact fun _ => rfl | fail) ?_) | (refine RawY.call 900 rfl rfl rfl (by (conv => whnf); (repeat (refine Len.mk (by first | rfl | fail) ?_)); exact trivial) rfl (hy) ?_))
        all_goals (conv => whnf)
        all_goals exact ⟨i + 1, by omega, by omega, [(901, .k 31), (900, .k 900)], by rw [hst]; exact ⟨by (try dsimp only); (repeat (refine LeT.cons rfl (by first | exact LeS.d (by first | exact LeD.u rfl | exact LeD.ow rfl (by simp [List.map_append]) | exact LeD.q rfl | fail) | fail) ?_)); exact LeT.nil, by (try dsimp only); repeat (first | exact LeO.nil | refine LeO.ar rfl rfl (by first | rfl | simp [List.map_append]) ?_ | refine LeO.ab rfl rfl (by repeat (first | exact LeL.nil | fail)) (by first | rfl | fail) ?_ | fail)⟩⟩
    · obtain ⟨L, a, hL, ha1, ha2⟩ := stack_ne t.vd he hk2
      rw [hL] at hst hsl
      rw [hL]
      have hsn : (((L ++ [a]).length : Nat) : Int) = (L.length : Int) + 1 := by simp
      by_cases hk1 : e.kind = 1
      · have hrows : ((L ++ [a]).map acR).set L.length [V.str a.md, V.str a.fn, V.int .i64 e.line] = (L ++ [(⟨a.md, a.fn, e.line⟩ : Ac)]).map acR := by simp
        have hget : ((L ++ [a]).map acR)[L.length]? = some (acR a) := by simp
        rw [stepL, if_neg hk2, if_pos hk1, setLn] at hst
        simp only [List.getLast?_append, List.getLast?_singleton, Option.some_or, List.dropLast_concat] at hst
        rw [hst, stepSV, ← hrows] at hy
        by_cases h10 : i + 1 < l.length
        · obtain ⟨e2, he2⟩ : ∃ e2, l[i + 1]? = some e2 := ⟨_, List.getElem?_eq_getElem h10⟩
          have hnx : nextF l fuel i = e2.fuel := by rw [nextF, he2]
          have hrow2 : ∀ {K : List V → Prop} {j : Int}, j = (i : Int) + 1 → K e2.row → Ix (l.map Ev.row) j K := fun hj k => ⟨⟨i + 1, e2.row, by rw [hj]; omega, by rw [List.getElem?_map, he2]; rfl, k⟩⟩
          rw [ham, hnx] at hy
          rw [hnx] at n2 n3
          repeat' ((conv => whnf); first | refine hrow ?_ | refine hrow2 rfl ?_ | refine Ixo.mk ⟨L.length, by simp, by simp, ?_⟩ | refine Rw.get hget ?_ | refine Gs.id ?_ | with_reducible refine Brn.F rfl ?_ | refine Brn.T (by (try simp only [smT]); first | rfl | assumption | omega | fail) ?_ | refine Brn.F (by (try simp only [smT]); first | rfl | assumption | fail) ?_ | (refine Bnd.mk (fun hm => ?_); (try simp only [smT] at hm)) | refine Rng.mk (by (try simp only [smT]); omega) ?_ | (refine RawY.call 900 rfl rfl rfl (by (conv => whnf); (repeat (refine Len.mk (by first | rfl | (simp; done) | fail) ?_)); exact trivial) rfl (hy) ?_))
          all_goals (conv => whnf)
          all_goals exact ⟨i + 1, by omega, by omega, [(901, .k 901), (900, .k 900)], by rw [hst, ← hrows]; exact ⟨by (try dsimp only); (repeat (refine LeT.cons rfl (by first | exact LeS.d (by first | exact LeD.u rfl | exact LeD.ow rfl (by simp [List.map_append]) | exact LeD.q rfl | fail) | fail) ?_)); exact LeT.nil, by (try dsimp only); repeat (first | exact LeO.nil | refine LeO.ar rfl rfl (by first | rfl | fail) ?_ | refine LeO.ab rfl rfl (by repeat (first | exact LeL.nil | fail)) (by first | rfl | fail) ?_ | fail)⟩⟩
        · have hnx : nextF l fuel i = fuel := by rw [nextF, List.getElem?_eq_none (by omega)]
          rw [ham, hnx] at hy
          rw [hnx] at n2 n3
          repeat' ((conv => whnf); first | refine hrow ?_ | refine Ixo.mk ⟨L.length, by simp, by simp, ?_⟩ | refine Rw.get hget ?_ | refine Gs.id ?_ | with_reducible refine Brn.F rfl ?_ | refine Brn.T (by (try simp only [smT]); first | rfl | assumption | omega | fail) ?_ | refine Brn.F (by (try simp only [smT]); first | rfl | assumption | omega | fail) ?_ | (refine Bnd.mk (fun hm => ?_); (try simp only [smT] at hm)) | refine Rng.mk (by (try simp only [smT]); omega) ?_ | (refine RawY.call 900 rfl rfl rfl (by (conv => whnf); (repeat (refine Len.mk (by first | rfl | (simp; done) | fail) ?_)); exact trivial) rfl (hy) ?_))
          all_goals (conv => whnf)
          all_goals exact ⟨i + 1, by omega, by omega, [(901, .k 901), (900, .k 900)], by rw [hst, ← hrows]; exact ⟨by (try dsimp only); (repeat (refine LeT.cons rfl (by first | exact LeS.d (by first | exact LeD.u rfl | exact LeD.ow rfl (by simp [List.map_append]) | exact LeD.q rfl | fail) | fail) ?_)); exact LeT.nil, by (try dsimp only); repeat (first | exact LeO.nil | refine LeO.ar rfl rfl (by first | rfl | fail) ?_ | refine LeO.ab rfl rfl (by repeat (first | exact LeL.nil | fail)) (by first | rfl | fail) ?_ | fail)⟩⟩
      · rw [stepL, if_neg hk2, if_neg hk1] at hst
        simp only [List.dropLast_concat] at hst
        rw [hst] at hy
        by_cases h10 : i + 1 < l.length
        · obtain ⟨e2, he2⟩ : ∃ e2, l[i + 1]? = some e2 := ⟨_, List.getElem?_eq_getElem h10⟩
          have hnx : nextF l fuel i = e2.fuel := by rw [nextF, he2]
          have hrow2 : ∀ {K : List V → Prop} {j : Int}, j = (i : Int) + 1 → K e2.row → Ix (l.map Ev.row) j K := fun hj k => ⟨⟨i + 1, e2.row, by rw [hj]; omega, by rw [List.getElem?_map, he2]; rfl, k⟩⟩
          rw [ham, hnx] at hy
          rw [hnx] at n2 n3
          repeat' ((conv => whnf); first | refine hrow ?_ | refine hrow2 rfl ?_ | refine Slc.mk ⟨0, L.length, rfl, by simp, by omega, by simp, ?_⟩ | refine Gs.go (i := 13) (Ghost.trunc 901 L.length rfl (by simp) (show _ = L.map acR by simp)) ?_ | refine Gs.id ?_ | with_reducible refine Brn.F rfl ?_ | refine Brn.T (by (try simp only [smT]); first | rfl | omega | fail) ?_ | refine Brn.F (by (try simp only [smT]); first | rfl | assumption | fail) ?_ | (refine Bnd.mk (fun hm => ?_); (try simp only [smT] at hm)) | refine Rng.mk (by (try simp only [smT]); omega) ?_ | (refine RawY.call 900 rfl rfl rfl (by (conv => whnf); (repeat (refine Len.mk (by first | rfl | (simp; done) | fail) ?_)); exact trivial) rfl (hy) ?_))
          all_goals (conv => whnf)
          all_goals exact ⟨i + 1, by omega, by omega, [(901, .k 901), (900, .k 900)], by rw [hst]; exact ⟨by (try dsimp only); (repeat (refine LeT.cons rfl (by first | exact LeS.d (by first | exact LeD.u rfl | exact LeD.ow rfl rfl | exact LeD.q rfl | fail) | fail) ?_)); exact LeT.nil, by (try dsimp only); repeat (first | exact LeO.nil | refine LeO.ar rfl rfl (by first | rfl | fail) ?_ | refine LeO.ab rfl rfl (by repeat (first | exact LeL.nil | fail)) (by first | rfl | fail) ?_ | fail)⟩⟩
        · have hnx : nextF l fuel i = fuel := by rw [nextF, List.getElem?_eq_none (by omega)]
          rw [ham, hnx] at hy
          rw [hnx] at n2 n3
          repeat' ((conv => whnf); first | refine hrow ?_ | refine Slc.mk ⟨0, L.length, rfl, by simp, by omega, by simp, ?_⟩ | refine Gs.go (i := 13) (Ghost.trunc 901 L.length rfl (by simp) (show _ = L.map acR by simp)) ?_ | refine Gs.id ?_ | with_reducible refine Brn.F rfl ?_ | refine Brn.T (by (try simp only [smT]); first | rfl | omega | fail) ?_ | refine Brn.F (by (try simp only [smT]); first | rfl | assumption | omega | fail) ?_ | (refine Bnd.mk (fun hm => ?_); (try simp only [smT] at hm)) | refine Rng.mk (by (try simp only [smT]); omega) ?_ | (refine RawY.call 900 rfl rfl rfl (by (conv => whnf); (repeat (refine Len.mk (by first | rfl | (simp; done) | fail) ?_)); exact trivial) rfl (hy) ?_))
          all_goals (conv => whnf)
          all_goals exact ⟨i + 1, by omega, by omega, [(901, .k 901), (900, .k 900)], by rw [hst]; exact ⟨by (try dsimp only); (repeat (refine LeT.cons rfl (by first | exact LeS.d (by first | exact LeD.u rfl | exact LeD.ow rfl rfl | exact LeD.q rfl | fail) | fail) ?_)); exact LeT.nil, by (try dsimp only); repeat (first | exact LeO.nil | refine LeO.ar rfl rfl (by first | rfl | fail) ?_ | refine LeO.ab rfl rfl (by repeat (first | exact LeL.nil | fail)) (by first | rfl | fail) ?_ | fail)⟩⟩
  · obtain rfl : i = l.length := by omega
    repeat' ((conv => whnf); first | refine Gs.id ?_ | refine Brn.F (by (try simp only [smT]); first | rfl | omega | fail) ?_ | fail)
    all_goals (conv => whnf)
    all_goals exact RetO.mk ⟨[(900, .k 900)], _, _, .ts .nil, (by repeat (first | exact LeO.nil | refine LeO.ab rfl rfl (by repeat (first | exact LeL.nil | fail)) (by first | rfl | fail) ?_ | fail)), rfl⟩
end Go.Proofs.YtabmcfnefjipbaaGreatDoor
namespace Go.Proofs.YtabmcfnefjipbaaGreatDoor
open Go.RowKit
instance decMem {α : Type} [DecidableEq α] (f : α) (s : List α) : Decidable (f ∈ s) := @List.instDecidableMemOfLawfulBEq α instBEqOfDecidableEq inferInstance f s
structure Co where
  md : ByteArray
  fn : ByteArray
  calls : Int
  rets : Int
  raises : Int
  lines : Int
  own : Int
  tot : Int
abbrev coR (c : Co) : List V := [.str c.md, .str c.fn, .int .i64 c.calls, .int .i64 c.rets, .int .i64 c.raises, .int .i64 c.lines, .int .i64 c.own, .int .i64 c.tot]
def Co.fu (c : Co) : Fu := (c.md, c.fn)
def Ac.fu (a : Ac) : Fu := (a.md, a.fn)
def zeroC (f : Fu) : Co := ⟨f.1, f.2, 0, 0, 0, 0, 0, 0⟩
/-- Where the function stands. -/
def fidx : List Co → Fu → Option Nat
  | [], _ => none
  | c :: r, f => if c.fu = f then some 0 else (fidx r f).map (· + 1)
/-- The function's costs are changed. -/
def updF (g : Co → Co) : List Co → Fu → List Co
  | [], _ => []
  | c :: r, f => if c.fu = f then g c :: r else c :: updF g r f
theorem fidx_get : ∀ {l : List Co} {f : Fu} {k : Nat}, fidx l f = some k → ∃ c, l[k]? = some c ∧ c.fu = f
  | [], f, k, h => by simp [fidx] at h
  | c :: r, f, k, h => by
    rw [fidx] at h
    split at h
    · rename_i hc
      injection h with h; subst h
      exact ⟨c, rfl, hc⟩
    · cases hr : fidx r f with
      | none => simp [hr] at h
      | some j =>
        simp only [hr, Option.map_some, Option.some.injEq] at h
        subst h
        obtain ⟨c', h1, h2⟩ := fidx_get hr
        exact ⟨c', by simpa using h1, h2⟩
theorem fidx_none : ∀ {l : List Co} {f : Fu}, fidx l f = none ↔ f ∉ l.map Co.fu
  | [], f => by simp [fidx]
  | c :: r, f => by
    have ih := fidx_none (l := r) (f := f)
    rw [fidx]
    split
    · rename_i hc; subst hc; simp
    · rename_i hc
      rw [Option.map_eq_none_iff, ih]
      simp only [List.map_cons, List.mem_cons, not_or]
      exact ⟨fun h => ⟨fun e => hc e.symm, h⟩, fun h => h.2⟩
theorem fidx_some {l : List Co} {f : Fu} (h : f ∈ l.map Co.fu) : ∃ k c, fidx l f = some k ∧ l[k]? = some c ∧ c.fu = f := by
  cases hk : fidx l f with
  | none => exact absurd h (fidx_none.1 hk)
  | some k => obtain ⟨c, h1, h2⟩ := fidx_get hk; exact ⟨k, c, rfl, h1, h2⟩
theorem updF_eq (g : Co → Co) : ∀ {l : List Co} {f : Fu} {k : Nat} {c : Co}, fidx l f = some k → l[k]? = some c → updF g l f = l.set k (g c)
  | [], f, k, c, h, _ => by simp [fidx] at h
  | x :: r, f, k, c, h, hc => by
    rw [fidx] at h
    rw [updF]
    split at h
    · rename_i hx
      injection h with h; subst h
      simp at hc; subst hc
      rw [if_pos hx]; rfl
    · rename_i hx
      rw [if_neg hx]
      cases hr : fidx r f with
      | none => simp [hr] at h
      | some j =>
        simp only [hr, Option.map_some, Option.some.injEq] at h
        subst h
        rw [updF_eq g hr (by simpa using hc)]; rfl
theorem updF_fus (g : Co → Co) (hg : ∀ c, (g c).fu = c.fu) : ∀ (l : List Co) (f : Fu), (updF g l f).map Co.fu = l.map Co.fu
  | [], f => rfl
  | c :: r, f => by
    rw [updF]
    split
    · simp [hg]
    · simp [updF_fus g hg r f]
theorem fidx_app {l : List Co} {f : Fu} {c : Co} (h : fidx l f = none) (hc : c.fu = f) : fidx (l ++ [c]) f = some l.length := by
  induction l with
  | nil => simp [fidx, hc]
  | cons x r ih =>
    rw [fidx] at h
    split at h
    · cases h
    · rename_i hx
      have hr : fidx r f = none := by simpa using h
      rw [List.cons_append, fidx, if_neg hx, ih hr]
      simp
/-- The map from functions to places. -/
def atE : Nat → List Co → List (List V × List V)
  | _, [] => []
  | k, c :: r => ([.str c.md, .str c.fn], [.int .i64 (k : Int)]) :: atE (k + 1) r
theorem eqCs_fu (a b c d : ByteArray) : eqCs [.str a, .str b] [.str c, .str d] = decide (((c, d) : Fu) = (a, b)) := by
  simp only [eqCs, eqC]
  by_cases h1 : a = c <;> by_cases h2 : b = d
  · subst h1 h2; simp
  · subst h1; simp [h2, Ne.symm h2, eq_comm]
  · subst h2; simp [h1, eq_comm]
  · simp [h1, h2, eq_comm]
theorem atE_get : ∀ {l : List Co} {f : Fu} {n : Nat} (z : List V), mgetT (atE n l) [.str f.1, .str f.2] z = (match fidx l f with | some k => [.int .i64 ((n + k : Nat) : Int)] | none => z) ∧ mhasT (atE n l) [.str f.1, .str f.2] = (fidx l f).isSome
  | [], f, n, z => ⟨rfl, rfl⟩
  | c :: r, f, n, z => by
    obtain ⟨h1, h2⟩ := atE_get (l := r) (f := f) (n := n + 1) z
    simp only [atE, mgetT, mhasT, eqCs_fu, fidx]
    by_cases hc : c.fu = f
    · have hc' : ((c.md, c.fn) : Fu) = (f.1, f.2) := hc
      rw [decide_eq_true hc', if_pos hc]
      simp
    · have hc' : ¬ ((c.md, c.fn) : Fu) = (f.1, f.2) := hc
      rw [decide_eq_false hc', if_neg hc]
      simp only [cond_false, h1, h2]
      cases fidx r f with
      | none => simp
      | some k => simp; omega
theorem atE_put : ∀ {l : List Co} {f : Fu} {n : Nat} {c : Co}, fidx l f = none → c.fu = f → mputT (atE n l) [.str f.1, .str f.2] [.int .i64 ((n + l.length : Nat) : Int)] = atE n (l ++ [c])
  | [], f, n, c, _, hc => by subst hc; rfl
  | x :: r, f, n, c, h, hc => by
    rw [fidx] at h
    split at h
    · cases h
    · rename_i hx
      have hr : fidx r f = none := by simpa using h
      have hx' : ¬ ((x.md, x.fn) : Fu) = (f.1, f.2) := hx
      have ih := atE_put (n := n + 1) hr hc
      simp only [atE, mputT, eqCs_fu, decide_eq_false hx', cond_false, List.cons_append]
      rw [← ih]
      congr 4
      simp; omega
theorem atE_fus : ∀ {l l' : List Co} {n : Nat}, l.map Co.fu = l'.map Co.fu → atE n l = atE n l'
  | [], [], _, _ => rfl
  | [], _ :: _, _, h => by simp at h
  | _ :: _, [], _, h => by simp at h
  | c :: r, c' :: r', n, h => by
    simp only [List.map_cons, List.cons.injEq] at h
    have h1 : c.md = c'.md ∧ c.fn = c'.fn := by have := h.1; simp only [Co.fu, Prod.mk.injEq] at this; exact this
    rw [atE, atE, h1.1, h1.2, atE_fus h.2]
abbrev kFs : List (Nat × TypeId) := [(0, 9), (1, 9)]
theorem atE_ok : ∀ {l : List Co} {n : Nat}, ∀ e ∈ atE n l, keyFs tt kFs 0 e.1 = true
  | [], _, e, h => by simp [atE] at h
  | c :: r, n, e, h => by
    rw [atE] at h
    rcases List.mem_cons.1 h with rfl | h
    · rfl
    · exact atE_ok e h
/-- The functions that were seen. -/
def seenE (s : List Fu) : List (List V × List V) := s.map fun f => ([.str f.1, .str f.2], [.bool true])
theorem seenE_get : ∀ {s : List Fu} {f : Fu}, mgetT (seenE s) [.str f.1, .str f.2] [.bool false] = [.bool (decide (f ∈ s))]
  | [], f => by simp [seenE, mgetT]
  | x :: s, f => by
    have ih := seenE_get (s := s) (f := f)
    unfold seenE at ih
    simp only [seenE, List.map_cons, mgetT, eqCs_fu]
    by_cases hx : ((x.1, x.2) : Fu) = (f.1, f.2)
    · rw [decide_eq_true hx]
      have : x = f := hx
      subst this
      simp
    · rw [decide_eq_false hx]
      have hx2 : ¬ f = x := fun e => hx (by rw [e])
      simp only [cond_false, ih, List.mem_cons, hx2, false_or]
theorem seenE_put : ∀ {s : List Fu} {f : Fu}, f ∉ s → mputT (seenE s) [.str f.1, .str f.2] [.bool true] = seenE (s ++ [f])
  | [], f, _ => rfl
  | x :: s, f, h => by
    simp only [List.mem_cons, not_or] at h
    have hx : ¬ ((x.1, x.2) : Fu) = (f.1, f.2) := fun e => h.1 (show f = x from e.symm)
    have ih := seenE_put h.2
    unfold seenE at ih
    simp only [seenE, List.map_cons, mputT, eqCs_fu, decide_eq_false hx, cond_false, List.cons_append, ih]
theorem seenE_ok (s : List Fu) : ∀ e ∈ seenE s, keyFs tt kFs 0 e.1 = true := by
  intro e h
  simp only [seenE, List.mem_map] at h
  obtain ⟨f, _, rfl⟩ := h
  rfl
/-- An event is counted. -/
def bump (k : Int) (c : Co) : Co := if k = 1 then { c with lines := c.lines + 1 } else if k = 2 then { c with calls := c.calls + 1 } else if k = 3 then { c with rets := c.rets + 1 } else { c with raises := c.raises + 1 }
def addOwn (a : Int) (c : Co) : Co := { c with own := c.own + a }
def addTot (a : Int) (c : Co) : Co := { c with tot := c.tot + a }
/-- The function is there. -/
def ensF (out : List Co) (f : Fu) : List Co := if f ∈ out.map Co.fu then out else out ++ [zeroC f]
/-- Totals of the functions of a stack. -/
def totM (a : Int) : List Fu → List Ac → List Co → List Co
  | _, [], out => out
  | seen, x :: r, out => if x.fu ∈ seen then totM a seen r out else totM a (seen ++ [x.fu]) r (updF (addTot a) out x.fu)
structure Cs where
  out : List Co
  rest : Int
/-- One step: the event, its amount, the stack behind it. -/
def stepC (x : Cs) (e : Ev) (a : Int) (s : List Ac) : Cs :=
  let out := updF (bump e.kind) (ensF x.out e.fu) e.fu
  match s.getLast? with
  | none => ⟨out, x.rest + a⟩
  | some t => ⟨totM a [] s (updF (addOwn a) out t.fu), x.rest⟩
def costsAt (l : List Ev) (fuel : Int) : Nat → Cs
  | 0 => ⟨[], beforeM l fuel⟩
  | i + 1 => match l[i]? with
    | some e => stepC (costsAt l fuel i) e (amt l fuel i) (stackAt l (i + 1))
    | none => costsAt l fuel i
theorem costsAt_succ {l : List Ev} {fuel : Int} {i : Nat} {e : Ev} (h : l[i]? = some e) : costsAt l fuel (i + 1) = stepC (costsAt l fuel i) e (amt l fuel i) (stackAt l (i + 1)) := by rw [costsAt, h]
theorem bump_fu (k : Int) (c : Co) : (bump k c).fu = c.fu := by unfold bump; split; rfl; split; rfl; split <;> rfl
theorem addOwn_fu (a : Int) (c : Co) : (addOwn a c).fu = c.fu := rfl
theorem addTot_fu (a : Int) (c : Co) : (addTot a c).fu = c.fu := rfl
theorem totM_fus (a : Int) : ∀ (s : List Ac) (seen : List Fu) (out : List Co), (totM a seen s out).map Co.fu = out.map Co.fu
  | [], _, _ => rfl
  | x :: r, seen, out => by
    rw [totM]
    split
    · exact totM_fus a r seen out
    · rw [totM_fus a r, updF_fus _ (addTot_fu a)]
theorem mem_ensF {out : List Co} {f g : Fu} : f ∈ (ensF out g).map Co.fu ↔ f ∈ out.map Co.fu ∨ f = g := by
  unfold ensF
  split
  · rename_i h
    exact ⟨.inl, fun h' => h'.elim id fun e => e ▸ h⟩
  · simp [zeroC, Co.fu]
theorem stepC_fus (x : Cs) (e : Ev) (a : Int) (s : List Ac) : (stepC x e a s).out.map Co.fu = (ensF x.out e.fu).map Co.fu := by
  unfold stepC
  cases s.getLast? with
  | none => exact updF_fus _ (bump_fu _) _ _
  | some t => simp only; rw [totM_fus, updF_fus _ (addOwn_fu a), updF_fus _ (bump_fu _)]
/-- Each function that is active, or was, is known. -/
theorem costs_mem {l : List Ev} {fuel : Int} : ∀ (i : Nat), i ≤ l.length → ∀ f, f ∈ (costsAt l fuel i).out.map Co.fu ↔ ∃ (j : Nat) (e : Ev), j < i ∧ l[j]? = some e ∧ e.fu = f
  | 0, _, f => by simp [costsAt]
  | i + 1, hi, f => by
    have he : l[i]? = some l[i] := List.getElem?_eq_getElem (by omega)
    rw [costsAt_succ he, stepC_fus, mem_ensF, costs_mem i (by omega) f]
    constructor
    · rintro (⟨j, e, h1, h2, h3⟩ | h)
      · exact ⟨j, e, by omega, h2, h3⟩
      · exact ⟨i, _, by omega, he, h.symm⟩
    · rintro ⟨j, e, h1, h2, h3⟩
      by_cases hj : j = i
      · subst hj; rw [he] at h2; injection h2 with h2; subst h2; exact .inr h3.symm
      · exact .inl ⟨j, e, by omega, h2, h3⟩
theorem stack_mem {l : List Ev} : ∀ (i : Nat), i ≤ l.length → ∀ a ∈ stackAt l i, ∃ (j : Nat) (e : Ev), j < i ∧ l[j]? = some e ∧ e.fu = a.fu
  | 0, _, a, h => by simp [stackAt] at h
  | i + 1, hi, a, h => by
    have he : l[i]? = some l[i] := List.getElem?_eq_getElem (by omega)
    have old : ∀ b ∈ stackAt l i, ∃ (j : Nat) (e : Ev), j < i + 1 ∧ l[j]? = some e ∧ e.fu = b.fu := fun b hb => by
      obtain ⟨j, e, h1, h2, h3⟩ := stack_mem i (by omega) b hb
      exact ⟨j, e, by omega, h2, h3⟩
    rw [stackAt_succ he, stepL] at h
    split at h
    · rcases List.mem_append.1 h with h | h
      · exact old a h
      · simp at h; subst h; exact ⟨i, _, by omega, he, rfl⟩
    · split at h
      · unfold setLn at h
        split at h
        · rename_i b hb
          rcases List.mem_append.1 h with h | h
          · exact old a (List.dropLast_subset _ h)
          · simp at h
            subst h
            obtain ⟨j, e, h1, h2, h3⟩ := old b (List.mem_of_getLast? hb)
            exact ⟨j, e, h1, h2, h3⟩
        · exact old a h
      · exact old a (List.dropLast_subset _ h)
end Go.Proofs.YtabmcfnefjipbaaGreatDoor
namespace Go.Proofs.YtabmcfnefjipbaaGreatDoor
open Go.RowKit
theorem updF_mem {g : Co → Co} : ∀ {l : List Co} {f : Fu} {c : Co}, c ∈ updF g l f → c ∈ l ∨ ∃ c0 ∈ l, c0.fu = f ∧ c = g c0
  | [], f, c, h => by simp [updF] at h
  | x :: r, f, c, h => by
    rw [updF] at h
    split at h
    · rename_i hx
      rcases List.mem_cons.1 h with h | h
      · exact .inr ⟨x, by simp, hx, h⟩
      · exact .inl (by simp [h])
    · rcases List.mem_cons.1 h with h | h
      · exact .inl (by simp [h])
      · rcases updF_mem h with h | ⟨c0, h1, h2, h3⟩
        · exact .inl (by simp [h])
        · exact .inr ⟨c0, by simp [h1], h2, h3⟩
structure CBd (Bo Bt N : Int) (c : Co) : Prop where
  c0 : 0 ≤ c.calls ∧ c.calls ≤ N
  r0 : 0 ≤ c.rets ∧ c.rets ≤ N
  e0 : 0 ≤ c.raises ∧ c.raises ≤ N
  l0 : 0 ≤ c.lines ∧ c.lines ≤ N
  o0 : 0 ≤ c.own ∧ c.own ≤ Bo
  t0 : 0 ≤ c.tot ∧ c.tot ≤ Bt
def CBs (Bo Bt N : Int) (l : List Co) : Prop := ∀ c ∈ l, CBd Bo Bt N c
theorem CBd.mono {Bo Bt N Bo' Bt' N' : Int} {c : Co} (h : CBd Bo Bt N c) (h1 : Bo ≤ Bo') (h2 : Bt ≤ Bt') (h3 : N ≤ N') : CBd Bo' Bt' N' c := by
  obtain ⟨a1, a2, a3, a4, a5, a6⟩ := h
  exact ⟨⟨a1.1, by omega⟩, ⟨a2.1, by omega⟩, ⟨a3.1, by omega⟩, ⟨a4.1, by omega⟩, ⟨a5.1, by omega⟩, ⟨a6.1, by omega⟩⟩
theorem CBs.mono {Bo Bt N Bo' Bt' N' : Int} {l : List Co} (h : CBs Bo Bt N l) (h1 : Bo ≤ Bo') (h2 : Bt ≤ Bt') (h3 : N ≤ N') : CBs Bo' Bt' N' l := fun c hc => (h c hc).mono h1 h2 h3
theorem CBs.ens {Bo Bt N : Int} {l : List Co} (h : CBs Bo Bt N l) (h1 : 0 ≤ Bo) (h2 : 0 ≤ Bt) (h3 : 0 ≤ N) (f : Fu) : CBs Bo Bt N (ensF l f) := by
  unfold ensF
  split
  · exact h
  · intro c hc
    rcases List.mem_append.1 hc with hc | hc
    · exact h c hc
    · simp at hc; subst hc
      exact ⟨⟨Int.le_refl _, h3⟩, ⟨Int.le_refl _, h3⟩, ⟨Int.le_refl _, h3⟩, ⟨Int.le_refl _, h3⟩, ⟨Int.le_refl _, h1⟩, ⟨Int.le_refl _, h2⟩⟩
theorem CBs.bump {Bo Bt N : Int} {l : List Co} (h : CBs Bo Bt N l) (k : Int) (f : Fu) : CBs Bo Bt (N + 1) (updF (bump k) l f) := by
  intro c hc
  rcases updF_mem hc with hc | ⟨c0, h1, _, rfl⟩
  · exact (h c hc).mono (Int.le_refl _) (Int.le_refl _) (by omega)
  · obtain ⟨a1, a2, a3, a4, a5, a6⟩ := h c0 h1
    unfold Go.Proofs.YtabmcfnefjipbaaGreatDoor.bump
    (repeat' split) <;> (constructor <;> dsimp only <;> omega)
theorem CBs.addOwn {B Bt N a : Int} {l : List Co} (h : CBs B Bt N l) (ha : 0 ≤ a) (f : Fu) : CBs (B + a) Bt N (updF (addOwn a) l f) := by
  intro c hc
  rcases updF_mem hc with hc | ⟨c0, h1, _, rfl⟩
  · exact (h c hc).mono (by omega) (Int.le_refl _) (Int.le_refl _)
  · obtain ⟨a1, a2, a3, a4, a5, a6⟩ := h c0 h1
    exact ⟨a1, a2, a3, a4, ⟨by simp only [Go.Proofs.YtabmcfnefjipbaaGreatDoor.addOwn]; omega, by simp only [Go.Proofs.YtabmcfnefjipbaaGreatDoor.addOwn]; omega⟩, a6⟩
/-- While totals are added. -/
def TI (B a : Int) (seen : List Fu) (l : List Co) : Prop := ∀ c ∈ l, 0 ≤ c.tot ∧ c.tot ≤ B + a ∧ (c.fu ∉ seen → c.tot ≤ B)
theorem TI.step {B a : Int} {seen : List Fu} {l : List Co} (h : TI B a seen l) (ha : 0 ≤ a) {f : Fu} (hf : f ∉ seen) : TI B a (seen ++ [f]) (updF (addTot a) l f) := by
  intro c hc
  rcases updF_mem hc with hc | ⟨c0, h1, h2, rfl⟩
  · obtain ⟨q1, q2, q3⟩ := h c hc
    exact ⟨q1, q2, fun hm => q3 fun hs => hm (by simp [hs])⟩
  · obtain ⟨q1, q2, q3⟩ := h c0 h1
    have := q3 (by rw [h2]; exact hf)
    exact ⟨by simp only [addTot]; omega, by simp only [addTot]; omega, fun hm => absurd (show (addTot a c0).fu ∈ seen ++ [f] by rw [addTot_fu, h2]; simp) hm⟩
/-- All but the totals. -/
def CN (Bo N : Int) (l : List Co) : Prop := ∀ c ∈ l, (0 ≤ c.calls ∧ c.calls ≤ N) ∧ (0 ≤ c.rets ∧ c.rets ≤ N) ∧ (0 ≤ c.raises ∧ c.raises ≤ N) ∧ (0 ≤ c.lines ∧ c.lines ≤ N) ∧ (0 ≤ c.own ∧ c.own ≤ Bo)
theorem CN.tot {Bo N : Int} {l : List Co} (h : CN Bo N l) (a : Int) (f : Fu) : CN Bo N (updF (addTot a) l f) := by
  intro c hc
  rcases updF_mem hc with hc | ⟨c0, h1, _, rfl⟩
  · exact h c hc
  · exact h c0 h1
theorem totM_ok {B a N Bo : Int} (ha : 0 ≤ a) : ∀ (s : List Ac) (seen : List Fu) (l : List Co), TI B a seen l → CN Bo N l → (∀ c ∈ totM a seen s l, 0 ≤ c.tot ∧ c.tot ≤ B + a) ∧ CN Bo N (totM a seen s l)
  | [], seen, l, h, h2 => ⟨fun c hc => ⟨(h c hc).1, (h c hc).2.1⟩, h2⟩
  | x :: r, seen, l, h, h2 => by
    rw [totM]
    split
    · exact totM_ok ha r seen l h h2
    · rename_i hx
      exact totM_ok ha r _ _ (h.step ha hx) (h2.tot a x.fu)
/-- The fuel at an event; behind the last one: that of the run. -/
def curF (l : List Ev) (fuel : Int) (i : Nat) : Int := match l[i]? with
  | some e => e.fuel
  | none => fuel
theorem curF_get {l : List Ev} {fuel : Int} {i : Nat} {e : Ev} (h : l[i]? = some e) : curF l fuel i = e.fuel := by rw [curF, h]
theorem amt_eq {l : List Ev} {fuel : Int} {i : Nat} {e : Ev} (h : l[i]? = some e) : amt l fuel i = curF l fuel (i + 1) - curF l fuel i := by
  rw [amt, fuelAt_succ h, curF_get h, nextF, curF]
  cases l[i + 1]? <;> rfl
theorem Tr.cur {l : List Ev} {fuel : Int} (t : Tr l fuel) (i : Nat) (h : i ≤ l.length) : 0 ≤ curF l fuel i ∧ curF l fuel i ≤ fuel := by
  rcases Nat.lt_or_ge i l.length with h1 | h1
  · have he : l[i]? = some l[i] := List.getElem?_eq_getElem h1
    have h2 := fuel_nonneg t.vd (i + 1) (by omega)
    have h3 := fuel_mono t.vd (l.length - (i + 1)) (i + 1) (by omega)
    rw [show i + 1 + (l.length - (i + 1)) = l.length by omega] at h3
    have h4 := t.fl
    rw [fuelAt_succ he] at h2 h3
    rw [curF_get he]
    omega
  · rw [curF, List.getElem?_eq_none h1]
    exact ⟨t.f0, Int.le_refl _⟩
theorem Tr.amt {l : List Ev} {fuel : Int} (t : Tr l fuel) {i : Nat} {e : Ev} (h : l[i]? = some e) : 0 ≤ amt l fuel i := by
  obtain ⟨_, h2, _, _⟩ := t.next (List.getElem?_eq_some_iff.1 h).1
  unfold Go.Proofs.YtabmcfnefjipbaaGreatDoor.amt
  omega
structure CI (B : Int) (N : Int) (x : Cs) : Prop where
  out : CBs B B N x.out
  r0 : 0 ≤ x.rest
  r1 : x.rest ≤ B
theorem CI.step {B N a : Int} {x : Cs} (h : CI B N x) (hB : 0 ≤ B) (hN : 0 ≤ N) (ha : 0 ≤ a) (e : Ev) (s : List Ac) : CI (B + a) (N + 1) (stepC x e a s) := by
  have h1 : CBs B B (N + 1) (updF (bump e.kind) (ensF x.out e.fu) e.fu) := (h.out.ens hB hB hN e.fu).bump e.kind e.fu
  have r0 := h.r0
  have r1 := h.r1
  unfold stepC
  cases s.getLast? with
  | none => exact ⟨h1.mono (by omega) (by omega) (by omega), by dsimp only; omega, by dsimp only; omega⟩
  | some t =>
    have h2 := h1.addOwn ha t.fu
    obtain ⟨q1, q2⟩ := totM_ok (B := B) (N := N + 1) (Bo := B + a) ha s [] (updF (addOwn a) (updF (bump e.kind) (ensF x.out e.fu) e.fu) t.fu) (fun c hc => ⟨(h2 c hc).t0.1, by have := (h2 c hc).t0.2; omega, fun _ => (h2 c hc).t0.2⟩) (fun c hc => ⟨(h2 c hc).c0, (h2 c hc).r0, (h2 c hc).e0, (h2 c hc).l0, (h2 c hc).o0⟩)
    exact ⟨fun c hc => ⟨(q2 c hc).1, (q2 c hc).2.1, (q2 c hc).2.2.1, (q2 c hc).2.2.2.1, (q2 c hc).2.2.2.2, q1 c hc⟩, r0, by dsimp only; omega⟩
theorem costs_CI {l : List Ev} {fuel : Int} (t : Tr l fuel) : ∀ i, i ≤ l.length → CI (curF l fuel i) i (costsAt l fuel i)
  | 0, _ => by
    have h := t.cur 0 (by omega)
    refine ⟨fun c hc => by simp [costsAt] at hc, ?_, ?_⟩
    · cases l with
      | nil => simpa [costsAt, beforeM, curF] using h.1
      | cons e r => simpa [costsAt, beforeM, curF] using h.1
    · cases l with
      | nil => simp [costsAt, beforeM, curF]
      | cons e r => simp [costsAt, beforeM, curF]
  | i + 1, hi => by
    have he : l[i]? = some l[i] := List.getElem?_eq_getElem (by omega)
    have ih := costs_CI t i (by omega)
    have hc := t.cur i (by omega)
    rw [costsAt_succ he]
    have := ih.step hc.1 (by omega) (t.amt he) l[i] (stackAt l (i + 1))
    rw [amt_eq he] at this ⊢
    rw [show curF l fuel i + (curF l fuel (i + 1) - curF l fuel i) = curF l fuel (i + 1) by omega] at this
    simpa using this
end Go.Proofs.YtabmcfnefjipbaaGreatDoor
