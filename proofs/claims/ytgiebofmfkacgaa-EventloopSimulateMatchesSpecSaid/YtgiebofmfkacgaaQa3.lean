/-
  Part 3 of the proof of sim_holds: laws and contracts that it needs.
-/
import Derived.Test.YtgiebofmfkacgaaQa2
namespace Go.Proofs.Ytgiebofmfkacgaa
open Go.RowKit

/-- The blocks of own objects. -/
def Bl (hp : List (Nat × Hb)) (b : Nat) : Prop := ∃ x, (b, x) ∈ hp
section
variable {c : Cx} {st : St} {tm : List (Nat × Value)} {h : Hs} {ρ ρ' : Rho} {G : FG} {w : World}
theorem Gd.mz (g : Gd c st tm h ρ G) (hw : Hp h w) {G' : FG} (hG : ∀ b, G b → G' b) (hf : G'.fam = G.fam := by rfl) : Mz ⟨G, h.w0⟩ ⟨G', w⟩ := ⟨hG, fun b hb => hw.same.block b (g.gF b hb), fun k i b h => by rw [hf]; exact h⟩
theorem borD_den (g : Gd c st tm h ρ G) (hw : Hp h w) {d : D} {x : V} {v : Value} {X : Prop} (hb : borD st.ob d = some x) (hn : needD st.ob X d) (hd : Den ρ ⟨G, h.w0⟩ d v) : DenV ⟨G.or (Bl h.hp), w⟩ x v ∧ X ∧ (ownD d = false → DenV ⟨G, w⟩ x v) := by
  cases d with
  | u y =>
    simp only [borD, Option.some.injEq] at hb
    subst hb
    cases hd with | u hd =>
    exact ⟨hd.mono (g.mz hw (G' := G.or (Bl h.hp)) fun _ h => Or.inl h), hn, fun _ => hd.mono (g.mz hw fun _ h => h)⟩
  | ow k n =>
    simp only [borD] at hb
    split at hb
    · rename_i u sz rs hk
      injection hb with hb; subst hb
      simp only [needD, hk] at hn
      cases hd with | @ow _ _ l h0 hA hnc =>
      obtain ⟨F, w0, hp⟩ := h
      obtain ⟨Y, f, ⟨A, cc, us, rfl, g2, g3, g4, g5⟩, g6⟩ := g.ob.at_ hk
      rw [h0] at g2
      injection g2 with g2; subst g2
      refine ⟨?_, hn.k, fun h => by cases h⟩
      have hz := g.mz hw (G' := G.or (Bl hp)) fun _ h => .inl h
      have g4' := g4.mono hz
      rcases g3.form with ⟨rfl, h1, h2⟩ | ⟨b, rfl⟩
      · have hrs : rs = [] := List.eq_nil_of_length_eq_zero h1
        subst hrs
        exact .sl (b := 0) (o := 0) [] hn.h hnc (Nat.le_trans hnc g3.max) g5 (fun h => absurd rfl h) (by simp) (fun j u h => by simp at h) rfl (fun j d u h => by simp at h)
      · have hm : (b, (⟨u, us, cc * sz⟩ : Hb)) ∈ hp := g6.mem (by rw [hbA_some]; exact List.mem_singleton.2 rfl)
        exact .sl (b := b) (o := 0) us hn.h hnc (Nat.le_trans hnc g3.max) g5 (fun _ => ⟨rfl, .inr ⟨_, hm⟩⟩) g4'.len (fun j x hx => by rw [Nat.zero_add]; exact (hw.blk b _ hm).cell (x := ⟨u, us, _⟩) hx) g4'.one g4'.den
    · cases hb
  | r k i o sz n =>
    simp only [borD] at hb
    split at hb
    · rename_i u rs hk
      split at hb
      · rename_i row hrow
        split at hb
        · rename_i e s2 rr ho
          cases hb2 : Nat.beq s2 sz <;> rw [hb2] at hb
          · cases hb
          · have := Nat.eq_of_beq_eq_true hb2
            subst this
            injection hb with hb; subst hb
            simp only [needD, hk, hrow, ho] at hn
            cases hd with | @r _ _ _ _ _ cc0 A0 h0 hA hnc hm0 =>
            obtain ⟨F, w0, hp⟩ := h
            obtain ⟨Y, f, ⟨q1, q2⟩, q3⟩ := g.ob.at_ hk
            rw [nth_eq] at hrow ho
            obtain ⟨b, us, X0, rest, r1, r2, r3, _⟩ := q1.split hrow
            rw [Nat.zero_add] at r2
            obtain ⟨u1, Xe, rest1, s1, ⟨A, cc, us1, rfl, rfl, t3, g3, g4, g5⟩, s3, _⟩ := r2.split ho
            rw [Nat.zero_add] at t3
            rw [t3] at h0
            injection h0 with h0
            injection h0 with e1 e2 _
            subst e1 e2
            refine ⟨?_, hn.k, fun h => by cases h⟩
            have hz := g.mz hw (G' := G.or (Bl hp)) fun _ h => .inl h
            have g4' := g4.mono hz
            rcases g3.form with ⟨rfl, h1, h2⟩ | ⟨b', rfl⟩
            · have hrs : rr = [] := List.eq_nil_of_length_eq_zero h1
              subst hrs
              exact .sl (b := 0) (o := 0) [] hn.h hnc (Nat.le_trans hnc g3.max) g5 (fun h => absurd rfl h) (by simp) (fun j u h => by simp at h) rfl (fun j d u h => by simp at h)
            · have hm : (b', (⟨e, us1, cc * s2⟩ : Hb)) ∈ hp := q3.mem (r3.mem_iff.2 (List.mem_cons_of_mem _ (List.mem_append_left _ (s3.mem_iff.2 (List.mem_append_left _ (by rw [hbA_some]; exact List.mem_singleton.2 rfl))))))
              exact .sl (b := b') (o := 0) us1 hn.h hnc (Nat.le_trans hnc g3.max) g5 (fun _ => ⟨rfl, .inr ⟨_, hm⟩⟩) g4'.len (fun j x hx => by rw [Nat.zero_add]; exact (hw.blk b' _ hm).cell (x := ⟨e, us1, _⟩) hx) g4'.one g4'.den
        · cases hb
      · cases hb
    · cases hb
  | _ => cases hb
theorem borL_den (g : Gd c st tm h ρ G) (hw : Hp h w) {X : Prop} : ∀ {ds : List D} {xs : List V} {us : List Value}, borL st.ob ds = some xs → needL st.ob X ds → DenL ρ ⟨G, h.w0⟩ ds us → DenVL ⟨G.or (Bl h.hp), w⟩ xs us ∧ X ∧ (ownL ds = false → DenVL ⟨G, w⟩ xs us)
  | [], xs, us, hb, hn, hd => by
    simp [borL] at hb
    subst hb
    have := hd.len
    simp at this
    subst this
    exact ⟨.nil, hn, fun _ => .nil⟩
  | d :: r, xs, us, hb, hn, hd => by
    simp only [borL] at hb
    cases h1 : borD st.ob d with
    | none => simp [h1] at hb
    | some y =>
      cases h2 : borL st.ob r with
      | none => simp [h1, h2] at hb
      | some l =>
        simp only [h1, h2, Option.some.injEq] at hb
        subst hb
        have hl := hd.len
        cases us with
        | nil => simp at hl
        | cons u us =>
          simp only [needL] at hn
          obtain ⟨q1, q2, q3⟩ := borD_den g hw h1 hn (hd.den 0 d u rfl rfl)
          obtain ⟨r1, r2, r3⟩ := borL_den g hw (us := us) h2 q2 ⟨by simpa using hl, by have := hd.one; simp at this; simpa using this.2, fun j d v e1 e2 => hd.den (j + 1) d v (by simpa using e1) (by simpa using e2)⟩
          refine ⟨⟨by simp [r1.len], by simp [q1.one, r1.one], fun j d v e1 e2 => ?_⟩, r2, fun ho => ?_⟩
          · cases j with
            | zero => simp at e1 e2; subst e1 e2; exact q1
            | succ j => exact r1.den j d v (by simpa using e1) (by simpa using e2)
          · simp only [ownL] at ho
            cases hod : ownD d
            · rw [hod] at ho
              have r3' := r3 ho
              exact ⟨by simp [r3'.len], by simp [q1.one, r3'.one], fun j d v e1 e2 => by
                cases j with
                | zero => simp at e1 e2; subst e1 e2; exact q3 hod
                | succ j => exact r3'.den j d v (by simpa using e1) (by simpa using e2)⟩
            · rw [hod] at ho; cases ho
theorem borS_den (g : Gd c st tm h ρ G) (hw : Hp h w) {s s' : SV} {v : Value} {X : Prop} (hb : borS st.ob s = some s') (hn : needS st.ob X s) (hd : DenS ρ ⟨G, h.w0⟩ s v) : DenS ρ' ⟨G.or (Bl h.hp), w⟩ s' v ∧ X ∧ (ownS s = false → DenS ρ' ⟨G, w⟩ s' v) := by
  cases s with
  | d x =>
    simp only [borS] at hb
    cases h1 : borD st.ob x with
    | none => simp [h1] at hb
    | some y =>
      simp only [h1, Option.some.injEq] at hb
      subst hb
      cases hd with | d hd =>
      obtain ⟨q1, q2, q3⟩ := borD_den g hw h1 hn hd
      exact ⟨.d (.u q1), q2, fun ho => .d (.u (q3 ho))⟩
  | a xs =>
    simp only [borS] at hb
    cases h1 : borL st.ob xs with
    | none => simp [h1] at hb
    | some ys =>
      simp only [h1, Option.some.injEq] at hb
      subst hb
      cases hd with | a hd =>
      obtain ⟨q1, q2, q3⟩ := borL_den g hw h1 hn hd
      exact ⟨.a (by rw [upT_map]; exact q1.up), q2, fun ho => .a (by rw [upT_map]; exact (q3 ho).up)⟩
  | t vs => cases hb
theorem argsT_ev (g : Gd c st tm h ρ G) : ∀ {xs : List Operand} {ss : List SV}, argsT st.ob st.tm xs = some ss → ∃ vs, ArgsL tm xs vs ∧ vs.length = ss.length ∧ ∀ w, Hp h w → ∀ X, needA st.ob st.tm X xs →
    X ∧ (∀ (j : Nat) s v, ss[j]? = some s → vs[j]? = some v → DenS ρ' ⟨G.or (Bl h.hp), w⟩ s v) ∧ (ownA st.tm xs = false → ∀ (j : Nat) s v, ss[j]? = some s → vs[j]? = some v → DenS ρ' ⟨G, w⟩ s v)
  | [], ss, ha => by simp [argsT] at ha; subst ha; exact ⟨[], .nil, rfl, fun w hw X hn => ⟨hn, by simp, by simp⟩⟩
  | x :: r, ss, ha => by
    simp only [argsT] at ha
    cases hx : evT st.tm x with
    | none => simp [hx] at ha
    | some s =>
      simp only [hx] at ha
      cases hb : borS st.ob s with
      | none => simp [hb] at ha
      | some s' =>
        simp only [hb] at ha
        cases hr : argsT st.ob st.tm r with
        | none => simp [hr] at ha
        | some l =>
          simp only [hr, Option.some.injEq] at ha
          subst ha
          obtain ⟨v, q1, q2⟩ := g.ev hx
          obtain ⟨vs, r1, r2, r3⟩ := argsT_ev g hr
          refine ⟨v :: vs, .cons q1 r1, by simp [r2], fun w hw X hn => ?_⟩
          simp only [needA, hx] at hn
          obtain ⟨b1, b2, b3⟩ := borS_den (ρ' := ρ') g hw hb hn q2
          obtain ⟨t1, t2, t3⟩ := r3 w hw X b2
          refine ⟨t1, fun j s0 v0 e1 e2 => ?_, fun ho j s0 v0 e1 e2 => ?_⟩
          · cases j with
            | zero => simp at e1 e2; subst e1 e2; exact b1
            | succ j => exact t2 j s0 v0 (by simpa using e1) (by simpa using e2)
          · simp only [ownA, hx] at ho
            cases hos : ownS s
            · rw [hos] at ho
              cases j with
              | zero => simp at e1 e2; subst e1 e2; exact b3 hos
              | succ j => exact t3 ho j s0 v0 (by simpa using e1) (by simpa using e2)
            · rw [hos] at ho; cases ho
theorem lk_slT {s : SV} : ∀ {ss : List SV} {n k : Nat}, lk k (slT n ss) = some s → n ≤ k ∧ ss[k - n]? = some s
  | [], n, k, h => by simp [slT, lk] at h
  | x :: r, n, k, h => by
    simp only [slT, lk] at h
    cases hb : Nat.beq k n
    · rw [hb] at h
      obtain ⟨h1, h2⟩ := lk_slT h
      refine ⟨by omega, ?_⟩
      rw [show k - n = (k - (n + 1)) + 1 by omega]
      simpa using h2
    · rw [hb] at h
      have := Nat.eq_of_beq_eq_true hb
      subst this
      simpa using h
theorem lk_slots {v : Value} : ∀ {vs : List Value} {n k : Nat}, n ≤ k → vs[k - n]? = some v → lk k (slots n vs) = some v
  | [], n, k, _, h => by simp at h
  | x :: r, n, k, hk, h => by
    simp only [slots, lk]
    cases hb : Nat.beq k n
    · have hne : k ≠ n := fun e => by rw [e, Nat.beq_refl] at hb; cases hb
      exact lk_slots (by omega) (by rw [show k - n = (k - (n + 1)) + 1 by omega] at h; simpa using h)
    · have := Nat.eq_of_beq_eq_true hb
      subst this
      simpa using h
theorem pureL_get : ∀ {cs : List D}, pureL cs = true → ∀ (j : Nat) d, cs[j]? = some d → ∃ x, d = .u x
  | [], _, j, d, hj => by simp at hj
  | x :: r, h, j, d, hj => by
    cases x <;> simp only [pureL] at h <;> try cases h
    cases j with
    | zero => simp at hj; exact ⟨_, hj.symm⟩
    | succ j => exact pureL_get h j d (by simpa using hj)
theorem pureC_get : ∀ {cs : List SC}, pureC cs = true → ∀ (j : Nat) s, cs[j]? = some s → (∃ x, s = .d (.u x)) ∨ ∃ xs, s = .a xs ∧ pureL xs = true
  | [], _, j, d, hj => by simp at hj
  | x :: r, h, j, s, hj => by
    cases x with
    | d y =>
      cases y <;> simp only [pureC] at h <;> try cases h
      cases j with
      | zero => simp at hj; exact .inl ⟨_, hj.symm⟩
      | succ j => exact pureC_get h j s (by simpa using hj)
    | a xs =>
      simp only [pureC] at h
      cases hp : pureL xs <;> rw [hp] at h
      · cases h
      · cases j with
        | zero => simp at hj; exact .inr ⟨xs, hj.symm, hp⟩
        | succ j => exact pureC_get h j s (by simpa using hj)
theorem DenL.pure {z : Fz} {cs : List D} {us : List Value} (hp : pureL cs = true) (h : DenL ρ z cs us) : DenL ρ' z cs us := ⟨h.len, h.one, fun j d u h1 h2 => by
  obtain ⟨x, rfl⟩ := pureL_get hp j d h1
  have := h.den j _ u h1 h2
  cases this with | u this => exact .u this⟩
theorem DenS.pure {z : Fz} {s : SV} {v : Value} (hp : pureS s = true) (h : DenS ρ z s v) : DenS ρ' z s v := by
  cases h with
  | @d x _ h =>
    cases x <;> simp only [pureS] at hp <;> try cases hp
    cases h with | u h => exact .d (.u h)
  | a h => exact .a (h.pure hp)
  | t hl hd =>
    refine .t hl fun j s v h1 h2 => ?_
    rcases pureC_get hp j s h1 with ⟨x, rfl⟩ | ⟨xs, rfl, hx⟩
    · cases hd j _ v h1 h2 with | d h => cases h with | u h => exact .d (.u h)
    · cases hd j _ v h1 h2 with | a h => exact .a (h.pure hx)
theorem DenV.flat {z z' : Fz} {x : V} {v : Value} (hf : flatV x = true) (h : DenV z x v) : DenV z' x v := by
  cases h with
  | sl => cases hf
  | cl => cases hf
  | int => exact .int _ _
  | bool => exact .bool _
  | str _ hs => exact .str _ hs
  | nl => exact .nl
  | pn => exact .pn
  | fn => exact .fn
  | v h => exact .v h
  | m h => cases hf
theorem flatL_get : ∀ {cs : List D}, flatL cs = true → ∀ (j : Nat) d, cs[j]? = some d → ∃ x, d = .u x ∧ flatV x = true
  | [], _, j, d, hj => by simp at hj
  | x :: r, h, j, d, hj => by
    cases x <;> simp only [flatL] at h <;> try cases h
    rename_i y
    cases hy : flatV y <;> rw [hy] at h
    · cases h
    · cases j with
      | zero => simp at hj; exact ⟨y, hj.symm, hy⟩
      | succ j => exact flatL_get h j d (by simpa using hj)
theorem flatC_get : ∀ {cs : List SC}, flatC cs = true → ∀ (j : Nat) s, cs[j]? = some s → (∃ x, s = .d (.u x) ∧ flatV x = true) ∨ ∃ xs, s = .a xs ∧ flatL xs = true
  | [], _, j, d, hj => by simp at hj
  | x :: r, h, j, s, hj => by
    cases x with
    | d y =>
      cases y <;> simp only [flatC] at h <;> try cases h
      rename_i y
      cases hy : flatV y <;> rw [hy] at h
      · cases h
      · cases j with
        | zero => simp at hj; exact .inl ⟨_, hj.symm, hy⟩
        | succ j => exact flatC_get h j s (by simpa using hj)
    | a xs =>
      simp only [flatC] at h
      cases hp : flatL xs <;> rw [hp] at h
      · cases h
      · cases j with
        | zero => simp at hj; exact .inr ⟨xs, hj.symm, hp⟩
        | succ j => exact flatC_get h j s (by simpa using hj)
theorem DenL.flat {z z' : Fz} {cs : List D} {us : List Value} (hp : flatL cs = true) (h : DenL ρ z cs us) : DenL ρ' z' cs us := ⟨h.len, h.one, fun j d u h1 h2 => by
  obtain ⟨x, rfl, hx⟩ := flatL_get hp j d h1
  have := h.den j _ u h1 h2
  cases this with | u this => exact .u (this.flat hx)⟩
theorem DenS.flat {z z' : Fz} {s : SV} {v : Value} (hp : flatS s = true) (h : DenS ρ z s v) : DenS ρ' z' s v := by
  cases h with
  | @d x _ h =>
    cases x <;> simp only [flatS] at hp <;> try cases hp
    cases h with | u h => exact .d (.u (h.flat hp))
  | a h => exact .a (h.flat hp)
  | t hl hd =>
    refine .t hl fun j s v h1 h2 => ?_
    rcases flatC_get hp j s h1 with ⟨x, rfl, hx⟩ | ⟨xs, rfl, hx⟩
    · cases hd j _ v h1 h2 with | d h => cases h with | u h => exact .d (.u (h.flat hx))
    · cases hd j _ v h1 h2 with | a h => exact .a (h.flat hx)
end
section
variable {ρ : Rho} {k sz : Nat} {rs : List (List V)}
theorem frNeedD_x {X : Prop} {d : D} (h : frNeedD k rs X d) : X := by
  cases d <;> simp only [frNeedD] at h <;> first | exact h | skip
  rename_i j n
  cases hb : Nat.beq j k <;> simp only [hb, cond_false, cond_true] at h
  · exact h
  · exact h.k
theorem frNeedL_x {X : Prop} : ∀ {ds : List D}, frNeedL k rs X ds → X
  | [], h => h
  | _ :: _, h => frNeedL_x (frNeedD_x h)
theorem frNeedC_x {X : Prop} : ∀ {ds : List SC}, frNeedC k rs X ds → X
  | [], h => h
  | .d _ :: _, h => frNeedC_x (frNeedD_x h)
  | .a _ :: _, h => frNeedC_x (frNeedL_x h)
theorem frNeedS_x {X : Prop} {s : SV} (h : frNeedS k rs X s) : X := by
  cases s with
  | d x => exact frNeedD_x h
  | a xs => exact frNeedL_x h
  | t vs => exact frNeedC_x h
/-- What is known of a frozen array. -/
structure Frz (ρ : Rho) (z : Fz) (k sz : Nat) (rs : List (List V)) : Prop where
  den : ∀ (n : Nat) (v : Value), rs.length = n → Den ρ z (.ow k n) v → DenV z (.sl sz rs) v
theorem frD_den {z : Fz} {X : Prop} (fz : Frz ρ z k sz rs) {d : D} {v : Value} (hn : frNeedD k rs X d) (h : Den ρ z d v) : Den ρ z (frD k sz rs d) v := by
  cases d <;> simp only [frNeedD, frD] at hn ⊢ <;> first | exact h | skip
  rename_i j n
  cases hb : Nat.beq j k <;> simp only [hb, cond_false, cond_true] at hn ⊢
  · exact h
  · have := Nat.eq_of_beq_eq_true hb
    subst this
    exact .u (fz.den n v hn.h h)
theorem frL_den {z : Fz} {X : Prop} (fz : Frz ρ z k sz rs) : ∀ {ds : List D} {us : List Value}, frNeedL k rs X ds → DenL ρ z ds us → DenL ρ z (frL k sz rs ds) us
  | [], us, hn, h => h
  | d :: r, us, hn, h => by
    have hl := h.len
    cases us with
    | nil => simp at hl
    | cons x us =>
      simp only [frNeedL] at hn
      exact (frL_den fz (us := us) (frNeedD_x hn) ⟨by simpa using hl, by have := h.one; simp at this; simpa using this.2, fun j d v e1 e2 => h.den (j + 1) d v (by simpa using e1) (by simpa using e2)⟩).cons (frD_den fz hn (h.den 0 d x rfl rfl))
theorem frL_len : ∀ {ds : List D}, (frL k sz rs ds).length = ds.length
  | [] => rfl
  | _ :: r => by simp [frL, frL_len (ds := r)]
theorem frC_den {z : Fz} {X : Prop} (fz : Frz ρ z k sz rs) : ∀ {ss : List SC} {vs : List Value}, frNeedC k rs X ss → vs.length = ss.length → (∀ (j : Nat) s v, ss[j]? = some s → vs[j]? = some v → DenC ρ z s v) → (frC k sz rs ss).length = ss.length ∧ ∀ (j : Nat) s v, (frC k sz rs ss)[j]? = some s → vs[j]? = some v → DenC ρ z s v
  | [], vs, hn, _, _ => ⟨rfl, by simp [frC]⟩
  | .d x :: r, vs, hn, hl, hd => by
    cases vs with
    | nil => simp at hl
    | cons v vs =>
      simp only [frNeedC] at hn
      have h0 := hd 0 _ v rfl rfl
      cases h0 with | d h0 =>
      obtain ⟨r2, r3⟩ := frC_den fz (vs := vs) (frNeedD_x hn) (by simpa using hl) (fun j s v e1 e2 => hd (j + 1) s v (by simpa using e1) (by simpa using e2))
      refine ⟨by simp [frC, r2], fun j s v0 e1 e2 => ?_⟩
      cases j with
      | zero => simp [frC] at e1 e2; subst e1 e2; exact .d (frD_den fz hn h0)
      | succ j => exact r3 j s v0 (by simpa [frC] using e1) (by simpa using e2)
  | .a xs :: r, vs, hn, hl, hd => by
    cases vs with
    | nil => simp at hl
    | cons v vs =>
      simp only [frNeedC] at hn
      have h0 := hd 0 _ v rfl rfl
      cases h0 with | a h0 =>
      obtain ⟨r2, r3⟩ := frC_den fz (vs := vs) (frNeedL_x hn) (by simpa using hl) (fun j s v e1 e2 => hd (j + 1) s v (by simpa using e1) (by simpa using e2))
      refine ⟨by simp [frC, r2], fun j s v0 e1 e2 => ?_⟩
      cases j with
      | zero => simp [frC] at e1 e2; subst e1 e2; exact .a (frL_den fz hn h0)
      | succ j => exact r3 j s v0 (by simpa [frC] using e1) (by simpa using e2)
theorem frS_den {z : Fz} {X : Prop} (fz : Frz ρ z k sz rs) {s : SV} {v : Value} (hn : frNeedS k rs X s) (h : DenS ρ z s v) : DenS ρ z (frS k sz rs s) v := by
  cases h with
  | d h => exact .d (frD_den fz hn h)
  | a h => exact .a (frL_den fz hn h)
  | t hl hd => obtain ⟨q2, q3⟩ := frC_den fz hn hl hd; exact .t (by rw [q2]; exact hl) q3
theorem frTm_lk {X : Prop} : ∀ {tm : List (Nat × SV)}, frNeedT k rs X tm → X ∧ ∀ j s', lk j (frTm k sz rs tm) = some s' → ∃ s, lk j tm = some s ∧ s' = frS k sz rs s ∧ ∃ Y, frNeedS k rs Y s
  | [], hn => ⟨hn, fun j s' h => by simp [frTm, lk] at h⟩
  | (i, s) :: r, hn => by
    simp only [frNeedT] at hn
    obtain ⟨q1, q2⟩ := frTm_lk (frNeedS_x hn)
    refine ⟨q1, fun j s' h => ?_⟩
    simp only [frTm, lk] at h ⊢
    cases hb : Nat.beq j i <;> rw [hb] at h
    · exact q2 j s' h
    · simp only [cond_true, Option.some.injEq] at h
      exact ⟨s, rfl, h.symm, _, hn⟩
theorem frOb_den {z : Fz} {X : Prop} (fz : Frz ρ z k sz rs) : ∀ {ob : List (Nat × Ob)} {hp : List (Nat × Hb)}, frNeedO k rs X ob → ObsOk ρ z ob hp → X ∧ ObsOk ρ z (frOb k sz rs ob) hp
  | [], _, hn, h => ⟨hn, h⟩
  | (j, .bx t cs) :: r, hp, hn, ⟨Y, hp', h1, ⟨b, us, h2, h3, h4⟩, h5⟩ => by
    simp only [frNeedO] at hn
    obtain ⟨q1, q2⟩ := frOb_den fz (frNeedL_x hn) h5
    exact ⟨q1, Y, hp', h1, ⟨b, us, by rw [frL_len]; exact h2, by rw [frL_len]; exact h3, frL_den fz hn h4⟩, q2⟩
  | (j, .ar t m ss) :: r, hp, hn, ⟨Y, hp', h1, h2, h5⟩ => by
    simp only [frNeedO] at hn
    obtain ⟨q1, q2⟩ := frOb_den fz hn h5
    exact ⟨q1, Y, hp', h1, h2, q2⟩
  | (j, .fm t ss) :: r, hp, hn, ⟨Y, hp', h1, h2, h5⟩ => by
    simp only [frNeedO] at hn
    obtain ⟨q1, q2⟩ := frOb_den fz hn h5
    exact ⟨q1, Y, hp', h1, h2, q2⟩
end
section
variable {c : Cx} {tm : List (Nat × Value)} {ρ : Rho} {w : World}
/-- An own array is frozen. -/
theorem Gd.freeze {st : St} {h : Hs} {G : FG} {k u sz : Nat} {rs : List (List V)} {X : Prop} (g : Gd c st tm h ρ G) (hw : Hp h w) (hk : lk k st.ob = some (.ar u sz rs)) (hn : frNeedT k rs (frNeedO k rs X (obr k st.ob)) st.tm) :
    X ∧ ∃ h' G', Gd c ⟨frTm k sz rs st.tm, frOb k sz rs (obr k st.ob)⟩ tm h' ρ G' ∧ Hp h' w ∧ ∀ w', Hp h' w' → Hp h w' := by
  obtain ⟨F, w0, hp⟩ := h
  obtain ⟨Y, f, ⟨A, cc, us, rfl, g2, g3, g4, g5⟩, g6, _, g8⟩ := g.ob.set hk
  have hperm : hp.Perm (hbA A u us cc sz ++ f []) := by have := g6.perm (hbA A u us cc sz); rwa [g6.eq] at this
  have hnd : ((hbA A u us cc sz ++ f []).map Prod.fst).Nodup := (hperm.map _).nodup_iff.1 hw.nd
  have hmem : ∀ p, p ∈ hp ↔ p ∈ hbA A u us cc sz ∨ p ∈ f [] := fun p => by rw [hperm.mem_iff, List.mem_append]
  have hB : ∀ b, Bl (hbA A u us cc sz) b → ¬ F b := fun b ⟨x, hx⟩ => hw.out b x ((hmem _).2 (.inl hx))
  have hz : Mz ⟨G, w0⟩ ⟨G.or (Bl (hbA A u us cc sz)), w⟩ := ⟨fun _ h => .inl h, fun b hb => hw.same.block b (g.gF b hb), fun _ _ _ h => h⟩
  have g4' := g4.mono hz
  have fz : Frz ρ ⟨G.or (Bl (hbA A u us cc sz)), w⟩ k sz rs := ⟨fun n v hn h => by
    cases h with | @ow _ _ l h0 hA hnc =>
    rw [h0] at g2
    injection g2 with g2; subst g2
    rcases g3.form with ⟨rfl, h1, h2⟩ | ⟨b, rfl⟩
    · have hrs : rs = [] := List.eq_nil_of_length_eq_zero h1
      subst hrs
      exact .sl (b := 0) (o := 0) [] hn hnc (Nat.le_trans hnc g3.max) g5 (fun h => absurd rfl h) (by simp) (fun j u h => by simp at h) rfl (fun j d u h => by simp at h)
    · have hm : (b, (⟨u, us, cc * sz⟩ : Hb)) ∈ hbA (some ⟨b, 0, none⟩) u us cc sz := by rw [hbA_some]; exact List.mem_singleton.2 rfl
      exact .sl (b := b) (o := 0) us hn hnc (Nat.le_trans hnc g3.max) g5 (fun _ => ⟨rfl, .inr ⟨_, hm⟩⟩) g4'.len (fun j x hx => by rw [Nat.zero_add]; exact (hw.blk b _ ((hmem _).2 (.inl hm))).cell (x := ⟨u, us, _⟩) hx) g4'.one g4'.den⟩
  obtain ⟨q1, q2⟩ := frTm_lk (sz := sz) hn
  obtain ⟨r1, r2⟩ := frOb_den fz q1 (g8.mono hz .refl)
  refine ⟨r1, ⟨fun b => F b ∨ Bl (hbA A u us cc sz) b, w, f []⟩, G.or (Bl (hbA A u us cc sz)), ⟨fun b hb => .inl (g.fF b hb), g.fw.trans (hw.same.mono g.fF), fun b hb => hb.imp (g.gF b) id, fun b hb => ?_, g.fm.or, fun j s' hj => ?_, r2⟩, ⟨Same.refl _ _, fun b hb => ?_, fun b x hx => hw.blk b x ((hmem _).2 (.inr hx)), ?_, fun b x hx hb => ?_⟩, fun w' hw' => ?_⟩
  · rcases hb with hb | hb
    · exact g.gx b hb
    · exact .inr fun h0 => hB b hb (g.fF b h0)
  · obtain ⟨s, e1, rfl, Z, e3⟩ := q2 j s' hj
    obtain ⟨v, v1, v2⟩ := g.tm j s e1
    exact ⟨v, v1, frS_den fz e3 (v2.mono hz .refl)⟩
  · rcases hb with hb | ⟨x, hx⟩
    · exact hw.Flt hb
    · exact (hw.blk b x ((hmem _).2 (.inl hx))).lt
  · rw [List.map_append, List.nodup_append] at hnd; exact hnd.2.1
  · rcases hb with hb | ⟨y, hy⟩
    · exact hw.out b x ((hmem _).2 (.inr hx)) hb
    · rw [List.map_append, List.nodup_append] at hnd
      exact hnd.2.2 b (List.mem_map_of_mem (f := Prod.fst) hy) b (List.mem_map_of_mem (f := Prod.fst) hx) rfl
  · refine ⟨hw.same.trans (hw'.same.mono fun _ h => .inl h), hw.inF, fun b x hx => ?_, hw.nd, hw.out⟩
    rcases (hmem _).1 hx with h1 | h1
    · exact (hw.blk b x hx).of_block (hw'.same.block b (.inr ⟨x, h1⟩))
    · exact hw'.blk b x h1
theorem frAll_out {K : Kt} : ∀ {ks : List Nat} {st : St} {h : Hs} {G : FG}, Gd c st tm h ρ G → Hp h w → frAll K ks st.tm st.ob → ∃ st' h' G', Gd c st' tm h' ρ G' ∧ Hp h' w ∧ (∀ w', Hp h' w' → Hp h w') ∧ K st'.tm st'.ob
  | [], st, h, G, g, hw, k => ⟨st, h, G, g, hw, fun _ h => h, k⟩
  | k0 :: r, st, h, G, g, hw, k => by
    simp only [frAll] at k
    split at k
    · rename_i u sz rs hk
      obtain ⟨q1, h', G', q2, q3, q4⟩ := g.freeze hw hk k
      obtain ⟨st2, h2, G2, r1, r2, r3, r4⟩ := frAll_out q2 q3 q1
      exact ⟨st2, h2, G2, r1, r2, fun w' hw' => q4 w' (r3 w' hw'), r4⟩
    · exact k.elim
end
section
variable {P : Program} {T : List (Nat × Ty)} {nt : Nat} {Q : Exit → Act → World → Prop} {c : Cx} {st : St} {tm : List (Nat × Value)} {h : Hs} {ρ : Rho} {G : FG} {ty : TypeId} {pos : String} {af : Array Edge} {gd : Option (Nat × Bool)} {K : Kt}
/-- What a call by contract gives. -/
theorem call_out (g : Gd c st tm h ρ G) {f : FuncId} {xs : List Operand} {ss : List SV} {KS : SV → Prop} (ha : argsT st.ob st.tm xs = some ss) (hn : needA st.ob st.tm (Cl P f ss (ownA st.tm xs) KS) xs) :
    ∃ vs, ArgsL tm xs vs ∧ ∀ w, Hp h w → FnOk P f ∧ Calls P f vs.toArray w fun e w' => ∃ v h', e = .returned v ∧ Hp h' w' ∧ ∃ s G', KS s ∧ DenS ρ ⟨G', h'.w0⟩ s v ∧ Gd c st tm h' ρ G' ∧ ∀ w, Hp h' w → Hp h w := by
  obtain ⟨vs, a1, a2, a3⟩ := argsT_ev (ρ' := ρ) g ha
  refine ⟨vs, a1, fun w hw => ?_⟩
  obtain ⟨cl, a4, a5⟩ := a3 w hw _ hn
  refine ⟨cl.out.fn, ?_⟩
  have hF : ∀ b, Bl h.hp b → ¬ h.F b := fun b ⟨x, hx⟩ => hw.out b x hx
  have hin : ∀ b, h.F b ∨ Bl h.hp b → b < w.heap.size := fun b hb => by
    rcases hb with hb | ⟨x, hx⟩
    · exact hw.Flt hb
    · exact (hw.blk b x hx).lt
  have key : ∀ B : Nat → Prop, (∀ b, B b → h.F b ∨ Bl h.hp b) → (∀ (j : Nat) s v, ss[j]? = some s → vs[j]? = some v → DenS ρ ⟨⟨B, G.fam, fun _ => False⟩, w⟩ s v) →
      Calls P f vs.toArray w fun e w' => ∃ v h' s, ∃ G' : FG, e = .returned v ∧ Hp h' w' ∧ (∀ w, Hp h' w → Hp h w) ∧ Gd c st tm h' ρ G ∧ (∀ b, G' b → B b ∨ ¬ (h.F b ∨ Bl h.hp b)) ∧ (∀ b, G' b → ¬ Bl h.hp b → h'.F b) ∧ G'.fam = G.fam ∧ DenS ρ ⟨G', h'.w0⟩ s v ∧ (ownA st.tm xs = true → flatS s = true) ∧ KS s := by
    intro B hB hden
    have hp0 : Hp ⟨fun b => h.F b ∨ Bl h.hp b, w, []⟩ w := ⟨Same.refl _ _, hin, fun _ _ h => (by cases h), by simp, fun _ _ h => (by cases h)⟩
    refine (cl.out.out ⟨fun b => h.F b ∨ Bl h.hp b, w, ⟨B, G.fam, fun _ => False⟩⟩ ρ [] vs w hp0 a2 ⟨fun _ hb => hb, Same.refl _ _, hB, fun _ hb => .inl hb, .refl _, fun k s hk => ?_, rfl⟩).mono ?_
    · obtain ⟨h1, h2⟩ := lk_slT hk
      have hlt : k - 0 < vs.length := by rw [a2]; exact (List.getElem?_eq_some_iff.1 h2).1
      exact ⟨vs[k - 0], lk_slots h1 (List.getElem?_eq_getElem hlt), hden _ s _ h2 (List.getElem?_eq_getElem hlt)⟩
    · rintro e w' ⟨v, h', s, ob', ρ', G', rfl, hw', g', rfl, hpu, hfl, hk⟩
      have hhp : h'.hp = [] := g'.ob
      have hfam : G'.fam = G.fam := funext fun k => g'.fm.eq k (fun h => h)
      obtain ⟨v', e1, e2⟩ := g'.tm 0 s rfl
      simp only [lk, Nat.beq_refl, cond_true, Option.some.injEq] at e1
      subst e1
      have hkeep : ∀ b, h.F b ∨ Bl h.hp b → w'.heap[b]? = w.heap[b]? := fun b hb => (hw'.same.block b (g'.fF b hb)).trans (g'.fw.block b hb)
      refine ⟨v, ⟨fun b => h'.F b ∧ ¬ Bl h.hp b, h'.w0, h.hp⟩, s, G', rfl, ⟨hw'.same.mono fun _ hb => hb.1, fun b hb => hw'.inF b hb.1, fun b x hx => (hw.blk b x hx).of_block (hkeep b (.inr ⟨x, hx⟩)), hw.nd, fun b x hx hb => hb.2 ⟨x, hx⟩⟩, fun w2 hw2 => ?_, ?_, g'.gx, fun b hb hnb => ⟨g'.gF b hb, hnb⟩, hfam, e2.pure hpu, hfl, hk⟩
      · refine ⟨(hw.same.trans (g'.fw.mono fun b hb => .inl hb)).trans (hw2.same.mono fun b hb => ⟨g'.fF b (.inl hb), fun hbl => hF b hbl hb⟩), hw.inF, hw2.blk, hw2.nd, fun b x hx hb => hF b ⟨x, hx⟩ hb⟩
      have hm : Mz ⟨G, h.w0⟩ ⟨G, h'.w0⟩ := ⟨fun _ hb => hb, fun b hb => (g'.fw.block b (.inl (g.gF b hb))).trans (hw.same.block b (g.gF b hb)), fun _ _ _ h => h⟩
      refine ⟨fun b hb => ⟨g'.fF b (.inl (g.fF b hb)), fun hbl => hF b hbl (g.fF b hb)⟩, ?_, fun b hb => ⟨g'.fF b (.inl (g.gF b hb)), fun hbl => hF b hbl (g.gF b hb)⟩, g.gx, g.fm, fun k s hk => ?_, g.ob.mono hm .refl⟩
      · exact (g.fw.trans (hw.same.mono g.fF)).trans (g'.fw.mono fun b hb => .inl (g.fF b hb))
      · obtain ⟨u, h1, h2⟩ := g.tm k s hk
        exact ⟨u, h1, h2.mono hm .refl⟩
  cases ho : ownA st.tm xs
  · refine (key G.on (fun b hb => .inl (g.gF b hb)) (fun j s v e1 e2 => DenS.mono (z := ⟨G, w⟩) (z' := ⟨⟨G.on, G.fam, fun _ => False⟩, w⟩) ⟨fun _ h => h, fun _ _ => rfl, fun _ _ _ h => h⟩ .refl (a5 ho j s v e1 e2))).mono ?_
    rintro e w' ⟨v, h', s, G', rfl, hw', hkp, g', hg1, hg2, hfam, hd, _, hk⟩
    refine ⟨v, h', rfl, hw', s, G.or G', hk, DenS.mono (z := ⟨G', h'.w0⟩) (z' := ⟨G.or G', h'.w0⟩) ⟨fun _ hb => Or.inr hb, fun _ _ => rfl, fun k i b h => by rw [hfam] at h; exact h⟩ .refl hd, ?_⟩
    have hm : Mz ⟨G, h'.w0⟩ ⟨G.or G', h'.w0⟩ := ⟨fun _ hb => Or.inl hb, fun _ _ => rfl, fun _ _ _ h => h⟩
    have hnb : ∀ b, G' b → ¬ Bl h.hp b := fun b hb hbl => by
      rcases hg1 b hb with h1 | h1
      · exact hF b hbl (g.gF b h1)
      · exact h1 (.inr hbl)
    refine ⟨⟨g'.fF, g'.fw, fun b hb => ?_, fun b hb => ?_, g'.fm.or, fun k s hk => ?_, g'.ob.mono hm .refl⟩, hkp⟩
    · rcases hb with hb | hb
      · exact g'.gF b hb
      · exact hg2 b hb (hnb b hb)
    · rcases hb with hb | hb
      · exact g.gx b hb
      · rcases hg1 b hb with h1 | h1
        · exact g.gx b h1
        · exact .inr fun h2 => h1 (.inl (g.fF b h2))
    · obtain ⟨u, h1, h2⟩ := g'.tm k s hk
      exact ⟨u, h1, h2.mono hm .refl⟩
  · refine (key (G.or (Bl h.hp)).on (fun b hb => hb.imp (g.gF b) id) (fun j s v e1 e2 => DenS.mono (z := ⟨G.or (Bl h.hp), w⟩) (z' := ⟨⟨(G.or (Bl h.hp)).on, G.fam, fun _ => False⟩, w⟩) ⟨fun _ h => h, fun _ _ => rfl, fun _ _ _ h => h⟩ .refl (a4 j s v e1 e2))).mono ?_
    rintro e w' ⟨v, h', s, G', rfl, hw', hkp, g', hg1, hg2, hfam, hd, hfl, hk⟩
    exact ⟨v, h', rfl, hw', s, G, hk, hd.flat (hfl ho), g', hkp⟩
theorem call_A {f : FuncId} {xs : Array Operand} {ts : Array TypeId} {d : Option Tmp} (g : Gd c st tm h ρ G) (k : vcA P nt d f xs st.tm st.ob K) : OpS P nt Q ⟨d, .call ⟨.value (.func f), xs, ts⟩, ty, pos, af, gd⟩ tm h (Kk h c K) := by
  simp only [vcA] at k
  cases ha : argsT st.ob st.tm xs.toList with
  | none => simp only [ha] at k
  | some ss =>
    simp only [ha] at k
    have hxs : xs = xs.toList.toArray := by simp
    cases d with
    | some d =>
      simp only at k
      cases hd : Nat.blt d nt
      · rw [hd] at k; exact k.elim
      · rw [hd] at k
        simp only [cond_true] at k
        have key : ∀ (st' : St) (h' : Hs) (G' : FG) (ss' : List SV) (own : Bool), Gd c st' tm h' ρ G' → argsT st'.ob st'.tm xs.toList = some ss' → ownA st'.tm xs.toList = own → needA st'.ob st'.tm (Cl P f ss' own fun s => K ((d, s) :: st'.tm) st'.ob) xs.toList → (∀ w, Hp h' w → Hp h w) →
            ∀ (a : Act) (w : World), Slt nt tm a → Hp h' w → Oper.wp P ⟨some d, .call ⟨.value (.func f), xs, ts⟩, ty, pos, af, gd⟩ a w (fun a w => ∃ tm' h', Slt nt tm' a ∧ Hp h' w ∧ Kk h c K tm' h') Q := by
          intro st' h' G' ss' own g' ha' ho' k' hkp' a w sl hw
          subst ho'
          obtain ⟨vs, a1, a2⟩ := call_out g' ha' k'
          obtain ⟨⟨fn, cd, f1, f2, f3⟩, -⟩ := a2 w hw
          rw [hxs]
          refine (OpS.call (P := P) (nt := nt) (Q := Q) (h := h') (fun v h2 => Kk h c K ((d, v) :: tm) h2) f1 f2 f3 a1 hd (fun w hw => (a2 w hw).2.mono ?_) fun _ _ hk => hk).out a w sl hw
          rintro e w' ⟨v, h2, rfl, hw2, s, G2, hk, hs, g2, hkp⟩
          exact ⟨v, h2, rfl, hw2, .of (fun w hw => hkp' w (hkp w hw)) (g2.put hs) hk⟩
        refine ⟨fun a w sl hw => ?_⟩
        cases ho : ownA st.tm xs.toList
        · simp only [ho] at k
          exact key st h G ss false g ha ho k (fun _ h => h) a w sl hw
        · simp only [ho] at k
          rcases k.out with k | k
          · exact key st h G ss true g ha ho k (fun _ h => h) a w sl hw
          · obtain ⟨st2, h2, G2, r1, r2, r3, r4⟩ := frAll_out g hw k
            split at r4
            · rename_i ss2 ha2
              split at r4
              · rename_i ho2
                exact key st2 h2 G2 ss2 false r1 ha2 ho2 r4 r3 a w sl r2
              · exact r4.elim
            · exact r4.elim
    | none =>
      simp only at k
      obtain ⟨vs, a1, a2⟩ := call_out g ha k
      refine ⟨fun a w sl hw => ?_⟩
      obtain ⟨⟨fn, cd, f1, f2, f3⟩, -⟩ := a2 w hw
      rw [hxs]
      refine (OpS.call0 (P := P) (nt := nt) (Q := Q) (h := h) (fun v h' => Kk h c K tm h') f1 f2 f3 a1 (fun w hw => (a2 w hw).2.mono ?_) fun _ _ hk => hk).out a w sl hw
      rintro e w' ⟨v, h', rfl, hw', s, G', hk, hs, g', hkp⟩
      exact ⟨v, h', rfl, hw', .of hkp g' hk⟩
end
end Go.Proofs.Ytgiebofmfkacgaa

/-
  The layer of trees: code; entering and leaving.
-/
namespace Go.Proofs.Ytgiebofmfkacgaa
open Go.RowKit

section
variable {P : Program} {T : List (Nat × Ty)} [hT : Tys P T] {nt : Nat} {Q : Exit → Act → World → Prop} {c : Cx} {st : St} {tm : List (Nat × Value)} {h : Hs} {ρ : Rho} {G : FG} {ty : TypeId} {pos : String} {af : Array Edge} {gd : Option (Nat × Bool)} {K : Kt}
/-- Operations that leave all that was there. -/
def keepT : Op → Bool
  | .alloc _ | .box _ _ | .buildSlice _ _ _ => true
  | .call ⟨.value (.func _), _, _⟩ => true
  | _ => false
theorem vcM_keep {op : Op} {d : Option Tmp} (ho : keepT op = true) (g : Gd c st tm h ρ G) (k : vcM P T nt true ⟨d, op, ty, pos, af, gd⟩ st.tm st.ob K) : OpS P nt Q ⟨d, op, ty, pos, af, gd⟩ tm h (Kk h c K) := by
  cases op with
  | alloc t => exact alloc_keep g k
  | box t x => exact box_keep (T := T) g k
  | buildSlice t n ps => exact buildSlice_keep g k
  | call cl =>
    obtain ⟨cal, xs, ts⟩ := cl
    cases cal with
    | builtin b => cases ho
    | value f =>
      cases f with
      | func f =>
        simp only [vcM] at k
        rcases k.out with k | k
        · exact call_A g k
        · exact k.out Q c tm h ρ G g
      | _ => cases ho
    | invoke r m => cases ho
  | _ => cases ho
theorem vcM_sound {op : Op} {d : Option Tmp} (g : Gd c st tm h ρ G) {kp : Bool} (k : vcM P T nt kp ⟨d, op, ty, pos, af, gd⟩ st.tm st.ob K) : OpS P nt Q ⟨d, op, ty, pos, af, gd⟩ tm h (Kd c K) := by
  cases op with
  | alloc t => exact (alloc_keep g k).mono fun _ _ h => h.kd
  | box t x => exact (box_keep (T := T) g k).mono fun _ _ h => h.kd
  | store t x y => exact store_sound g k
  | buildSlice t n ps => exact (buildSlice_keep g k).mono fun _ _ h => h.kd
  | call cl =>
    obtain ⟨cal, xs, ts⟩ := cl
    cases cal with
    | builtin b =>
      cases b with
      | append => exact append_sound g k
      | _ => exact Raw.out k Q c tm h ρ G g
    | value f =>
      cases f with
      | func f =>
        simp only [vcM] at k
        rcases k.out with k | k
        · exact (call_A g k).mono fun _ _ h => h.kd
        · cases kp
          · exact k.out Q c tm h ρ G g
          · exact (k.out Q c tm h ρ G g).mono fun _ _ h => h.kd
      | _ => exact Raw.out k Q c tm h ρ G g
    | invoke r m => exact Raw.out k Q c tm h ρ G g
  | _ => exact Raw.out k Q c tm h ρ G g
theorem vcOp_sound {o : Oper} (g : Gd c st tm h ρ G) (k : vcOp P T nt o st.tm st.ob K) : OpS P nt Q o tm h (Kd c K) := by
  obtain ⟨d, op, ty, pos, af, gd⟩ := o
  simp only [vcOp] at k
  cases hy : vcY P T op st.tm st.ob (fun s => putT nt d s st.tm st.ob K) with
  | none => simp only [hy] at k; exact vcM_sound g k
  | some p =>
    simp only [hy] at k
    obtain ⟨s, v, q1, q2, q3⟩ := vcY_sound g hy k (P := P) (nt := nt) (ty := ty) (pos := pos) (af := af) (gd := gd) (d := d)
    exact putT_sound g q1 q2 q3
theorem vcOpK_sound {kp : Bool} {o : Oper} (g : Gd c st tm h ρ G) (k : vcOpK P T nt kp o st.tm st.ob K) : OpS P nt Q o tm h (Kd c K) := by
  obtain ⟨d, op, ty, pos, af, gd⟩ := o
  simp only [vcOpK] at k
  cases hy : vcY P T op st.tm st.ob (fun s => putT nt d s st.tm st.ob K) with
  | none => simp only [hy] at k; exact vcM_sound g k
  | some p =>
    simp only [hy] at k
    obtain ⟨s, v, q1, q2, q3⟩ := vcY_sound g hy k (P := P) (nt := nt) (ty := ty) (pos := pos) (af := af) (gd := gd) (d := d)
    exact putT_sound g q1 q2 q3
theorem vcOpK_keep {op : Op} {d : Option Tmp} (ho : keepT op = true) (g : Gd c st tm h ρ G) (k : vcOpK P T nt true ⟨d, op, ty, pos, af, gd⟩ st.tm st.ob K) : OpS P nt Q ⟨d, op, ty, pos, af, gd⟩ tm h (Kk h c K) := by
  have hy : ∀ X, vcY P T op st.tm st.ob X = none := fun X => by
    cases op with
    | alloc t => simp [vcY, yT]
    | box t x => simp [vcY, yT]
    | buildSlice t n ps => simp [vcY, yT]
    | call cl =>
      obtain ⟨cal, xs, ts⟩ := cl
      cases cal with
      | builtin b => cases ho
      | value f => simp [vcY, yT]
      | invoke r m => cases ho
    | _ => cases ho
  simp only [vcOpK, hy] at k
  exact vcM_keep ho g k
theorem AWl.wk {ops : Array Oper} {l : List Oper} {h' : Hs} (hh : ∀ w, Hp h w → Hp h' w) (k : AWl P nt ops Q l tm h') : AWl P nt ops Q l tm h := ⟨fun a w ha hw => k.out a w ha (hh w hw)⟩
theorem AWl_of_Kd {ops : Array Oper} {l : List Oper} (hK : ∀ st tm h ρ G, Gd c st tm h ρ G → K st.tm st.ob → AWl P nt ops Q l tm h) : ∀ tm h, Kd c K tm h → AWl P nt ops Q l tm h :=
  fun _ _ ⟨_, _, _, _, hh, g, k⟩ => (hK _ _ _ _ _ g k).wk hh
theorem gdT_eq {ops : Array Oper} {j t : Nat} (h : gdT ops j = some t) : (ops[j]?).bind (·.dst) = some t := by
  unfold gdT at h
  rw [nth_eq] at h
  simp only [Array.getElem?_toList] at h
  cases ho : ops[j]? with
  | none => rw [ho] at h; cases h
  | some o => rw [ho] at h; simpa using h
theorem evT_undef (g : Gd c st tm h ρ G) {x : Operand} (hx : evT st.tm x = some (.t [])) : ev tm x = some undef := by
  obtain ⟨v, h1, h2⟩ := g.ev hx
  cases h2 with | @t _ vs hl _ =>
  have : vs = [] := List.eq_nil_of_length_eq_zero (by simpa using hl)
  subst this
  exact h1
omit hT in
theorem yielded_undef {ops : Array Oper} {j t : Nat} {a : Act} (ha : Slt nt tm a) (hj : (ops[j]?).bind (·.dst) = some t) (hb : lk t tm = some undef) : yielded ops a.tmps j = none := by
  simp [yielded, hj, ha.tm t _ hb, undef]
omit hT in
theorem AWl.stepU {ops : Array Oper} {d : Tmp} {op : Op} {rest : List Oper} {j t : Nat} {want : Bool} (hj : (ops[j]?).bind (·.dst) = some t) (hb : lk t tm = some undef) (hd : Nat.blt d nt = true) (k : AWl P nt ops Q rest ((d, undef) :: tm) h) : AWl P nt ops Q (⟨some d, op, ty, pos, af, some (j, want)⟩ :: rest) tm h :=
  ⟨fun a w ha hw' => wpList_step fun K hK => by
    have : ¬ Region.wanted ⟨some d, op, ty, pos, af, some (j, want)⟩ (yielded ops a.tmps) = true := by
      simp [Region.wanted, yielded_undef ha hj hb]
    rw [if_neg this]
    exact hK _ _ (k.out _ w (ha.put (by simpa using hd) _) hw')⟩
omit hT in
theorem AWl.stepU' {ops : Array Oper} {op : Op} {rest : List Oper} {j t : Nat} {want : Bool} (hj : (ops[j]?).bind (·.dst) = some t) (hb : lk t tm = some undef) (k : AWl P nt ops Q rest tm h) : AWl P nt ops Q (⟨none, op, ty, pos, af, some (j, want)⟩ :: rest) tm h :=
  ⟨fun a w ha hw' => wpList_step fun K hK => by
    have : ¬ Region.wanted ⟨none, op, ty, pos, af, some (j, want)⟩ (yielded ops a.tmps) = true := by
      simp [Region.wanted, yielded_undef ha hj hb]
    rw [if_neg this]
    exact hK _ _ (k.out _ w ha hw')⟩
theorem vcL_sound {ops : Array Oper} (hK : ∀ st tm h ρ G, Gd c st tm h ρ G → K st.tm st.ob → AWq nt Q .normal tm h) : ∀ (l : List Oper) (st : St) (tm : List (Nat × Value)) (h : Hs) (ρ : Rho) (G : FG), Gd c st tm h ρ G → vcL P T nt ops K l st.tm st.ob → AWl P nt ops Q l tm h
  | [], st, tm, h, ρ, G, g, k => .nil (hK st tm h ρ G g k)
  | ⟨d, op, ty, pos, af, gu⟩ :: r, st, tm, h, ρ, G, g, k => by
    have ih := vcL_sound (ops := ops) hK r
    simp only [vcL] at k
    cases gu with
    | none => exact AWl.step ((vcOp_sound g k).mono (AWl_of_Kd ih))
    | some p =>
      obtain ⟨j, want⟩ := p
      simp only at k
      cases hj : gdT ops j with
      | none => simp only [hj] at k
      | some t =>
        simp only [hj] at k
        split at k
        · rename_i b hb
          have eb := evT_bool g (x := .tmp t) hb
          have ej := gdT_eq hj
          have hskip : skipT nt d st.tm st.ob (vcL P T nt ops K r) → b = !want → AWl P nt ops Q (⟨d, op, ty, pos, af, some (j, want)⟩ :: r) tm h := fun hs hw => by
            cases d with
            | none => exact AWl.stepF' ej eb hw (ih _ _ _ _ _ g hs)
            | some d =>
              simp only [skipT] at hs
              cases hd : Nat.blt d nt
              · rw [hd] at hs; exact hs.elim
              · rw [hd] at hs
                exact AWl.stepF ej eb hw hd (ih _ _ _ _ _ (g.put (.t (vs := []) rfl (by simp))) hs)
          cases want
          · simp only at k
            cases b
            · exact AWl.stepT ej eb rfl ((vcOp_sound g (k.f rfl)).mono (AWl_of_Kd ih))
            · exact hskip (k.t rfl) rfl
          · simp only at k
            cases b
            · exact hskip (k.f rfl) rfl
            · exact AWl.stepT ej eb rfl ((vcOp_sound g (k.t rfl)).mono (AWl_of_Kd ih))
        · rename_i hb
          have eb := evT_undef g (x := .tmp t) hb
          have ej := gdT_eq hj
          cases d with
          | none => exact AWl.stepU' ej eb (ih _ _ _ _ _ g k)
          | some d =>
            simp only [skipT] at k
            cases hd : Nat.blt d nt
            · rw [hd] at k; exact k.elim
            · rw [hd] at k
              exact AWl.stepU ej eb hd (ih _ _ _ _ _ (g.put (.t (vs := []) rfl (by simp))) k)
        · exact k.elim
end
end Go.Proofs.Ytgiebofmfkacgaa

/-
  The layer of trees: a state seen as another one; code; leaving a function.
-/
namespace Go.Proofs.Ytgiebofmfkacgaa
open Go.RowKit

/-- Less is known of a block. -/
def Shr (x y : Nat × Hb) : Prop := y.1 = x.1 ∧ y.2.ty = x.2.ty ∧ y.2.tot = x.2.tot ∧ ∃ r, x.2.cs = y.2.cs ++ r
inductive ShL : List (Nat × Hb) → List (Nat × Hb) → Prop
  | nil : ShL [] []
  | cons {x y : Nat × Hb} {r s : List (Nat × Hb)} : Shr x y → ShL r s → ShL (x :: r) (y :: s)
theorem Shr.refl (x : Nat × Hb) : Shr x x := ⟨rfl, rfl, rfl, [], by simp⟩
theorem ShL.refl : ∀ l : List (Nat × Hb), ShL l l
  | [] => .nil
  | x :: r => .cons (.refl x) (ShL.refl r)
theorem ShL.append {a b c d : List (Nat × Hb)} (h : ShL a b) (h' : ShL c d) : ShL (a ++ c) (b ++ d) := by
  induction h with
  | nil => exact h'
  | cons h0 _ ih => exact .cons h0 ih
theorem ShL.fst {a b : List (Nat × Hb)} (h : ShL a b) : b.map Prod.fst = a.map Prod.fst := by
  induction h with
  | nil => rfl
  | cons h0 _ ih => simp [ih, h0.1]
theorem ShL.get {a b : List (Nat × Hb)} (h : ShL a b) : ∀ y ∈ b, ∃ x ∈ a, Shr x y := by
  induction h with
  | nil => intro y hy; cases hy
  | cons h0 _ ih =>
    intro y hy
    rcases List.mem_cons.1 hy with rfl | hy
    · exact ⟨_, List.mem_cons_self, h0⟩
    · obtain ⟨x, h1, h2⟩ := ih y hy; exact ⟨x, List.mem_cons_of_mem _ h1, h2⟩
theorem HasB.shr {w : World} {b : Nat} {x y : Hb} (h : HasB w b x) (s : Shr (b, x) (b, y)) : HasB w b y := by
  obtain ⟨junk, h1, h2⟩ := h
  obtain ⟨_, e1, e2, r, e3⟩ := s
  dsimp only at e1 e2 e3
  refine ⟨r ++ junk, by rw [h1, e3, e1, List.append_assoc], ?_⟩
  rw [e2, ← h2, e3]; simp [Nat.add_assoc]
theorem Hp.shl {F : Nat → Prop} {w0 w : World} {hp hp' : List (Nat × Hb)} (hw : Hp ⟨F, w0, hp⟩ w) (s : ShL hp hp') : Hp ⟨F, w0, hp'⟩ w :=
  ⟨hw.same, hw.inF, fun b y hy => by
    obtain ⟨⟨b', x⟩, h1, h2⟩ := s.get _ hy
    obtain rfl : b = b' := h2.1
    exact (hw.blk _ x h1).shr h2, by rw [s.fst]; exact hw.nd, fun b y hy => by
    obtain ⟨⟨b', x⟩, h1, h2⟩ := s.get _ hy
    obtain rfl : b = b' := h2.1
    exact hw.out _ x h1⟩
/-- Where an own object of the new state comes from: an object of the old one; a nil slice (rows of this size). -/
inductive So where
  | k (k : Nat)
  | n (sz : Nat)
abbrev Src := List (Nat × So)
inductive LeN (src : Src) : List Nat → List Nat → Prop
  | nil : LeN src [] []
  | cons {k K : Nat} {r R : List Nat} : lk K src = some (.k k) → LeN src r R → LeN src (k :: r) (K :: R)
inductive LeD (src : Src) : D → D → Prop
  | u {x y : V} : x = y → LeD src (.u x) (.u y)
  | no {K sz n : Nat} : lk K src = some (.n sz) → n = 0 → LeD src (.u .nl) (.ow K n)
  | nl {sz : Nat} {rs : List (List V)} : rs = [] → LeD src (.u .nl) (.u (.sl sz rs))
  | ow {k K n m : Nat} : lk K src = some (.k k) → n = m → LeD src (.ow k n) (.ow K m)
  | p {k K o : Nat} : lk K src = some (.k k) → LeD src (.p k o) (.p K o)
  | e {k K i j o : Nat} : lk K src = some (.k k) → i = j → LeD src (.e k i o) (.e K j o)
  | q {cs ds : List V} {o : Nat} : cs = ds → LeD src (.q cs o) (.q ds o)
  | fn {f : FuncId} {ks Ks : List Nat} : LeN src ks Ks → LeD src (.fn f ks) (.fn f Ks)
  | mp {k K : Nat} : lk K src = some (.k k) → LeD src (.mp k) (.mp K)
  | r {k i o sz n m : Nat} : n = m → LeD src (.r k i o sz n) (.r k i o sz m)
  | ows {k K off off' n n' : Nat} : lk K src = some (.k k) → off = off' → n = n' → LeD src (.ows k off n) (.ows K off' n')
  | any {x : D} : x = .any → LeD src x .any
  | re {k i o j f : Nat} : LeD src (.re k i o j f) (.re k i o j f)
inductive LeL (src : Src) : List D → List D → Prop
  | nil : LeL src [] []
  | cons {x y : D} {r s : List D} : LeD src x y → LeL src r s → LeL src (x :: r) (y :: s)
inductive LeC (src : Src) : SC → SC → Prop
  | d {x y : D} : LeD src x y → LeC src (.d x) (.d y)
  | a {xs ys : List D} : LeL src xs ys → LeC src (.a xs) (.a ys)
inductive LeCs (src : Src) : List SC → List SC → Prop
  | nil : LeCs src [] []
  | cons {x y : SC} {r s : List SC} : LeC src x y → LeCs src r s → LeCs src (x :: r) (y :: s)
inductive LeS (src : Src) : SV → SV → Prop
  | ts {vs ws : List SC} : LeCs src vs ws → LeS src (.t vs) (.t ws)
  | d {x y : D} : LeD src x y → LeS src (.d x) (.d y)
  | a {xs ys : List D} : LeL src xs ys → LeS src (.a xs) (.a ys)
  | t {vs ws : List SC} : pureC vs = true → vs = ws → LeS src (.t vs) (.t ws)
inductive LeT (src : Src) (tm : List (Nat × SV)) : List (Nat × SV) → Prop
  | nil : LeT src tm []
  | cons {k : Nat} {s t : SV} {r : List (Nat × SV)} : lk k tm = some s → LeS src s t → LeT src tm r → LeT src tm ((k, t) :: r)
inductive LeO (src : Src) : List (Nat × Ob) → List (Nat × Ob) → Prop
  | nil {ob : List (Nat × Ob)} : LeO src ob []
  | bx {k K : Nat} {t : TypeId} {cs ds : List D} {ob r : List (Nat × Ob)} : lk K src = some (.k k) → lk k ob = some (.bx t cs) → LeL src cs ds → LeO src (obr k ob) r → LeO src ob ((K, .bx t ds) :: r)
  | ar {k K : Nat} {t : TypeId} {sz : Nat} {rs ss : List (List V)} {ob r : List (Nat × Ob)} : lk K src = some (.k k) → lk k ob = some (.ar t sz rs) → rs = ss → LeO src (obr k ob) r → LeO src ob ((K, .ar t sz ss) :: r)
  | fm {k : Nat} {t : TypeId} {rs ss : List (List E)} {ob r : List (Nat × Ob)} : lk k ob = some (.fm t rs) → rs = ss → LeO src (obr k ob) r → LeO src ob ((k, .fm t ss) :: r)
  | tr {k K m : Nat} {t : TypeId} {sz : Nat} {rs ss : List (List V)} {ob r : List (Nat × Ob)} : lk K src = some (.k k) → lk k ob = some (.ar t sz rs) → m ≤ rs.length → rs.take m = ss → LeO src (obr k ob) r → LeO src ob ((K, .ar t sz ss) :: r)
  | no {K : Nat} {t : TypeId} {sz : Nat} {ss : List (List V)} {ob r : List (Nat × Ob)} : lk K src = some (.n sz) → ss = [] → LeO src ob r → LeO src ob ((K, .ar t sz ss) :: r)
structure LeSt (src : Src) (st S : St) : Prop where
  tm : LeT src st.tm S.tm
  ob : LeO src st.ob S.ob
section
variable {src : Src} {ρ : Rho} {z : Fz}
def srcR (src : Src) (ρ : Rho) : Rho := ⟨fun K => match lk K src with
  | some (.k k) => ρ k
  | some (.n sz) => some ⟨none, 0, sz⟩
  | none => none, ρ.os⟩
theorem srcR_k {k K : Nat} (h : lk K src = some (.k k)) : srcR src ρ K = ρ k := by simp [srcR, h]
theorem srcR_n {sz K : Nat} (h : lk K src = some (.n sz)) : srcR src ρ K = some ⟨none, 0, sz⟩ := by simp [srcR, h]
theorem LeN.len {ks Ks : List Nat} (h : LeN src ks Ks) : ks.length = Ks.length := by
  induction h with
  | nil => rfl
  | cons _ _ ih => simp [ih]
theorem LeN.get {ks Ks : List Nat} (h : LeN src ks Ks) : ∀ (j : Nat) K, Ks[j]? = some K → ∃ k, ks[j]? = some k ∧ lk K src = some (.k k) := by
  induction h with
  | nil => intro j K h; simp at h
  | cons h0 _ ih =>
    intro j K hj
    cases j with
    | zero => simp at hj; subst hj; exact ⟨_, rfl, h0⟩
    | succ j => exact ih j K (by simpa using hj)
theorem LeD.den {d d' : D} {v : Value} (l : LeD src d d') (h : Den ρ z d v) : Den (srcR src ρ) z d' v := by
  cases l with
  | u e => subst e; cases h with | u h => exact .u h
  | no h0 e =>
    subst e
    cases h with | u h => cases h with | nl => exact .ow (l := ⟨none, 0, _⟩) (srcR_n h0) (fun _ => rfl) (Nat.le_refl _)
  | nl e =>
    subst e
    cases h with | u h => cases h with | nl => exact .u (.sl (b := 0) (o := 0) [] rfl (Nat.le_refl _) (Nat.zero_le _) (by simp) (fun h => absurd rfl h) (by simp) (fun j u h => by simp at h) rfl (fun j d u h => by simp at h))
  | ow h0 e => subst e; cases h with | ow h hA hc => exact .ow (by rw [srcR_k h0]; exact h) hA hc
  | p h0 => cases h with | p h => exact .p (by rw [srcR_k h0]; exact h)
  | e h0 e => subst e; cases h with | e h => exact .e (by rw [srcR_k h0]; exact h)
  | q e => subst e; cases h with | q hb hu hd => exact .q hb hu hd
  | fn hk =>
    cases h with | fn us hl hd =>
    refine .fn us (by rw [hl, hk.len]) fun j K u h1 h2 => ?_
    obtain ⟨k, h3, h4⟩ := hk.get j K h1
    obtain ⟨b, c, sz, h5, h6⟩ := hd j k u h3 h2
    exact ⟨b, c, sz, by rw [srcR_k h4]; exact h5, h6⟩
  | mp h0 => cases h with | mp h hA => exact .mp (by rw [srcR_k h0]; exact h) hA
  | r e => subst e; cases h with | r h hA hc hm => exact .r h hA hc hm
  | re => cases h with | re h => exact .re h
  | ows h0 e1 e2 => subst e1 e2; cases h with | ows h hc => exact .ows (by rw [srcR_k h0]; exact h) hc
  | any e => subst e; cases h with | any h1 => exact .any h1
theorem LeL.len {xs ys : List D} (l : LeL src xs ys) : xs.length = ys.length := by
  induction l with
  | nil => rfl
  | cons _ _ ih => simp [ih]
theorem LeL.get {xs ys : List D} (l : LeL src xs ys) : ∀ (j : Nat) y, ys[j]? = some y → ∃ x, xs[j]? = some x ∧ LeD src x y := by
  induction l with
  | nil => intro j K h; simp at h
  | cons h0 _ ih =>
    intro j K hj
    cases j with
    | zero => simp at hj; subst hj; exact ⟨_, rfl, h0⟩
    | succ j => exact ih j K (by simpa using hj)
theorem LeL.den {xs ys : List D} {us : List Value} (l : LeL src xs ys) (h : DenL ρ z xs us) : DenL (srcR src ρ) z ys us := ⟨by rw [h.len, l.len], h.one, fun j d u h1 h2 => by
  obtain ⟨x, h3, h4⟩ := l.get j d h1
  exact h4.den (h.den j x u h3 h2)⟩
theorem LeCs.get {xs ys : List SC} (l : LeCs src xs ys) : xs.length = ys.length ∧ ∀ (j : Nat) y, ys[j]? = some y → ∃ x, xs[j]? = some x ∧ LeC src x y := by
  induction l with
  | nil => exact ⟨rfl, fun j K h => by simp at h⟩
  | cons h0 _ ih =>
    refine ⟨by simp [ih.1], fun j K hj => ?_⟩
    cases j with
    | zero => simp at hj; subst hj; exact ⟨_, rfl, h0⟩
    | succ j => exact ih.2 j K (by simpa using hj)
theorem LeC.den {x y : SC} {v : Value} (l : LeC src x y) (h : DenC ρ z x v) : DenC (srcR src ρ) z y v := by
  cases l with
  | d l => cases h with | d h => exact .d (l.den h)
  | a l => cases h with | a h => exact .a (l.den h)
theorem LeS.den {s s' : SV} {v : Value} (l : LeS src s s') (h : DenS ρ z s v) : DenS (srcR src ρ) z s' v := by
  cases l with
  | d l => cases h with | d h => exact .d (l.den h)
  | a l => cases h with | a h => exact .a (l.den h)
  | t hp e => subst e; exact h.pure hp
  | ts l =>
    cases h with | t hl hd =>
    obtain ⟨e1, e2⟩ := l.get
    refine .t (by rw [hl, e1]) fun j s v h1 h2 => ?_
    obtain ⟨x, h3, h4⟩ := e2 j s h1
    exact h4.den (hd j x v h3 h2)
theorem LeT.den {tm tm' : List (Nat × SV)} (l : LeT src tm tm') : ∀ k s, lk k tm' = some s → ∃ s0, lk k tm = some s0 ∧ LeS src s0 s := by
  induction l with
  | nil => intro k s h; simp [lk] at h
  | @cons j s t r h0 h1 _ ih =>
    intro k u hk
    simp only [lk] at hk
    cases hb : Nat.beq k j
    · rw [hb] at hk; exact ih k u hk
    · rw [hb] at hk
      simp only [cond_true, Option.some.injEq] at hk
      subst hk
      rw [Nat.eq_of_beq_eq_true hb]
      exact ⟨s, h0, h1⟩
theorem LeO.den {ob S : List (Nat × Ob)} (l : LeO src ob S) : ∀ {hp : List (Nat × Hb)}, ObsOk ρ z ob hp → ∃ hp' l rest, ObsOk (srcR src ρ) z S hp' ∧ hp.Perm (l ++ rest) ∧ ShL l hp' := by
  induction l with
  | nil => intro hp h; exact ⟨[], [], hp, rfl, .refl _, .nil⟩
  | @bx k K t cs ds ob r h0 h1 h2 _ ih =>
    intro hp h
    obtain ⟨X, f, ⟨b, us, rfl, g2, g3⟩, g4, _, g6⟩ := h.set h1
    obtain ⟨hp', l, rest, i1, i2, i3⟩ := ih g6
    refine ⟨[(b, ⟨t, us, cs.length⟩)] ++ hp', [(b, ⟨t, us, cs.length⟩)] ++ l, rest, ⟨_, hp', rfl, ⟨b, us, by rw [h2.len], by rw [srcR_k h0, ← h2.len]; exact g2, h2.den g3⟩, i1⟩, ?_, (ShL.refl _).append i3⟩
    have := g4.perm [(b, ⟨t, us, cs.length⟩)]
    rw [g4.eq] at this
    rw [List.append_assoc]
    exact this.trans (i2.append_left _)
  | @ar k K t sz rs ss ob r h0 h1 h2 _ ih =>
    intro hp h
    subst h2
    obtain ⟨X, f, ⟨A, c, us, rfl, g2, g3⟩, g4, _, g6⟩ := h.set h1
    obtain ⟨hp', l, rest, i1, i2, i3⟩ := ih g6
    refine ⟨hbA A t us c sz ++ hp', hbA A t us c sz ++ l, rest, ⟨_, hp', rfl, ⟨A, c, us, rfl, by rw [srcR_k h0]; exact g2, g3⟩, i1⟩, ?_, (ShL.refl _).append i3⟩
    have := g4.perm (hbA A t us c sz)
    rw [g4.eq] at this
    rw [List.append_assoc]
    exact this.trans (i2.append_left _)
  | @fm k t rs ss ob r h1 h2 _ ih =>
    intro hp h
    subst h2
    obtain ⟨X, f, ⟨g2, g3⟩, g4, _, g6⟩ := h.set h1
    obtain ⟨hp', l, rest, i1, i2, i3⟩ := ih g6
    refine ⟨X ++ hp', X ++ l, rest, ⟨_, hp', rfl, ⟨g2.congr fun _ _ => rfl, g3⟩, i1⟩, ?_, (ShL.refl _).append i3⟩
    have := g4.perm X
    rw [g4.eq] at this
    rw [List.append_assoc]
    exact this.trans (i2.append_left _)
  | @tr k K m t sz rs ss ob r h0 h1 hm h2 _ ih =>
    intro hp h
    subst h2
    obtain ⟨X, f, ⟨A, c, us, rfl, g2, g3, g3', g3''⟩, g4, _, g6⟩ := h.set h1
    obtain ⟨hp', l, rest, i1, i2, i3⟩ := ih g6
    have hlen : (rs.take m).length = m := by rw [List.length_take, Nat.min_eq_left hm]
    have hfl : (rs.take m).flatten = rs.flatten.take (m * sz) := by
      conv => rhs; rw [← List.take_append_drop m rs, List.flatten_append]
      rw [List.take_left' (by rw [flat_len (sz := sz) (fun r h => g3'' r (List.mem_of_mem_take h)), hlen])]
    have hul : m * sz ≤ us.length := by rw [g3.len]; exact Nat.mul_le_mul_right _ hm
    have hok : OkA A (us.take (m * sz)) (rs.take m).length c sz := by
      rw [hlen]
      refine ⟨?_, by rw [List.length_take, Nat.min_eq_left hul], Nat.le_trans hm g3.cap, g3.max⟩
      rcases g3.form with ⟨e1, e2, e3⟩ | e
      · exact .inl ⟨e1, by omega, e3⟩
      · exact .inr e
    have hden : DenVL z (rs.take m).flatten (us.take (m * sz)) := by
      rw [hfl]
      refine ⟨by rw [List.length_take, List.length_take, g3'.len], by rw [List.all_eq_true]; intro x hx; exact List.all_eq_true.1 g3'.one x (List.mem_of_mem_take hx), fun j d u e1 e2 => ?_⟩
      have hj : j < m * sz := by have := (List.getElem?_eq_some_iff.1 e1).1; simp at this; omega
      rw [List.getElem?_take_of_lt hj] at e1 e2
      exact g3'.den j d u e1 e2
    refine ⟨hbA A t (us.take (m * sz)) c sz ++ hp', hbA A t us c sz ++ l, rest, ⟨_, hp', rfl, ⟨A, c, _, rfl, by rw [srcR_k h0]; exact g2, hok, hden, fun r hr => g3'' r (List.mem_of_mem_take hr)⟩, i1⟩, ?_, ShL.append ?_ i3⟩
    · have := g4.perm (hbA A t us c sz)
      rw [g4.eq] at this
      rw [List.append_assoc]
      exact this.trans (i2.append_left _)
    · rcases A with _ | a
      · exact .nil
      · exact .cons ⟨rfl, rfl, rfl, us.drop (m * sz), by simp⟩ .nil
  | @no K t sz ss ob r h0 h1 _ ih =>
    intro hp h
    subst h1
    obtain ⟨hp', l, rest, i1, i2, i3⟩ := ih h
    exact ⟨hp', l, rest, ⟨[], hp', rfl, ⟨none, 0, [], rfl, srcR_n h0, OkA.nil sz, .nil, by simp⟩, i1⟩, i2, i3⟩
theorem Gd.leF {c : Cx} {st S : St} {tm : List (Nat × Value)} {F : Nat → Prop} {w0 : World} {hp : List (Nat × Hb)} {G : FG} (g : Gd c st tm ⟨F, w0, hp⟩ ρ G) (l : LeSt src st S) : ∃ hp', (∀ w, Hp ⟨F, w0, hp⟩ w → Hp ⟨F, w0, hp'⟩ w) ∧ Gd c S tm ⟨F, w0, hp'⟩ (srcR src ρ) G := by
  obtain ⟨hp', l', rest, i1, i2, i3⟩ := l.ob.den g.ob
  refine ⟨hp', fun w hw => ((hw.perm i2).sub (List.sublist_append_left _ _)).shl i3, g.fF, g.fw, g.gF, g.gx, g.fm, fun k s hk => ?_, i1⟩
  obtain ⟨s0, h1, h2⟩ := l.tm.den k s hk
  obtain ⟨v, h3, h4⟩ := g.tm k s0 h1
  exact ⟨v, h3, h2.den h4⟩
theorem Gd.le {c : Cx} {st S : St} {tm : List (Nat × Value)} {h : Hs} {G : FG} (g : Gd c st tm h ρ G) (l : LeSt src st S) : ∃ h', (∀ w, Hp h w → Hp h' w) ∧ Gd c S tm h' (srcR src ρ) G := by
  obtain ⟨F, w0, hp⟩ := h
  obtain ⟨hp', h1, h2⟩ := g.leF l
  exact ⟨_, h1, h2⟩
end
/-- A region that draws its order. -/
structure Drw (P : Program) (nt : Nat) (i : Nat) (ops : Array Oper) (K : Kt) (tmT : List (Nat × SV)) (ob : List (Nat × Ob)) : Prop where
  out : ∀ (c : Cx) (tm : List (Nat × Value)) (h : Hs) (ρ : Rho) (G : FG), Gd c ⟨tmT, ob⟩ tm h ρ G → ∀ (Q : Exit → Act → World → Prop) [PanicOk Q], (∀ st tm h ρ G, Gd c st tm h ρ G → K st.tm st.ob → AWq nt Q .normal tm h) → AWc P nt Q (.region i ops true) tm h
/-- The same memory, seen otherwise. -/
structure Ghost (tmT : List (Nat × SV)) (ob : List (Nat × Ob)) (tmT' : List (Nat × SV)) (ob' : List (Nat × Ob)) : Prop where
  out : ∀ (c : Cx) (tm : List (Nat × Value)) (h : Hs) (ρ : Rho) (G : FG) (w : World), Gd c ⟨tmT, ob⟩ tm h ρ G → Hp h w → ∃ h' ρ' G', Gd c ⟨tmT', ob'⟩ tm h' ρ' G' ∧ Hp h' w
theorem Ghost.refl {tmT : List (Nat × SV)} {ob : List (Nat × Ob)} : Ghost tmT ob tmT ob := ⟨fun _ _ h ρ G _ g hw => ⟨h, ρ, G, g, hw⟩⟩
theorem Ghost.trans {a c e : List (Nat × SV)} {b d f : List (Nat × Ob)} (g : Ghost a b c d) (g' : Ghost c d e f) : Ghost a b e f := ⟨fun c tm h ρ G w k hw => by
  obtain ⟨h1, ρ1, G1, k1, hw1⟩ := g.out c tm h ρ G w k hw
  exact g'.out c tm h1 ρ1 G1 w k1 hw1⟩
/-- Ahead of the region i. -/
structure Gs (i : Nat) (X : Kt) (tm : List (Nat × SV)) (ob : List (Nat × Ob)) : Prop where
  out : ∃ tm' ob', Ghost tm ob tm' ob' ∧ X tm' ob'
theorem Gs.id {i : Nat} {X : Kt} {tm : List (Nat × SV)} {ob : List (Nat × Ob)} (k : X tm ob) : Gs i X tm ob := ⟨tm, ob, .refl, k⟩
theorem Gs.go {i : Nat} {X : Kt} {tm tm' : List (Nat × SV)} {ob ob' : List (Nat × Ob)} (g : Ghost tm ob tm' ob') (k : X tm' ob') : Gs i X tm ob := ⟨tm', ob', g, k⟩
theorem Drw.ghost {P : Program} {nt i : Nat} {ops : Array Oper} {K : Kt} {tm tm' : List (Nat × SV)} {ob ob' : List (Nat × Ob)} (g : Ghost tm ob tm' ob') (k : Drw P nt i ops K tm' ob') : Drw P nt i ops K tm ob := ⟨fun c tmv h ρ G gd Q _ hK => ⟨fun a w ha hw => by
  obtain ⟨h1, ρ1, G1, k1, hw1⟩ := g.out c tmv h ρ G w gd hw
  exact (k.out c tmv h1 ρ1 G1 k1 Q hK).out a w ha hw1⟩⟩
/-- A loop. -/
structure Lp (body : Kt → Kt) (tm : List (Nat × SV)) (ob : List (Nat × Ob)) : Prop where
  out : ∃ (ι : Type) (Φ : ι → Prop) (m : ι → Nat) (S : ι → St) (x0 : ι), Φ x0 ∧ (∃ src, LeSt src ⟨tm, ob⟩ (S x0)) ∧ ∀ x, Φ x → body (fun tm ob => ∃ y, Φ y ∧ m y < m x ∧ ∃ src, LeSt src ⟨tm, ob⟩ (S y)) (S x).tm (S x).ob
/-- A nil slice is a slice without elements. -/
inductive NlV : V → V → Prop
  | refl {x : V} : NlV x x
  | nl {sz : Nat} {rs : List (List V)} : rs = [] → NlV .nl (.sl sz rs)
inductive NlD : D → D → Prop
  | refl {x : D} : NlD x x
  | u {x y : V} : NlV x y → NlD (.u x) (.u y)
inductive NlL : List D → List D → Prop
  | nil : NlL [] []
  | cons {x y : D} {r s : List D} : NlD x y → NlL r s → NlL (x :: r) (y :: s)
inductive NlC : SC → SC → Prop
  | d {x y : D} : NlD x y → NlC (.d x) (.d y)
  | a {xs ys : List D} : NlL xs ys → NlC (.a xs) (.a ys)
inductive NlCs : List SC → List SC → Prop
  | nil : NlCs [] []
  | cons {x y : SC} {r s : List SC} : NlC x y → NlCs r s → NlCs (x :: r) (y :: s)
inductive NlS : SV → SV → Prop
  | refl {s : SV} : NlS s s
  | d {x y : D} : NlD x y → NlS (.d x) (.d y)
  | a {xs ys : List D} : NlL xs ys → NlS (.a xs) (.a ys)
  | t {xs ys : List SC} : NlCs xs ys → NlS (.t xs) (.t ys)
inductive NlSs : List SV → List SV → Prop
  | nil : NlSs [] []
  | cons {x y : SV} {r s : List SV} : NlS x y → NlSs r s → NlSs (x :: r) (y :: s)
section
variable {ρ : Rho} {z : Fz}
theorem NlV.den {x y : V} {v : Value} (l : NlV x y) (h : DenV z x v) : DenV z y v := by
  cases l with
  | refl => exact h
  | nl e =>
    subst e
    cases h with | nl => exact .sl (b := 0) (o := 0) [] rfl (Nat.le_refl _) (Nat.zero_le _) (by simp) (fun h => absurd rfl h) (by simp) (fun j u h => by simp at h) rfl (fun j d u h => by simp at h)
theorem NlD.den {x y : D} {v : Value} (l : NlD x y) (h : Den ρ z x v) : Den ρ z y v := by
  cases l with
  | refl => exact h
  | u l => cases h with | u h => exact .u (l.den h)
theorem NlL.den {xs ys : List D} (l : NlL xs ys) : ∀ {us : List Value}, DenL ρ z xs us → DenL ρ z ys us := by
  induction l with
  | nil => intro us h; exact h
  | cons l0 _ ih =>
    intro us h
    have hl := h.len
    cases us with
    | nil => simp at hl
    | cons u us => exact (ih ⟨by simpa using hl, by have := h.one; simp at this; simpa using this.2, fun j d v e1 e2 => h.den (j + 1) d v (by simpa using e1) (by simpa using e2)⟩).cons (l0.den (h.den 0 _ u rfl rfl))
theorem NlC.den {x y : SC} {v : Value} (l : NlC x y) (h : DenC ρ z x v) : DenC ρ z y v := by
  cases l with
  | d l => cases h with | d h => exact .d (l.den h)
  | a l => cases h with | a h => exact .a (l.den h)
theorem NlCs.get {xs ys : List SC} (l : NlCs xs ys) : xs.length = ys.length ∧ ∀ (j : Nat) y, ys[j]? = some y → ∃ x, xs[j]? = some x ∧ NlC x y := by
  induction l with
  | nil => exact ⟨rfl, fun j y h => by simp at h⟩
  | cons l0 _ ih =>
    refine ⟨by simp [ih.1], fun j y h => ?_⟩
    cases j with
    | zero => simp at h; subst h; exact ⟨_, rfl, l0⟩
    | succ j => exact ih.2 j y (by simpa using h)
theorem NlS.den {x y : SV} {v : Value} (l : NlS x y) (h : DenS ρ z x v) : DenS ρ z y v := by
  cases l with
  | refl => exact h
  | d l => cases h with | d h => exact .d (l.den h)
  | a l => cases h with | a h => exact .a (l.den h)
  | t l =>
    cases h with | t hl hd =>
    refine .t (by rw [hl, l.get.1]) fun j s v h1 h2 => ?_
    obtain ⟨x, h3, h4⟩ := l.get.2 j s h1
    exact h4.den (hd j x v h3 h2)
theorem NlSs.get {xs ys : List SV} (l : NlSs xs ys) : xs.length = ys.length ∧ ∀ (j : Nat) y, ys[j]? = some y → ∃ x, xs[j]? = some x ∧ NlS x y := by
  induction l with
  | nil => exact ⟨rfl, fun j y h => by simp at h⟩
  | cons l0 _ ih =>
    refine ⟨by simp [ih.1], fun j y h => ?_⟩
    cases j with
    | zero => simp at h; subst h; exact ⟨_, rfl, l0⟩
    | succ j => exact ih.2 j y (by simpa using h)
end
/-- Leaving. -/
structure Ret (Q : SV → List (Nat × Ob) → Prop) (s : SV) : Prop where
  out : ∃ s', NlS s s' ∧ Q s' []
section
variable (P : Program) (T : List (Nat × Ty)) (nt : Nat)
/-- Code: Kn: behind it; Ke: at an exit; Kr: at a return. -/
def vcC (Kr : Kt) : Code → Kt → (Nat → Kt) → Kt
  | .skip, Kn, _, tm, ob => Kn tm ob
  | .label _, Kn, _, tm, ob => Kn tm ob
  | .region i ops draw, Kn, _, tm, ob => match draw with
    | true => Drw P nt i ops Kn tm ob
    | false => Gs i (vcL P T nt ops Kn ops.toList) tm ob
  | .seq a b, Kn, Ke, tm, ob => vcC Kr a (vcC Kr b Kn Ke) Ke tm ob
  | .cond c x y, Kn, Ke, tm, ob => match evT tm c with
    | some (.d (.u (.bool b))) => Brn b (vcC Kr x Kn Ke tm ob) (vcC Kr y Kn Ke tm ob)
    | _ => False
  | .block i c, Kn, Ke, tm, ob => vcC Kr c Kn (fun j tm ob => bif Nat.beq j i then Kn tm ob else Ke j tm ob) tm ob
  | .loop c, _, Ke, tm, ob => Lp (fun Kn => vcC Kr c Kn Ke) tm ob
  | .exit i, _, Ke, tm, ob => Ke i tm ob
  | .ret, _, _, tm, ob => Gs 1000 Kr tm ob
  | _, _, _, _, _ => False
/-- The values of results. -/
def resT (tm : List (Nat × SV)) (ob : List (Nat × Ob)) : ResultVar → Option SV
  | .tmp t => lk t tm
  | .cell c t => yT T tm ob (.load t (.tmp c))
def resLT (tm : List (Nat × SV)) (ob : List (Nat × Ob)) : List ResultVar → Option (List SV)
  | [] => some []
  | r :: l => match resT T tm ob r with
    | none => none
    | some s => match resLT tm ob l with
      | none => none
      | some vs => some (s :: vs)
def frzL (ob : List (Nat × Ob)) : List SV → Option (List SC)
  | [] => some []
  | s :: r => match borS ob s with
    | some (.d x) => match frzL ob r with
      | some l => some (.d x :: l)
      | none => none
    | some (.a xs) => match frzL ob r with
      | some l => some (.a xs :: l)
      | none => none
    | _ => none
def needR (ob : List (Nat × Ob)) (X : Prop) : List SV → Prop
  | [] => X
  | s :: r => needS ob (needR ob X r) s
def tupT : List SC → SV
  | [x] => x.up
  | l => .t l
def RetK (rs : List ResultVar) (Q : SV → List (Nat × Ob) → Prop) : Kt := fun tm ob => match resLT T tm ob rs with
  | none => False
  | some ss => match frzL ob ss with
    | none => False
    | some l => needR ob (Ret Q (tupT l)) ss
end
end Go.Proofs.Ytgiebofmfkacgaa

/-
  The layer of trees: code is sound; a contract by its code.
-/
namespace Go.Proofs.Ytgiebofmfkacgaa
open Go.RowKit

section
variable {P : Program} {T : List (Nat × Ty)} [hT : Tys P T] {nt : Nat} {c : Cx} {st : St} {tm : List (Nat × Value)} {h : Hs} {ρ : Rho} {G : FG}
theorem subT_refl (tm : List (Nat × Value)) : ∃ tm', SubT tm tm' ∧ ∀ k v, lk k tm = some v → lk k tm' = some v := by
  suffices ∀ l : List (Nat × Value), ∃ l', SubT tm l' ∧ ∀ k v, lk k l = some v → lk k tm = some v → lk k l' = some v by
    obtain ⟨l', h1, h2⟩ := this tm
    exact ⟨l', h1, fun k v h => h2 k v h h⟩
  intro l
  induction l with
  | nil => exact ⟨[], .nil, fun k v h => by simp [lk] at h⟩
  | cons p r ih =>
    obtain ⟨l', h1, h2⟩ := ih
    obtain ⟨j, u⟩ := p
    cases hj : lk j tm with
    | none =>
      refine ⟨l', h1, fun k v hk hk' => ?_⟩
      simp only [lk] at hk
      cases hb : Nat.beq k j
      · rw [hb] at hk; exact h2 k v hk hk'
      · rw [Nat.eq_of_beq_eq_true hb, hj] at hk'; cases hk'
    | some v0 =>
      refine ⟨(j, v0) :: l', .cons hj h1, fun k v hk hk' => ?_⟩
      simp only [lk] at hk ⊢
      cases hb : Nat.beq k j
      · rw [hb] at hk; exact h2 k v hk hk'
      · rw [Nat.eq_of_beq_eq_true hb, hj] at hk'
        simpa using hk'
theorem AWc.wk {Q : Exit → Act → World → Prop} {cd : Code} {h' : Hs} (hh : ∀ w, Hp h w → Hp h' w) (k : AWc P nt Q cd tm h') : AWc P nt Q cd tm h := ⟨fun a w ha hw => k.out a w ha (hh w hw)⟩
theorem AWq.wk {Q : Exit → Act → World → Prop} {e : Exit} {h' : Hs} (hh : ∀ w, Hp h w → Hp h' w) (k : AWq nt Q e tm h') : AWq nt Q e tm h := ⟨fun a w ha hw => k.out a w ha (hh w hw)⟩
theorem vcC_sound {Kr : Kt} : ∀ (cd : Code) (Kn : Kt) (Ke : Nat → Kt) (st : St) (tm : List (Nat × Value)) (h : Hs) (ρ : Rho) (G : FG) (Q : Exit → Act → World → Prop) [PanicOk Q],
    (∀ st tm h ρ G, Gd c st tm h ρ G → Kn st.tm st.ob → AWq nt Q .normal tm h) → (∀ i st tm h ρ G, Gd c st tm h ρ G → Ke i st.tm st.ob → AWq nt Q (.exit i) tm h) → (∀ st tm h ρ G, Gd c st tm h ρ G → Kr st.tm st.ob → AWq nt Q .ret tm h) →
    Gd c st tm h ρ G → vcC P T nt Kr cd Kn Ke st.tm st.ob → AWc P nt Q cd tm h
  | .skip, Kn, Ke, st, tm, h, ρ, G, Q, _, hn, he, hr, g, k => .skip (hn _ _ _ _ _ g k)
  | .label _, Kn, Ke, st, tm, h, ρ, G, Q, _, hn, he, hr, g, k => .label (hn _ _ _ _ _ g k)
  | .region i ops draw, Kn, Ke, st, tm, h, ρ, G, Q, _, hn, he, hr, g, k => by
    cases draw with
    | true => exact k.out c tm h ρ G g Q hn
    | false =>
      obtain ⟨tm', ob', gh, k⟩ := k.out
      refine ⟨fun a w ha hw => ?_⟩
      obtain ⟨h', ρ', G', g', hw'⟩ := gh.out c tm h ρ G w g hw
      have := AWc.region (P := P) (nt := nt) (Q := Q) (i := i) (l := ops.toList) (tm := tm) (h := h') (by simpa using vcL_sound hn ops.toList ⟨tm', ob'⟩ tm h' ρ' G' g' k)
      exact (show AWc P nt Q (.region i ops false) tm h' by simpa using this).out a w ha hw'
  | .seq a b, Kn, Ke, st, tm, h, ρ, G, Q, _, hn, he, hr, g, k => by
    refine AWc.seq (vcC_sound a _ Ke st tm h ρ G _ (fun st tm h ρ G g k => ?_) (fun i st tm h ρ G g k => AWq.pass_exit (he i st tm h ρ G g k)) (fun st tm h ρ G g k => AWq.pass_ret (hr st tm h ρ G g k)) g k)
    exact AWq.then_ (vcC_sound b Kn Ke st tm h ρ G Q hn he hr g k)
  | .cond cn x y, Kn, Ke, st, tm, h, ρ, G, Q, _, hn, he, hr, g, k => by
    simp only [vcC] at k
    split at k
    · rename_i b hc
      exact AWc.cond (evT_bool g hc) (fun e => vcC_sound x Kn Ke st tm h ρ G Q hn he hr g (k.t e)) (fun e => vcC_sound y Kn Ke st tm h ρ G Q hn he hr g (k.f e))
    · exact k.elim
  | .block i cd, Kn, Ke, st, tm, h, ρ, G, Q, _, hn, he, hr, g, k => by
    refine AWc.block (vcC_sound cd Kn _ st tm h ρ G _ (fun st tm h ρ G g k => AWq.blk (hn st tm h ρ G g k)) (fun j st2 tm2 h2 ρ2 G2 g2 k2 => ?_) (fun st tm h ρ G g k => AWq.blk_ret (hr st tm h ρ G g k)) g k)
    cases hb : Nat.beq j i
    · simp only [hb, cond_false] at k2
      exact AWq.blk_miss hb (he j st2 tm2 h2 ρ2 G2 g2 k2)
    · simp only [hb, cond_true] at k2
      have := Nat.eq_of_beq_eq_true hb
      subst this
      exact AWq.blk_hit (hn st2 tm2 h2 ρ2 G2 g2 k2)
  | .loop cd, Kn, Ke, st, tm, h, ρ, G, Q, _, hn, he, hr, g, k => by
    obtain ⟨ι, Φ, m, S, x0, h0, ⟨src, hs⟩, hk⟩ := k.out
    obtain ⟨h', hh, g'⟩ := g.le hs
    obtain ⟨tm', s1, s2⟩ := subT_refl tm
    have gw : ∀ {S : St} {tm h ρ} {tm' : List (Nat × Value)}, (∀ k v, lk k tm = some v → lk k tm' = some v) → Gd c S tm h ρ G → Gd c S tm' h ρ G := fun hl g => ⟨g.fF, g.fw, g.gF, g.gx, g.fm, fun k s hk => by
      obtain ⟨v, h1, h2⟩ := g.tm k s hk
      exact ⟨v, hl k v h1, h2⟩, g.ob⟩
    refine AWc.loopS (Q := Q) (ι := ι × List (Nat × Value) × Hs × Rho × FG) (fun x => Φ x.1 ∧ Gd c (S x.1) x.2.1 x.2.2.1 x.2.2.2.1 x.2.2.2.2) (fun x => m x.1) (fun x => x.2.1) (fun x => x.2.2.1) (x0, tm', h', srcR src ρ, G) ⟨h0, gw s2 g'⟩ s1 hh fun x hx => ?_
    obtain ⟨x, tmx, hx', ρx, Gx⟩ := x
    refine vcC_sound cd _ Ke (S x) tmx hx' ρx Gx _ (fun st tm h ρ G g k => ?_) (fun i st tm h ρ G g k => AWq.pass_exit (he i st tm h ρ G g k)) (fun st tm h ρ G g k => AWq.pass_ret (hr st tm h ρ G g k)) hx.2 (hk x hx.1)
    obtain ⟨y, hy, hm, src', hs'⟩ := k
    obtain ⟨h2, hh2, g2⟩ := g.le hs'
    obtain ⟨tm2, t1, t2⟩ := subT_refl tm
    refine AWq.round (y, tm2, h2, srcR src' ρ, G) ⟨hy, ⟨g2.fF, g2.fw, g2.gF, g2.gx, g2.fm, fun k s hk => ?_, g2.ob⟩⟩ hm t1 hh2
    obtain ⟨v, q1, q2⟩ := g2.tm k s hk
    exact ⟨v, t2 k v q1, q2⟩
  | .exit i, Kn, Ke, st, tm, h, ρ, G, Q, _, hn, he, hr, g, k => .exit (he i _ _ _ _ _ g k)
  | .ret, Kn, Ke, st, tm, h, ρ, G, Q, _, hn, he, hr, g, k => by
    obtain ⟨tm', ob', gh, k⟩ := k.out
    refine AWc.ret ⟨fun a w ha hw => ?_⟩
    obtain ⟨h', ρ', G', g', hw'⟩ := gh.out c tm h ρ G w g hw
    exact (hr ⟨tm', ob'⟩ tm h' ρ' G' g' k).out a w ha hw'
  | .rangeFunc .., Kn, Ke, st, tm, h, ρ, G, Q, _, hn, he, hr, g, k => False.elim k
  | .scope _, Kn, Ke, st, tm, h, ρ, G, Q, _, hn, he, hr, g, k => False.elim k
  | .goto _, Kn, Ke, st, tm, h, ρ, G, Q, _, hn, he, hr, g, k => False.elim k
  | .refuse _, Kn, Ke, st, tm, h, ρ, G, Q, _, hn, he, hr, g, k => False.elim k

theorem resT_ok (g : Gd c st tm h ρ G) {r : ResultVar} {s : SV} (hr : resT T st.tm st.ob r = some s) : ∃ v, Res P nt tm h r v ∧ DenS ρ ⟨G, h.w0⟩ s v := by
  cases r with
  | tmp t =>
    obtain ⟨v, h1, h2⟩ := g.tm t s hr
    exact ⟨v, .tmp h1, h2⟩
  | cell cc t =>
    simp only [resT, yT, evT] at hr
    cases hx : lk cc st.tm with
    | none => simp [hx] at hr
    | some q =>
      simp only [hx] at hr
      cases hc : cellsT st.ob q with
      | none => simp [hc] at hr
      | some p =>
        obtain ⟨cs, o⟩ := p
        simp only [hc] at hr
        obtain ⟨v, hv, hq⟩ := g.tm cc q hx
        obtain ⟨b, o', us, rfl, hd, hcell⟩ := g.cells hq hc
        cases ht : lk t T with
        | none => simp [ht] at hr
        | some i =>
          simp only [ht] at hr
          cases hk : i.k.agg
          · simp only [hk] at hr
            cases hn : nth cs o with
            | none => simp [hn] at hr
            | some e =>
              simp only [hn, Option.some.injEq] at hr
              subst hr
              rw [nth_eq] at hn
              obtain ⟨u, hu, hdu⟩ := hd.get hn
              exact ⟨u, Res.cell1 hv ht hk ⟨fun w hw => hcell w hw o u hu⟩, .d hdu⟩
          · simp only [hk] at hr
            cases hl : cutT cs o i.size with
            | none => simp [hl] at hr
            | some l =>
              simp only [hl, Option.some.injEq] at hr
              subst hr
              obtain ⟨h1, h2⟩ := cutT_get hl
              obtain ⟨vs, q1, q2⟩ := hd.part (o := o) h2
              refine ⟨_, Res.cell (vs := vs) hv ht hk ⟨fun w hw j u hu => ?_⟩ (by rw [q1.len, h1]), .a q1⟩
              rw [Nat.add_assoc]
              exact hcell w hw (o + j) u (q2 j u hu)
theorem resLT_ok (g : Gd c st tm h ρ G) : ∀ {rs : List ResultVar} {ss : List SV}, resLT T st.tm st.ob rs = some ss → ∃ vs, vs.length = ss.length ∧ (∀ (j : Nat) s v, ss[j]? = some s → vs[j]? = some v → DenS ρ ⟨G, h.w0⟩ s v) ∧ ∀ (a : Act) w, Slt nt tm a → Hp h w → (rs.mapM (resRun a.tmps)).run P w = .ok vs w
  | [], ss, hr => by simp [resLT] at hr; subst hr; exact ⟨[], rfl, by simp, fun a w _ _ => by simp⟩
  | r :: l, ss, hr => by
    simp only [resLT] at hr
    cases h1 : resT T st.tm st.ob r with
    | none => simp [h1] at hr
    | some s =>
      cases h2 : resLT T st.tm st.ob l with
      | none => simp [h1, h2] at hr
      | some ss' =>
        simp only [h1, h2, Option.some.injEq] at hr
        subst hr
        obtain ⟨v, q1, q2⟩ := resT_ok g h1 (P := P) (nt := nt)
        obtain ⟨vs, r1, r2, r3⟩ := resLT_ok g h2
        refine ⟨v :: vs, by simp [r1], fun j s0 v0 e1 e2 => ?_, fun a w ha hw => ?_⟩
        · cases j with
          | zero => simp at e1 e2; subst e1 e2; exact q2
          | succ j => exact r2 j s0 v0 (by simpa using e1) (by simpa using e2)
        · rw [List.mapM_cons]
          simp only [Sem.run_bind, q1.out a w ha hw, Result.andThen_ok, r3 a w ha hw, Sem.run_pure]
omit hT in
theorem frzL_den (g : Gd c st tm h ρ G) {w : World} (hw : Hp h w) {X : Prop} : ∀ {ss : List SV} {l : List SC} {vs : List Value}, frzL st.ob ss = some l → vs.length = ss.length → (∀ (j : Nat) s v, ss[j]? = some s → vs[j]? = some v → DenS ρ ⟨G, h.w0⟩ s v) → needR st.ob X ss →
    X ∧ vs.length = l.length ∧ ∀ (j : Nat) s v, l[j]? = some s → vs[j]? = some v → DenC ρ ⟨G.or (Bl h.hp), w⟩ s v
  | [], l, vs, hf, hl, hd, hn => by
    simp [frzL] at hf
    subst hf
    exact ⟨hn, by simpa using hl, by simp⟩
  | s :: r, l, vs, hf, hl, hd, hn => by
    cases vs with
    | nil => simp at hl
    | cons v vs =>
      simp only [needR] at hn
      have hd' : ∀ (j : Nat) s v, r[j]? = some s → vs[j]? = some v → DenS ρ ⟨G, h.w0⟩ s v := fun j s0 v0 e1 e2 => hd (j + 1) s0 v0 (by simpa using e1) (by simpa using e2)
      simp only [frzL] at hf
      split at hf
      · rename_i x hb
        split at hf
        · rename_i l' hl'
          injection hf with hf; subst hf
          obtain ⟨q1, q2, _⟩ := borS_den (ρ' := ρ) g hw hb hn (hd 0 s v rfl rfl)
          obtain ⟨r1, r2, r3⟩ := frzL_den g hw hl' (by simpa using hl) hd' q2
          refine ⟨r1, by simp [r2], fun j s0 v0 e1 e2 => ?_⟩
          cases j with
          | zero => simp at e1 e2; subst e1 e2; cases q1 with | d q1 => exact .d q1
          | succ j => exact r3 j s0 v0 (by simpa using e1) (by simpa using e2)
        · cases hf
      · rename_i x hb
        split at hf
        · rename_i l' hl'
          injection hf with hf; subst hf
          obtain ⟨q1, q2, _⟩ := borS_den (ρ' := ρ) g hw hb hn (hd 0 s v rfl rfl)
          obtain ⟨r1, r2, r3⟩ := frzL_den g hw hl' (by simpa using hl) hd' q2
          refine ⟨r1, by simp [r2], fun j s0 v0 e1 e2 => ?_⟩
          cases j with
          | zero => simp at e1 e2; subst e1 e2; cases q1 with | a q1 => exact .a q1
          | succ j => exact r3 j s0 v0 (by simpa using e1) (by simpa using e2)
        · cases hf
      · cases hf
def tupV : List Value → Value
  | [v] => v
  | vs => .tuple vs.toArray
theorem slT_lk {s : SV} : ∀ {ss : List SV} {n k : Nat}, n ≤ k → ss[k - n]? = some s → lk k (slT n ss) = some s
  | [], n, k, _, h => by simp at h
  | x :: r, n, k, hk, h => by
    simp only [slT, lk]
    cases hb : Nat.beq k n
    · have hne : k ≠ n := fun e => by rw [e, Nat.beq_refl] at hb; cases hb
      exact slT_lk (by omega) (by rw [show k - n = (k - (n + 1)) + 1 by omega] at h; simpa using h)
    · have := Nat.eq_of_beq_eq_true hb
      subst this
      simpa using h
/-- What is asked of an answer. -/
def Ans (c : Cx) (Q : SV → List (Nat × Ob) → Prop) (e : Ending) (w' : World) : Prop := ∃ v h' s ob' ρ' G', e = .returned v ∧ Hp h' w' ∧ Gd c ⟨[(0, s)], ob'⟩ [(0, v)] h' ρ' G' ∧ Q s ob'
theorem RetK_ok {Q : SV → List (Nat × Ob) → Prop} (g : Gd c st tm h ρ G) {fn : Func} (k : RetK T fn.results.toList Q st.tm st.ob) : ∀ (a : Act) w, Slt nt tm a → Hp h w → a.defers = [] ∧ ∃ v, (results fn a.tmps).run P w = .ok v w ∧ Ans c Q (.returned v) w := by
  intro a w ha hw
  refine ⟨ha.df, ?_⟩
  simp only [RetK] at k
  cases hr : resLT T st.tm st.ob fn.results.toList with
  | none => simp only [hr] at k
  | some ss =>
    simp only [hr] at k
    cases hf : frzL st.ob ss with
    | none => simp only [hf] at k
    | some l =>
      simp only [hf] at k
      obtain ⟨vs, r1, r2, r3⟩ := resLT_ok g hr (P := P) (nt := nt)
      obtain ⟨hX, f1, f2⟩ := frzL_den g hw hf r1 r2 k
      have hm := r3 a w ha hw
      have h2 : (fn.results.mapM (resRun a.tmps)).run P w = .ok vs.toArray w := by
        rw [Array.mapM_eq_mapM_toList]
        simp only [map_eq_pure_bind, Sem.run_bind, hm, Result.andThen_ok, Sem.run_pure]
      have h3 : (results fn a.tmps).run P w = .ok (tupV vs) w := by
        rw [results_eq]
        simp only [Sem.run_bind, h2, Result.andThen_ok, Sem.run_pure]
        rcases vs with _ | ⟨v, _ | ⟨u, l⟩⟩ <;> simp [tupV]
      have hden : DenS ρ ⟨G.or (Bl h.hp), w⟩ (tupT l) (tupV vs) := by
        rcases vs with _ | ⟨v, _ | ⟨u, vs⟩⟩
        · have : l = [] := List.eq_nil_of_length_eq_zero (by simpa using f1.symm)
          subst this
          exact .t rfl f2
        · match l, f1 with
          | [x], _ => exact (f2 0 x v rfl rfl).up
        · match l, f1 with
          | x :: y :: l', f1 => exact .t f1 f2
      obtain ⟨s', hnl, hq⟩ := hX.out
      refine ⟨_, h3, _, ⟨fun b => h.F b ∨ Bl h.hp b, w, []⟩, s', [], ρ, G.or (Bl h.hp), rfl, ⟨Same.refl _ _, fun b hb => ?_, fun _ _ h => (by cases h), by simp, fun _ _ h => (by cases h)⟩, ⟨fun b hb => .inl (g.fF b hb), g.fw.trans (hw.same.mono g.fF), fun b hb => hb.imp (g.gF b) id, fun b hb => ?_, g.fm.or, fun k s hk => ?_, rfl⟩, hq⟩
      · rcases hb with hb | ⟨x, hx⟩
        · exact hw.Flt hb
        · exact (hw.blk b x hx).lt
      · rcases hb with hb | ⟨x, hx⟩
        · exact g.gx b hb
        · exact .inr fun h0 => hw.out b x hx (g.fF b h0)
      · simp only [lk] at hk ⊢
        cases hb : Nat.beq k 0
        · rw [hb] at hk; cases hk
        · rw [hb] at hk
          simp only [cond_true, Option.some.injEq] at hk
          subst hk
          exact ⟨_, rfl, hnl.den hden⟩
/-- A contract: the function's code is reckoned. -/
theorem callsA_of_vc {f : FuncId} {fn : Func} {cd : Code} {ss : List SV} {ob : List (Nat × Ob)} {Q : SV → List (Nat × Ob) → Prop} {rs : List ResultVar} (hf : P.funcs[f]? = some fn) (hb : fn.body = some cd) (hnm : (fn.name == "runtime.NumGoroutine") = false) (hn : fn.ntmps = nt) (hrs : fn.results.toList = rs) (hv : Nat.ble ss.length nt = true)
    (k : vcC P T nt (RetK T rs Q) cd (RetK T rs Q) (fun _ _ _ => False) (slT 0 ss) ob) : CallsA P f ss ob Q := by
  subst hrs
  refine ⟨⟨fn, cd, hf, hb, hnm⟩, fun c ρ hp vs w hw hl g => ?_⟩
  refine calls_of_AW hf hb hn (by rw [hl]; exact hv) hw ?_
  refine vcC_sound (c := c) cd _ _ _ _ _ ρ c.G (bodyPost P fn (Ans c Q)) (fun st tm h ρ G g k => ⟨RetK_ok g k⟩) (fun _ _ _ _ _ _ _ k => k.elim) (fun st tm h ρ G g k => ⟨RetK_ok g k⟩) g k
theorem CallsA.mono {f : FuncId} {ss : List SV} {ob : List (Nat × Ob)} {Q Q' : SV → List (Nat × Ob) → Prop} (k : CallsA P f ss ob Q) (hq : ∀ s ob, Q s ob → Q' s ob) : CallsA P f ss ob Q' :=
  ⟨k.fn, fun c ρ hp vs w hw hl g => (k.out c ρ hp vs w hw hl g).mono fun _ _ ⟨v, h', s, ob', ρ', G', h1, h2, h3, h4⟩ => ⟨v, h', s, ob', ρ', G', h1, h2, h3, hq s ob' h4⟩⟩
/-- Arguments that are nil. -/
theorem CallsA.nl {f : FuncId} {ss ss' : List SV} {ob : List (Nat × Ob)} {Q : SV → List (Nat × Ob) → Prop} (l : NlSs ss ss') (k : CallsA P f ss' ob Q) : CallsA P f ss ob Q :=
  ⟨k.fn, fun c ρ hp vs w hw hl g => k.out c ρ hp vs w hw (by rw [hl, l.get.1]) ⟨g.fF, g.fw, g.gF, g.gx, g.fm, fun j s hj => by
    obtain ⟨h1, h2⟩ := lk_slT hj
    obtain ⟨x, h3, h4⟩ := l.get.2 _ s h2
    have hx : lk j (slT 0 ss) = some x := slT_lk h1 h3
    obtain ⟨v, q1, q2⟩ := g.tm j x hx
    exact ⟨v, q1, h4.den q2⟩, g.ob⟩⟩
end
end Go.Proofs.Ytgiebofmfkacgaa

/-
  The layer of trees: rules for a walk.
-/
namespace Go.Proofs.Ytgiebofmfkacgaa
open Go.RowKit

theorem Brn.T {b : Bool} {X Y : Prop} (h : b = true) (k : X) : Brn b X Y := ⟨fun _ => k, fun e => (by rw [e] at h; cases h)⟩
theorem Brn.F {b : Bool} {X Y : Prop} (h : b = false) (k : Y) : Brn b X Y := ⟨fun e => (by rw [e] at h; cases h), fun _ => k⟩
theorem Ix.map {α : Type} {xs : List α} {f : α → List V} {i : Int} {m : Nat} {K : List V → Prop} (hi : i = (m : Int)) (h : m < xs.length) (k : K (f (xs[m]'h))) : Ix (xs.map f) i K := ⟨m, _, hi, by rw [List.getElem?_map, List.getElem?_eq_getElem h]; rfl, k⟩
theorem Ix.lit {rs : List (List V)} {i : Int} {m : Nat} {row : List V} {K : List V → Prop} (hi : i = (m : Int)) (h : nth rs m = some row) (k : K row) : Ix rs i K := ⟨m, row, hi, by rw [← nth_eq]; exact h, k⟩
theorem Rw.map {α β : Type} {xs : List α} {f : α → List β} {m : Nat} {K : List β → Prop} (h : m < xs.length) (k : K (f (xs[m]'h))) : Rw (xs.map f) m K := ⟨_, by rw [List.getElem?_map, List.getElem?_eq_getElem h]; rfl, k⟩
theorem Rw.lit {β : Type} {rs : List (List β)} {m : Nat} {row : List β} {K : List β → Prop} (h : nth rs m = some row) (k : K row) : Rw rs m K := ⟨row, by rw [← nth_eq]; exact h, k⟩
theorem Rw.self {β : Type} {rs : List (List β)} {m : Nat} {row : List β} {K : List β → Prop} (h : m < rs.length) (k : K row) : Rw (rs.set m row) m K := ⟨row, by simp [h], k⟩
theorem Rw.get {β : Type} {rs : List (List β)} {m : Nat} {row : List β} {K : List β → Prop} (h : rs[m]? = some row) (k : K row) : Rw rs m K := ⟨row, h, k⟩
/-- Rows are put over others. -/
def putR {α : Type} (rs new : List α) (n : Nat) : List α := rs.take n ++ new ++ rs.drop (n + new.length)
/-- How tests are told; one name for all. -/
theorem smT : (∀ a b : Bool, ((a && b) = true) = (a = true ∧ b = true)) ∧ (∀ a b : Bool, ((a && b) = false) = (a = false ∨ b = false)) ∧ (∀ a b : Bool, ((a || b) = true) = (a = true ∨ b = true)) ∧ (∀ a b : Bool, ((a || b) = false) = (a = false ∧ b = false)) ∧
    (∀ (p : Prop) [Decidable p], (decide p = true) = p) ∧ (∀ (p : Prop) [Decidable p], (decide p = false) = ¬ p) ∧ (∀ a b : Int, (¬ a < b) = (b ≤ a)) ∧ (∀ a b : Int, (¬ a ≤ b) = (b < a)) ∧
    (∀ a b : Int, ((a == b) = true) = (a = b)) ∧ (∀ a b : Int, ((a == b) = false) = ¬ (a = b)) ∧ (∀ a b : Int, ((a != b) = true) = ¬ (a = b)) ∧ (∀ a b : Int, ((a != b) = false) = (a = b)) ∧ (∀ p : Prop, (¬ ¬ p) = p) ∧
    (∀ b : Bool, (¬ b = true) = (b = false)) ∧ (∀ b : Bool, (¬ b = false) = (b = true)) ∧ (∀ b : Bool, ((!b) = true) = (b = false)) ∧ (∀ b : Bool, ((!b) = false) = (b = true)) ∧ ((true = false) = False) ∧ ((false = true) = False) ∧
    (∀ {α β : Type} (f : α → β) (l : List α), (l.map f).length = l.length) ∧ (∀ {α : Type} (l m : List α), (l ++ m).length = l.length + m.length) ∧ (∀ {α : Type} (a : α) (l : List α), (a :: l).length = l.length + 1) ∧ (∀ {α : Type}, ([] : List α).length = 0) ∧
    (∀ {α : Type} (n : Nat) (l : List α), (l.take n).length = min n l.length) ∧ (∀ {α : Type} (n : Nat) (l : List α), (l.drop n).length = l.length - n) ∧ (maxLen = 9223372036854775807) ∧ (∀ {α : Type} (rs new : List α) (n : Nat), (putR rs new n).length = min n rs.length + new.length + (rs.length - (n + new.length))) ∧ (∀ {α : Type} (n : Nat) (a : α), (List.replicate n a).length = n) ∧ (∀ n : Nat, (List.range n).length = n) := by
  refine ⟨?_, ?_, ?_, ?_, ?_, ?_, ?_, ?_, ?_, ?_, ?_, ?_, ?_, ?_, ?_, ?_, ?_, ?_, ?_, ?_, ?_, ?_, ?_, ?_, ?_, ?_, ?_, ?_, ?_⟩ <;> first | (intros; simp; done) | (intro a b; cases a <;> cases b <;> simp; done) | (intros; simp; omega) | rfl | (intros; simp [putR]; omega)
/-- A contract that says what the answer is. -/
abbrev Is (s0 : SV) (s : SV) (ob : List (Nat × Ob)) : Prop := s = s0 ∧ ob = []
theorem Cl.is {P : Program} {f : FuncId} {ss : List SV} {own : Bool} {K : SV → Prop} {s0 : SV} (h : CallsA P f ss [] (Is s0)) (hp : pureS s0 = true) (hf : own = true → flatS s0 = true) (k : K s0) : Cl P f ss own K :=
  ⟨h.mono fun s ob ⟨e1, e2⟩ => by subst e1 e2; exact ⟨rfl, hp, hf, k⟩⟩
theorem Ret.is {s s0 : SV} (h : s = s0) : Ret (Is s0) s := ⟨s0, h ▸ .refl, rfl, rfl⟩
theorem Ret.nl {s s0 : SV} (h : NlS s s0) : Ret (Is s0) s := ⟨s0, h, rfl, rfl⟩
theorem Cl.nl {P : Program} {f : FuncId} {ss ss' : List SV} {own : Bool} {K : SV → Prop} {s0 : SV} (l : NlSs ss ss') (h : CallsA P f ss' [] (Is s0)) (hp : pureS s0 = true) (hf : own = true → flatS s0 = true) (k : K s0) : Cl P f ss own K := .is (h.nl l) hp hf k
end Go.Proofs.Ytgiebofmfkacgaa

/-
  The layer of trees: regions that draw their order.
-/
namespace Go.Proofs.Ytgiebofmfkacgaa
open Go.RowKit

section
variable {P : Program} {ops : Array Oper} {Q : Exit → Act → World → Prop} {md : Region.Mode} {S S' : World → Prop} {late : List Nat}
/-- Whatever order is picked; S holds behind every operation that is neither late nor free; free ones leave the world as it is. -/
def wpAnyF (P : Program) (md : Region.Mode) (ops : Array Oper) (Q : Exit → Act → World → Prop) (S : World → Prop) (late free : List Nat) : Nat → Array Bool → Act → World → Prop
  | 0, listed, a, w => Region.ready md ops listed = [] ∧ Q .normal a w
  | fuel + 1, listed, a, w =>
    (Region.ready md ops listed = [] → Q .normal a w) ∧
    ∀ i ∈ Region.ready md ops listed, wpOp P ops Q i (fun a' w' => ((free.contains i = true → w' = w) ∧ (late.contains i = false → free.contains i = false → S w')) ∧ wpAnyF P md ops Q S late free fuel (listed.setIfInBounds i true) a' w') a w
theorem wpAny_of_F {free : List Nat} : ∀ (fuel : Nat) (listed : Array Bool) (a : Act) (w : World), wpAnyF P md ops Q S late free fuel listed a w → wpAny P md ops Q fuel listed a w
  | 0, _, _, _, h => h
  | fuel + 1, _, _, _, h => ⟨h.1, fun i hi => wpOp_mono (fun a' w' h' => wpAny_of_F fuel _ a' w' h'.2) (h.2 i hi)⟩
theorem wpAnyF_first {free : List Nat} {i : Nat} {oi : Oper} {v : Value} (hi : ops[i]? = some oi) (hsel : ∀ (j : Nat) (o : Oper) cs b, ops[j]? = some o → o.op ≠ .select cs b)
    (hQ : ∀ c a w, Q (.panic c) (a.put oi.dst v) w → Q (.panic c) a w) {n : Nat} (hlate : ∀ j, late.contains j = true → waits md ops n j i = true) :
    ∀ (fuel : Nat) (listed : Array Bool) (a : Act) (w : World), DC md ops listed →
      (∀ j oj, ops[j]? = some oj → j ≠ i → listed.getD j true = false → (∀ e ∈ oj.after, Region.binds md e = true → e.on ≠ i) → oi.apart ops oj = true) →
      i ∈ Region.ready md ops listed → YieldsIf P ops S oi v a → S w →
      wpAnyF P md ops Q S late free fuel (listed.setIfInBounds i true) (a.put oi.dst v) w → wpAnyF P md ops Q S late free (fuel + 1) listed a w := by
  intro fuel
  induction fuel with
  | zero =>
    intro listed a w _ _ hr hy hS H
    refine ⟨fun h => (by rw [h] at hr; cases hr), fun j hj => ?_⟩
    by_cases hji : j = i
    · subst hji; exact hy.wpOp hi hS ⟨⟨fun _ => rfl, fun _ _ => hS⟩, H⟩
    · have := ready_mono hj hji
      rw [H.1] at this
      cases this
  | succ fuel ih =>
    intro listed a w hdc hfree hr hy hS H
    refine ⟨fun h => (by rw [h] at hr; cases hr), fun j hj => ?_⟩
    by_cases hji : j = i
    · subst hji; exact hy.wpOp hi hS ⟨⟨fun _ => rfl, fun _ _ => hS⟩, H⟩
    · have h1 := H.2 j (ready_mono hj hji)
      obtain ⟨hjun, oj, hoj, hall⟩ := mem_ready.1 hj
      have hiun : listed.getD i false ≠ true := fun h' => by
        have h0 := (mem_ready.1 hr).1
        rcases Nat.lt_or_ge i listed.size with h2 | h2
        · simp [h2] at h0 h'; rw [h0] at h'; cases h'
        · simp [Array.getElem?_eq_none h2] at h'
      have hnl : late.contains j = false := by
        cases hc : late.contains j
        · rfl
        · exact absurd (waits_listed hdc n j oj hoj hall (hlate j hc)) hiun
      have hnot : ∀ e ∈ oj.after, Region.binds md e = true → e.on ≠ i := fun e he hb heq => hiun (heq ▸ hall e he hb)
      have h2 := wpOp_putIf hoj (hfree j oj hoj hji hjun hnot) (fun cs b => hsel i oi cs b hi) (fun cs b => hsel j oj cs b hoj) hQ hy h1
      have hfree' : ∀ k ok, ops[k]? = some ok → k ≠ i → (listed.setIfInBounds j true).getD k true = false →
          (∀ e ∈ ok.after, Region.binds md e = true → e.on ≠ i) → oi.apart ops ok = true := fun k ok hk hki hun hno => by
        refine hfree k ok hk hki ?_ hno
        by_cases hjk : j = k
        · subst hjk; exact hjun
        · rw [getD_set_ne true hjk] at hun; exact hun
      have hSw : ∀ w', ((free.contains j = true → w' = w) ∧ (late.contains j = false → free.contains j = false → S w')) → S w' := fun w' hg => by
        cases hfr : free.contains j
        · exact hg.2 hnl hfr
        · rw [hg.1 hfr]; exact hS
      refine wpOp_mono (fun a' w' h3 => ⟨h3.2.1, ih (listed.setIfInBounds j true) a' w' (hdc.set hoj hall) hfree' (ready_mono hr (Ne.symm hji)) h3.1 (hSw w' h3.2.1) ?_⟩) h2
      rw [Array.setIfInBounds_comm _ _ hji]
      exact h3.2.2
theorem wpAnyF_free {free : List Nat} {i : Nat} {oi : Oper} {v : Value} (hi : ops[i]? = some oi) (hsel : ∀ (j : Nat) (o : Oper) cs b, ops[j]? = some o → o.op ≠ .select cs b)
    (hQ : ∀ c a w, Q (.panic c) (a.put oi.dst v) w → Q (.panic c) a w) (hfi : free.contains i = true) :
    ∀ (fuel : Nat) (listed : Array Bool) (a : Act) (w : World), DC md ops listed →
      (∀ j oj, ops[j]? = some oj → j ≠ i → listed.getD j true = false → (∀ e ∈ oj.after, Region.binds md e = true → e.on ≠ i) → oi.apart ops oj = true) →
      i ∈ Region.ready md ops listed → YieldsIf P ops (fun _ => True) oi v a →
      wpAnyF P md ops Q S late free fuel (listed.setIfInBounds i true) (a.put oi.dst v) w → wpAnyF P md ops Q S late free (fuel + 1) listed a w := by
  intro fuel
  induction fuel with
  | zero =>
    intro listed a w _ _ hr hy H
    refine ⟨fun h => (by rw [h] at hr; cases hr), fun j hj => ?_⟩
    by_cases hji : j = i
    · subst hji; exact hy.wpOp hi trivial ⟨⟨fun _ => rfl, fun _ hf => by rw [hfi] at hf; cases hf⟩, H⟩
    · have := ready_mono hj hji
      rw [H.1] at this
      cases this
  | succ fuel ih =>
    intro listed a w hdc hfree hr hy H
    refine ⟨fun h => (by rw [h] at hr; cases hr), fun j hj => ?_⟩
    by_cases hji : j = i
    · subst hji; exact hy.wpOp hi trivial ⟨⟨fun _ => rfl, fun _ hf => by rw [hfi] at hf; cases hf⟩, H⟩
    · have h1 := H.2 j (ready_mono hj hji)
      obtain ⟨hjun, oj, hoj, hall⟩ := mem_ready.1 hj
      have hiun : listed.getD i false ≠ true := fun h' => by
        have h0 := (mem_ready.1 hr).1
        rcases Nat.lt_or_ge i listed.size with h2 | h2
        · simp [h2] at h0 h'; rw [h0] at h'; cases h'
        · simp [Array.getElem?_eq_none h2] at h'
      have hnot : ∀ e ∈ oj.after, Region.binds md e = true → e.on ≠ i := fun e he hb heq => hiun (heq ▸ hall e he hb)
      have h2 := wpOp_putIf hoj (hfree j oj hoj hji hjun hnot) (fun cs b => hsel i oi cs b hi) (fun cs b => hsel j oj cs b hoj) hQ hy h1
      have hfree' : ∀ k ok, ops[k]? = some ok → k ≠ i → (listed.setIfInBounds j true).getD k true = false →
          (∀ e ∈ ok.after, Region.binds md e = true → e.on ≠ i) → oi.apart ops ok = true := fun k ok hk hki hun hno => by
        refine hfree k ok hk hki ?_ hno
        by_cases hjk : j = k
        · subst hjk; exact hjun
        · rw [getD_set_ne true hjk] at hun; exact hun
      refine wpOp_mono (fun a' w' h3 => ⟨h3.2.1, ih (listed.setIfInBounds j true) a' w' (hdc.set hoj hall) hfree' (ready_mono hr (Ne.symm hji)) h3.1 ?_⟩) h2
      rw [Array.setIfInBounds_comm _ _ hji]
      exact h3.2.2
theorem wpAnyF_mono {free : List Nat} (hS : ∀ w, S' w → S w) : ∀ (fuel : Nat) (listed : Array Bool) (a : Act) (w : World), wpAnyF P md ops Q S' late free fuel listed a w → wpAnyF P md ops Q S late free fuel listed a w
  | 0, _, _, _, h => h
  | fuel + 1, _, _, _, h => ⟨h.1, fun i hi => wpOp_mono (fun a' w' h' => ⟨⟨h'.1.1, fun hl hf => hS w' (h'.1.2 hl hf)⟩, wpAnyF_mono hS fuel _ a' w' h'.2⟩) (h.2 i hi)⟩
/-- Only late operations are left. -/
theorem wpAnyF_late {free : List Nat} : ∀ (fuel : Nat) (listed : Array Bool) (a : Act) (w : World), (∀ j, listed.getD j true = false → late.contains j = true ∧ free.contains j = false) → wpAny P md ops Q fuel listed a w → wpAnyF P md ops Q S late free fuel listed a w
  | 0, _, _, _, _, h => h
  | fuel + 1, listed, _, _, hl, h => ⟨h.1, fun i hi => wpOp_mono (fun a' w' h' => ⟨⟨fun hn => (by
      rw [(hl i (mem_ready.1 hi).1).2] at hn; cases hn), fun hn => (by
      rw [(hl i (mem_ready.1 hi).1).1] at hn; cases hn)⟩, wpAnyF_late fuel _ a' w' (fun j hj => hl j (by
      by_cases hij : i = j
      · subst hij
        exact (mem_ready.1 hi).1
      · rw [getD_set_ne true hij] at hj; exact hj)) h'⟩) (h.2 i hi)⟩
end
section
variable (P : Program) (T : List (Nat × Ty)) (nt : Nat)
def vcYP (o : Oper) (tm : List (Nat × SV)) (ob : List (Nat × Ob)) (K : Kt) : Prop := match vcY P T o.op tm ob (fun s => putT nt o.dst s tm ob K) with
  | some p => p
  | none => False
/-- The operations of a region in a given order; true: it only yields. -/
def vcR (late : List Nat) (ops : Array Oper) (K : Kt) : List (Nat × Bool) → Kt
  | [], tm, ob => K tm ob
  | (i, y) :: r, tm, ob => match nth ops.toList i with
    | none => False
    | some o => match o.guard with
      | none => match y with
        | true => vcYP P T nt o tm ob (vcR late ops K r)
        | false => vcOpK P T nt (!late.contains i) o tm ob (vcR late ops K r)
      | some (j, want) => match gdT ops j with
        | none => False
        | some t => match lk t tm with
          | some (.d (.u (.bool b))) => match y with
            | true => match want with
              | true => Brn b (vcYP P T nt o tm ob (vcR late ops K r)) (skipT nt o.dst tm ob (vcR late ops K r))
              | false => Brn b (skipT nt o.dst tm ob (vcR late ops K r)) (vcYP P T nt o tm ob (vcR late ops K r))
            | false => match want with
              | true => Brn b (vcOpK P T nt (!late.contains i) o tm ob (vcR late ops K r)) (skipT nt o.dst tm ob (vcR late ops K r))
              | false => Brn b (skipT nt o.dst tm ob (vcR late ops K r)) (vcOpK P T nt (!late.contains i) o tm ob (vcR late ops K r))
          | some (.t []) => skipT nt o.dst tm ob (vcR late ops K r)
          | _ => False
end
def allLate (late : List Nat) : List (Nat × Bool) → Bool
  | [] => true
  | (i, y) :: r => !y && late.contains i && allLate late r
def keepAt (ops : Array Oper) (i : Nat) : Bool := match ops[i]? with
  | some o => keepT o.op
  | none => false
def dstAt (ops : Array Oper) (i : Nat) : Bool := match ops[i]? with
  | some o => o.dst.isSome
  | none => false
def freeT : Op → Bool
  | .move _ | .assign _ | .extract _ _ => true
  | _ => false
def moveAt (ops : Array Oper) (i : Nat) : Bool := match ops[i]? with
  | some o => freeT o.op
  | none => false
/-- What such an operation yields does not hang on memory. -/
theorem freeT_run {P : Program} {o : Oper} {f : Operand → Value} {v : Value} {w : World} (hf : freeT o.op = true) (h : (execOp f o).run P w = .ok (.value v) w) (w' : World) : (execOp f o).run P w' = .ok (.value v) w' := by
  obtain ⟨d, op, ty, pos, af, gu⟩ := o
  cases op <;> simp only [freeT] at hf <;> try cases hf
  · simp only [execOp, Sem.run_pure] at h ⊢
    injection h with h _
    rw [h]
  · simp only [execOp, Sem.run_pure] at h ⊢
    injection h with h _
    rw [h]
  · rename_i t ix
    simp only [execOp, Instr.extract] at h ⊢
    generalize f t = x at h
    cases x with
    | tuple vs =>
      simp only at h ⊢
      cases hv : vs[ix]? with
      | none => rw [hv] at h; exact absurd h (by intro h; cases h)
      | some u =>
        rw [hv] at h
        have h' : Next.value u = .value v := by injection h
        rw [← h']; rfl
    | _ => exact absurd h (by intro h; cases h)
def ordOk (ops : Array Oper) (late free : List Nat) : Array Bool → List (Nat × Bool) → Bool
  | listed, [] => Region.ready .any ops listed == []
  | listed, (i, true) :: r => (bif free.contains i then regOk ops listed [] i && moveAt ops i else regOk ops listed late i) && (dstAt ops i && ordOk ops late free (listed.setIfInBounds i true) r)
  | listed, (i, false) :: r => (Region.ready .any ops listed == [i]) && ((bif late.contains i then allLate late r && (List.range ops.size).all (fun j => listed.getD j true || (late.contains j && !free.contains j)) else keepAt ops i && !free.contains i) && ordOk ops late free (listed.setIfInBounds i true) r)

section
variable {P : Program} {T : List (Nat × Ty)} [hT : Tys P T] {nt : Nat} {ops : Array Oper} {Q : Exit → Act → World → Prop} {late free : List Nat} {c : Cx} {K : Kt}
/-- A guarded operation at a known test. -/
theorem vcR_guard {o : Oper} {i : Nat} {X : Kt} {Y : Prop} {st : St} {tm : List (Nat × Value)} {h : Hs} {ρ : Rho} {G : FG} (g : Gd c st tm h ρ G) (a : Act) (ha : Slt nt tm a)
    (k : (match o.guard with
      | none => Y
      | some (j, want) => match gdT ops j with
        | none => False
        | some t => match lk t st.tm with
          | some (.d (.u (.bool b))) => match want with
            | true => Brn b Y (skipT nt o.dst st.tm st.ob X)
            | false => Brn b (skipT nt o.dst st.tm st.ob X) Y
          | some (.t []) => skipT nt o.dst st.tm st.ob X
          | _ => False)) : (Region.wanted o (yielded ops a.tmps) = true ∧ Y) ∨ (Region.wanted o (yielded ops a.tmps) = false ∧ skipT nt o.dst st.tm st.ob X) := by
  cases hg : o.guard with
  | none => simp only [hg] at k; exact .inl ⟨by simp [Region.wanted, hg], k⟩
  | some p =>
    obtain ⟨j, want⟩ := p
    simp only [hg] at k
    cases hj : gdT ops j with
    | none => simp only [hj] at k
    | some t =>
      simp only [hj] at k
      split at k
      · rename_i b hb
        have eb := evT_bool g (x := .tmp t) hb
        have hy := yielded_of ha (gdT_eq hj) eb
        have hw : Region.wanted o (yielded ops a.tmps) = (b == want) := by
          simp only [Region.wanted, hg, hy]
          cases b <;> cases want <;> rfl
        cases want <;> cases b
        · exact .inl ⟨by rw [hw]; rfl, k.f rfl⟩
        · exact .inr ⟨by rw [hw]; rfl, k.t rfl⟩
        · exact .inr ⟨by rw [hw]; rfl, k.f rfl⟩
        · exact .inl ⟨by rw [hw]; rfl, k.t rfl⟩
      · rename_i hb
        exact .inr ⟨by simp [Region.wanted, hg, yielded_undef ha (gdT_eq hj) (evT_undef g (x := .tmp t) hb)], k⟩
      · exact k.elim
omit hT in
theorem vcR_split {i : Nat} {y : Bool} {r : List (Nat × Bool)} {o : Oper} {tm : List (Nat × SV)} {ob : List (Nat × Ob)} (ho : ops[i]? = some o) (k : vcR P T nt late ops K ((i, y) :: r) tm ob) :
    (match o.guard with
      | none => (match y with | true => vcYP P T nt o tm ob (vcR P T nt late ops K r) | false => vcOpK P T nt (!late.contains i) o tm ob (vcR P T nt late ops K r))
      | some (j, want) => match gdT ops j with
        | none => False
        | some t => match lk t tm with
          | some (.d (.u (.bool b))) => match want with
            | true => Brn b (match y with | true => vcYP P T nt o tm ob (vcR P T nt late ops K r) | false => vcOpK P T nt (!late.contains i) o tm ob (vcR P T nt late ops K r)) (skipT nt o.dst tm ob (vcR P T nt late ops K r))
            | false => Brn b (skipT nt o.dst tm ob (vcR P T nt late ops K r)) (match y with | true => vcYP P T nt o tm ob (vcR P T nt late ops K r) | false => vcOpK P T nt (!late.contains i) o tm ob (vcR P T nt late ops K r))
          | some (.t []) => skipT nt o.dst tm ob (vcR P T nt late ops K r)
          | _ => False) := by
  have hn : nth ops.toList i = some o := by rw [nth_eq]; simpa using ho
  simp only [vcR, hn] at k
  cases y <;> exact k
/-- What is asked of the rest, when only late operations are left. -/
theorem vcR_tail (hK : ∀ st tm h ρ G, Gd c st tm h ρ G → K st.tm st.ob → AWq nt Q .normal tm h) : ∀ (r : List (Nat × Bool)) (listed : Array Bool) (fuel : Nat) (st : St) (tm : List (Nat × Value)) (h : Hs) (ρ : Rho) (G : FG), r.length ≤ fuel → allLate late r = true → ordOk ops late free listed r = true → Gd c st tm h ρ G → vcR P T nt late ops K r st.tm st.ob →
    ∀ (a : Act) (w : World), Slt nt tm a → Hp h w → wpAny P .any ops Q fuel listed a w
  | [], listed, fuel, st, tm, h, ρ, G, _, _, ho, g, k, a, w, ha, hw => by
    have hr : Region.ready .any ops listed = [] := by simpa [ordOk] using ho
    have hq := (hK st tm h ρ G g k).out a w ha hw
    cases fuel with
    | zero => exact ⟨hr, hq⟩
    | succ n => exact ⟨fun _ => hq, by rw [hr]; simp⟩
  | (i, true) :: r, listed, fuel, st, tm, h, ρ, G, _, hl, ho, g, k, a, w, ha, hw => by simp [allLate] at hl
  | (i, false) :: r, listed, 0, st, tm, h, ρ, G, hf, hl, ho, g, k, a, w, ha, hw => by simp at hf
  | (i, false) :: r, listed, fuel + 1, st, tm, h, ρ, G, hf, hl, ho, g, k, a, w, ha, hw => by
    simp only [ordOk, Bool.and_eq_true] at ho
    simp only [allLate, Bool.and_eq_true] at hl
    have hr : Region.ready .any ops listed = [i] := eq_of_beq ho.1
    refine ⟨fun h' => (by rw [hr] at h'; cases h'), fun j hj => ?_⟩
    have hj' := hj
    rw [hr] at hj
    obtain rfl : j = i := by simpa using hj
    obtain ⟨_, o, hoj, _⟩ := mem_ready.1 hj'
    have ih : ∀ tm' h', Kd c (vcR P T nt late ops K r) tm' h' → ∀ (a : Act) (w : World), Slt nt tm' a → Hp h' w → wpAny P .any ops Q fuel (listed.setIfInBounds j true) a w :=
      fun tm' h' ⟨st', ρ', G', h2, hh, g', k'⟩ a w ha hw => vcR_tail hK r _ fuel st' tm' h2 ρ' G' (by simp at hf; omega) hl.2 ho.2.2 g' k' a w ha (hh w hw)
    unfold wpOp
    simp only [hoj]
    obtain ⟨d, op, ty, pos, af, gu⟩ := o
    rcases vcR_guard (X := vcR P T nt late ops K r) (i := j) g a ha (vcR_split hoj k) with ⟨hw1, k1⟩ | ⟨hw1, k1⟩
    · rw [if_pos hw1]
      refine .inl (Oper.wp_mono ?_ ((vcOpK_sound (P := P) (T := T) (Q := Q) g k1).out a w ha hw))
      rintro a' w' ⟨tm', h', h1, h2, h3⟩
      exact ih tm' h' h3 a' w' h1 h2
    · rw [if_neg (by rw [hw1]; simp)]
      cases d with
      | none => exact ih tm h (.of g k1) a w ha hw
      | some d =>
        simp only [skipT] at k1
        cases hd : Nat.blt d nt
        · rw [hd] at k1; exact k1.elim
        · rw [hd] at k1
          exact ih _ h (.of (g.put (.t (vs := []) rfl (by simp))) k1) _ w (ha.put (by simpa using hd) undef) hw
theorem vcR_sound [q : PanicOk Q] (hK : ∀ st tm h ρ G, Gd c st tm h ρ G → K st.tm st.ob → AWq nt Q .normal tm h) : ∀ (r : List (Nat × Bool)) (listed : Array Bool) (fuel : Nat) (st : St) (tm : List (Nat × Value)) (h : Hs) (ρ : Rho) (G : FG), r.length ≤ fuel → ordOk ops late free listed r = true → DC .any ops listed → listed.size = ops.size → Gd c st tm h ρ G → vcR P T nt late ops K r st.tm st.ob →
    ∀ (a : Act) (w : World), Slt nt tm a → Hp h w → wpAnyF P .any ops Q (Hp h) late free fuel listed a w
  | [], listed, fuel, st, tm, h, ρ, G, _, ho, _, _, g, k, a, w, ha, hw => by
    have hr : Region.ready .any ops listed = [] := by simpa [ordOk] using ho
    have hq := (hK st tm h ρ G g k).out a w ha hw
    cases fuel with
    | zero => exact ⟨hr, hq⟩
    | succ n => exact ⟨fun _ => hq, by rw [hr]; simp⟩
  | (i, y) :: r, listed, 0, st, tm, h, ρ, G, hf, ho, _, _, g, k, a, w, ha, hw => by simp at hf
  | (i, true) :: r, listed, fuel + 1, st, tm, h, ρ, G, hf, ho, hdc, hsz, g, k, a, w, ha, hw => by
    simp only [ordOk, Bool.and_eq_true] at ho
    obtain ⟨hB, hds, ho⟩ := ho
    have hB' : Region.noSelect ops = true ∧ Region.free .any ops listed i = true ∧ (Region.ready .any ops listed).contains i = true ∧ ((free.contains i = true ∧ moveAt ops i = true) ∨ ∀ j, late.contains j = true → waits .any ops ops.size j i = true) := by
      cases hfr : free.contains i
      · rw [hfr] at hB
        simp only [cond_false, regOk, Bool.and_eq_true] at hB
        obtain ⟨b1, b2, b3, b4⟩ := hB
        exact ⟨b1, b2, b3, .inr fun j hj => List.all_eq_true.1 b4 j (by simpa using hj)⟩
      · rw [hfr] at hB
        simp only [cond_true, regOk, Bool.and_eq_true] at hB
        exact ⟨hB.1.1, hB.1.2.1, hB.1.2.2.1, .inl ⟨rfl, hB.2⟩⟩
    obtain ⟨b1, b2, b3, b4⟩ := hB'
    have hr' : i ∈ Region.ready .any ops listed := by simpa using b3
    obtain ⟨_, o, hoj, hdep⟩ := mem_ready.1 hr'
    have hdc' := hdc.set hoj hdep
    have hsz' : (listed.setIfInBounds i true).size = ops.size := by simp [hsz]
    have hdd : ∃ d, o.dst = some d := by
      simp only [dstAt, hoj] at hds
      exact Option.isSome_iff_exists.1 hds
    obtain ⟨d0, hd0⟩ := hdd
    have hf' : r.length ≤ fuel := by simp at hf; omega
    obtain ⟨d, op, ty, pos, af, gu⟩ := o
    simp only at hd0
    subst hd0
    rcases vcR_guard (X := vcR P T nt late ops K r) (i := i) g a ha (vcR_split hoj k) with ⟨hw1, k1⟩ | ⟨hw1, k1⟩
    · simp only [vcYP] at k1
      cases hy : vcY P T op st.tm st.ob (fun s => putT nt (some d0) s st.tm st.ob (vcR P T nt late ops K r)) with
      | none => simp only [hy] at k1
      | some p =>
        simp only [hy] at k1
        obtain ⟨s, v, q1, q2, q3⟩ := vcY_sound g hy k1 (P := P) (nt := nt) (ty := ty) (pos := pos) (af := af) (gd := gu) (d := some d0)
        simp only [putT] at q3
        cases hd : Nat.blt d0 nt
        · rw [hd] at q3; exact q3.elim
        · rw [hd] at q3
          have hrest := vcR_sound hK r _ fuel _ _ h ρ G hf' ho hdc' hsz' (g.put (d := d0) q2) q3 _ w (ha.put (by simpa using hd) v) hw
          rcases b4 with ⟨hfr, hmv⟩ | hlate
          · simp only [moveAt, hoj] at hmv
            exact wpAnyF_free hoj (Region.noSelect_spec b1) (fun c a w hq => q.ok c a _ _ w hq) hfr fuel listed a w hdc (Region.free_spec hoj b2) hr' (.inl ⟨hw1, fun w' _ => freeT_run hmv (q1.out a w ha hw) w'⟩) hrest
          · exact wpAnyF_first hoj (Region.noSelect_spec b1) (fun c a w hq => q.ok c a _ _ w hq) (n := ops.size) hlate fuel listed a w hdc (Region.free_spec hoj b2) hr' (.inl ⟨hw1, fun w hw => q1.out a w ha hw⟩) hw hrest
    · simp only [skipT] at k1
      cases hd : Nat.blt d0 nt
      · rw [hd] at k1; exact k1.elim
      · rw [hd] at k1
        have hrest := vcR_sound hK r _ fuel _ _ h ρ G hf' ho hdc' hsz' (g.put (d := d0) (.t (vs := []) rfl (by simp))) k1 _ w (ha.put (by simpa using hd) undef) hw
        rcases b4 with ⟨hfr, _⟩ | hlate
        · exact wpAnyF_free hoj (Region.noSelect_spec b1) (fun c a w hq => q.ok c a _ _ w hq) hfr fuel listed a w hdc (Region.free_spec hoj b2) hr' (.inr ⟨hw1, rfl⟩) hrest
        · exact wpAnyF_first hoj (Region.noSelect_spec b1) (fun c a w hq => q.ok c a _ _ w hq) (n := ops.size) hlate fuel listed a w hdc (Region.free_spec hoj b2) hr' (.inr ⟨hw1, rfl⟩) hw hrest
  | (i, false) :: r, listed, fuel + 1, st, tm, h, ρ, G, hf, ho, hdc, hsz, g, k, a, w, ha, hw => by
    have ho0 := ho
    simp only [ordOk, Bool.and_eq_true] at ho
    have hr : Region.ready .any ops listed = [i] := eq_of_beq ho.1
    have hf' : r.length ≤ fuel := by simp at hf; omega
    cases hc : late.contains i
    · rw [hc] at ho
      simp only [cond_false] at ho
      refine ⟨fun h' => (by rw [hr] at h'; cases h'), fun j hj => ?_⟩
      have hj' := hj
      rw [hr] at hj
      obtain rfl : j = i := by simpa using hj
      obtain ⟨_, o, hoj, hdep⟩ := mem_ready.1 hj'
      simp only [Bool.and_eq_true, Bool.not_eq_true'] at ho
      have hkp : keepT o.op = true := by have := ho.2.1.1; simpa only [keepAt, hoj] using this
      have hnf : free.contains j = false := ho.2.1.2
      have hg : ∀ w', Hp h w' → (free.contains j = true → w' = w) ∧ (late.contains j = false → free.contains j = false → Hp h w') := fun w' hw' => ⟨fun hf => absurd hf (by rw [hnf]; simp), fun _ _ => hw'⟩
      have hdc' := hdc.set hoj hdep
      have hsz' : (listed.setIfInBounds j true).size = ops.size := by simp [hsz]
      unfold wpOp
      simp only [hoj]
      obtain ⟨d, op, ty, pos, af, gu⟩ := o
      rcases vcR_guard (X := vcR P T nt late ops K r) (i := j) g a ha (vcR_split hoj k) with ⟨hw1, k1⟩ | ⟨hw1, k1⟩
      · rw [if_pos hw1]
        refine .inl (Oper.wp_mono ?_ ((vcOpK_keep (P := P) (T := T) (Q := Q) hkp g (by simp only [hc, Bool.not_false] at k1; exact k1)).out a w ha hw))
        rintro a' w' ⟨tm', h', h1, h2, st', ρ', G', h3, hh, hkeep, g', k'⟩
        exact ⟨hg w' (hkeep w' (hh w' h2)), wpAnyF_mono hkeep _ _ _ _ (vcR_sound hK r _ fuel st' tm' h3 ρ' G' hf' ho.2.2 hdc' hsz' g' k' a' w' h1 (hh w' h2))⟩
      · rw [if_neg (by rw [hw1]; simp)]
        cases d with
        | none => exact ⟨⟨fun hf => absurd hf (by rw [hnf]; simp), fun _ _ => hw⟩, vcR_sound hK r _ fuel st tm h ρ G hf' ho.2.2 hdc' hsz' g k1 a w ha hw⟩
        | some d =>
          simp only [skipT] at k1
          cases hd : Nat.blt d nt
          · rw [hd] at k1; exact k1.elim
          · rw [hd] at k1
            exact ⟨⟨fun hf => absurd hf (by rw [hnf]; simp), fun _ _ => hw⟩, vcR_sound hK r _ fuel _ _ h ρ G hf' ho.2.2 hdc' hsz' (g.put (d := d) (.t (vs := []) rfl (by simp))) k1 _ w (ha.put (by simpa using hd) undef) hw⟩
    · rw [hc] at ho
      simp only [cond_true, Bool.and_eq_true] at ho
      refine wpAnyF_late _ _ _ _ (fun j hj => ?_) (vcR_tail hK _ listed (fuel + 1) st tm h ρ G hf (by simp only [allLate, Bool.and_eq_true]; exact ⟨⟨rfl, hc⟩, ho.2.1.1⟩) ho0 g k a w ha hw)
      have hjs : j < ops.size := by
        rcases Nat.lt_or_ge j listed.size with h' | h'
        · omega
        · simp [Array.getElem?_eq_none h'] at hj
      have := List.all_eq_true.1 ho.2.1.2 j (List.mem_range.2 hjs)
      simp only [hj, Bool.false_or, Bool.and_eq_true, Bool.not_eq_true'] at this
      exact this
/-- A region that draws, by an order. -/
theorem Drw.of {i : Nat} {tmT : List (Nat × SV)} {ob : List (Nat × Ob)} (late free : List Nat) (r : List (Nat × Bool)) (ho : (Nat.ble r.length ops.size && ordOk ops late free (Array.replicate ops.size false) r) = true) (k : vcR P T nt late ops K r tmT ob) : Drw P nt i ops K tmT ob :=
  ⟨fun c tm h ρ G g Q q hK => ⟨fun a w ha hw => wp_region_any hT.mo (wpAny_of_F (S := Hp h) (late := late) (free := free) _ _ _ _ (by
    simp only [Bool.and_eq_true, Nat.ble_eq] at ho
    exact vcR_sound (P := P) (T := T) (free := free) hK r _ _ ⟨tmT, ob⟩ tm h ρ G ho.1 ho.2 DC.start (by simp) g k a { w with drawn := w.drawn + 1 } ha (hw.drawn _)))⟩⟩
end
/-- All orders of a region: alternatives, each with what follows it. -/
inductive OT where
  | nil
  | alt (i : Nat) (s r : OT)
def OT.heads : OT → List Nat
  | .nil => []
  | .alt i _ r => i :: r.heads
def OT.depth : OT → Nat
  | .nil => 0
  | .alt _ s r => max (s.depth + 1) r.depth
def OT.chk (ops : Array Oper) : OT → Bool → Array Bool → Bool
  | .nil, top, listed => bif top then Region.ready .any ops listed == [] else true
  | .alt i s r, top, listed => (bif top then Region.ready .any ops listed == (OT.alt i s r).heads else true) && (s.chk ops true (listed.setIfInBounds i true) && r.chk ops false listed)
section
variable (P : Program) (T : List (Nat × Ty)) (nt : Nat)
/-- One operation of a region, if its guard asks for it. -/
def vcG (ops : Array Oper) (i : Nat) (X : Kt) : Kt := fun tm ob => match nth ops.toList i with
  | none => False
  | some o => match o.guard with
    | none => vcOpK P T nt false o tm ob X
    | some (j, want) => match gdT ops j with
      | none => False
      | some t => match lk t tm with
        | some (.d (.u (.bool b))) => match want with
          | true => Brn b (vcOpK P T nt false o tm ob X) (skipT nt o.dst tm ob X)
          | false => Brn b (skipT nt o.dst tm ob X) (vcOpK P T nt false o tm ob X)
        | some (.t []) => skipT nt o.dst tm ob X
        | _ => False
def vcOT (ops : Array Oper) (K : Kt) : OT → Kt
  | .nil, tm, ob => K tm ob
  | .alt i s .nil, tm, ob => vcG P T nt ops i (vcOT ops K s) tm ob
  | .alt i s (.alt j s' r), tm, ob => vcG P T nt ops i (vcOT ops K s) tm ob ∧ vcOT ops K (.alt j s' r) tm ob
end
section
variable {P : Program} {T : List (Nat × Ty)} [hT : Tys P T] {nt : Nat} {ops : Array Oper} {Q : Exit → Act → World → Prop} {c : Cx} {K : Kt}
theorem vcG_sound {i : Nat} {X : Kt} {st : St} {tm : List (Nat × Value)} {h : Hs} {ρ : Rho} {G : FG} {R : Act → World → Prop} (g : Gd c st tm h ρ G) (k : vcG P T nt ops i X st.tm st.ob) (ih : ∀ tm' h', Kd c X tm' h' → ∀ (a : Act) (w : World), Slt nt tm' a → Hp h' w → R a w) (a : Act) (w : World) (ha : Slt nt tm a) (hw : Hp h w) : wpOp P ops Q i R a w := by
  unfold vcG at k
  cases ho : nth ops.toList i with
  | none => simp only [ho] at k
  | some o =>
    simp only [ho] at k
    have hoj : ops[i]? = some o := by rw [nth_eq] at ho; simpa using ho
    unfold wpOp
    simp only [hoj]
    obtain ⟨d, op, ty, pos, af, gu⟩ := o
    rcases vcR_guard (X := X) (i := i) g a ha k with ⟨hw1, k1⟩ | ⟨hw1, k1⟩
    · rw [if_pos hw1]
      refine .inl (Oper.wp_mono ?_ ((vcOpK_sound (P := P) (T := T) (Q := Q) g k1).out a w ha hw))
      rintro a' w' ⟨tm', h', h1, h2, h3⟩
      exact ih tm' h' h3 a' w' h1 h2
    · rw [if_neg (by rw [hw1]; simp)]
      cases d with
      | none => exact ih tm h (.of g k1) a w ha hw
      | some d =>
        simp only [skipT] at k1
        cases hd : Nat.blt d nt
        · rw [hd] at k1; exact k1.elim
        · rw [hd] at k1
          exact ih _ h (.of (g.put (.t (vs := []) rfl (by simp))) k1) _ w (ha.put (by simpa using hd) undef) hw
omit hT in
theorem vcOT_alt {i : Nat} {s r : OT} {tm : List (Nat × SV)} {ob : List (Nat × Ob)} (k : vcOT P T nt ops K (.alt i s r) tm ob) : vcG P T nt ops i (vcOT P T nt ops K s) tm ob ∧ (r ≠ .nil → vcOT P T nt ops K r tm ob) := by
  cases r with
  | nil => exact ⟨k, fun h => absurd rfl h⟩
  | alt j s' r => exact ⟨k.1, fun _ => k.2⟩
theorem vcOT_sound (hK : ∀ st tm h ρ G, Gd c st tm h ρ G → K st.tm st.ob → AWq nt Q .normal tm h) : ∀ (t : OT) (listed : Array Bool) (fuel : Nat) (st : St) (tm : List (Nat × Value)) (h : Hs) (ρ : Rho) (G : FG), t.depth ≤ fuel → Gd c st tm h ρ G → vcOT P T nt ops K t st.tm st.ob → ∀ (a : Act) (w : World), Slt nt tm a → Hp h w →
    (t.chk ops true listed = true → wpAny P .any ops Q fuel listed a w) ∧ (∀ f, fuel = f + 1 → t.chk ops false listed = true → ∀ i ∈ t.heads, wpOp P ops Q i (wpAny P .any ops Q f (listed.setIfInBounds i true)) a w)
  | .nil, listed, fuel, st, tm, h, ρ, G, hf, g, k, a, w, ha, hw => by
    refine ⟨fun hc => ?_, fun f _ _ i hi => by cases hi⟩
    have hr : Region.ready .any ops listed = [] := by simpa [OT.chk] using hc
    have hq := (hK st tm h ρ G g k).out a w ha hw
    cases fuel with
    | zero => exact ⟨hr, hq⟩
    | succ n => exact ⟨fun _ => hq, by rw [hr]; simp⟩
  | .alt i s r, listed, fuel, st, tm, h, ρ, G, hf, g, k, a, w, ha, hw => by
    obtain ⟨k1, k2⟩ := vcOT_alt k
    simp only [OT.depth] at hf
    have two : ∀ f, fuel = f + 1 → (OT.alt i s r).chk ops false listed = true → ∀ j ∈ (OT.alt i s r).heads, wpOp P ops Q j (wpAny P .any ops Q f (listed.setIfInBounds j true)) a w := by
      intro f hfu hc j hj
      simp only [OT.chk, cond_false, Bool.true_and, Bool.and_eq_true] at hc
      rcases List.mem_cons.1 hj with rfl | hj
      · exact vcG_sound g k1 (fun tm' h' ⟨st', ρ', G', h2, hh, g', k'⟩ a' w' ha' hw' => (vcOT_sound hK s _ f st' tm' h2 ρ' G' (by omega) g' k' a' w' ha' (hh w' hw')).1 hc.1) a w ha hw
      · have hne : r ≠ .nil := fun e => by subst e; cases hj
        exact (vcOT_sound hK r listed fuel st tm h ρ G (by omega) g (k2 hne) a w ha hw).2 f hfu hc.2 j hj
    refine ⟨fun hc => ?_, two⟩
    simp only [OT.chk, cond_true, Bool.and_eq_true] at hc
    have hr : Region.ready .any ops listed = (OT.alt i s r).heads := eq_of_beq hc.1
    cases fuel with
    | zero => omega
    | succ n =>
      refine ⟨fun h' => (by rw [hr] at h'; cases h'), fun j hj => ?_⟩
      rw [hr] at hj
      exact two n rfl (by simp only [OT.chk, cond_false, Bool.true_and, Bool.and_eq_true]; exact hc.2) j hj
/-- A region that draws, by all its orders. -/
theorem Drw.all {i : Nat} {tmT : List (Nat × SV)} {ob : List (Nat × Ob)} (t : OT) (ho : (Nat.ble t.depth ops.size && t.chk ops true (Array.replicate ops.size false)) = true) (k : vcOT P T nt ops K t tmT ob) : Drw P nt i ops K tmT ob :=
  ⟨fun c tm h ρ G g Q q hK => ⟨fun a w ha hw => wp_region_any hT.mo (by
    simp only [Bool.and_eq_true, Nat.ble_eq] at ho
    exact (vcOT_sound (P := P) (T := T) hK t _ _ ⟨tmT, ob⟩ tm h ρ G ho.1 g k a { w with drawn := w.drawn + 1 } ha (hw.drawn _)).1 ho.2)⟩⟩
end
end Go.Proofs.Ytgiebofmfkacgaa

/-
  The layer of trees: calls that lend own objects and give own objects back.
-/
namespace Go.Proofs.Ytgiebofmfkacgaa
open Go.RowKit

/-- All names satisfy p. -/
def D.okP (p : Nat → Bool) : D → Bool
  | .u _ => true
  | .ow j _ => p j
  | .p j _ => p j
  | .e j _ _ => p j
  | .q _ _ => true
  | .fn _ ks => okN p ks
  | .mp j => p j
  | D.r j .. => p j
  | D.re j .. => p j
  | .ows j _ _ => p j
  | .any => true
where
  okN (p : Nat → Bool) : List Nat → Bool
    | [] => true
    | j :: js => bif p j then okN p js else false
def okL (p : Nat → Bool) : List D → Bool
  | [] => true
  | x :: r => bif x.okP p then okL p r else false
def okC (p : Nat → Bool) : List SC → Bool
  | [] => true
  | .d x :: r => bif x.okP p then okC p r else false
  | .a cs :: r => bif okL p cs then okC p r else false
def SV.okP (p : Nat → Bool) : SV → Bool
  | .d x => x.okP p
  | .a cs => okL p cs
  | .t vs => okC p vs
def okTm (p : Nat → Bool) : List (Nat × SV) → Bool
  | [] => true
  | (_, s) :: r => bif s.okP p then okTm p r else false
def okO (p : Nat → Bool) : List (Nat × Ob) → Bool
  | [] => true
  | (j, .bx _ cs) :: r => bif p j then (bif okL p cs then okO p r else false) else false
  | (j, .ar _ _ _) :: r => bif p j then okO p r else false
  | (j, .fm _ _) :: r => bif p j then okO p r else false
def inN : List Nat → Nat → Bool
  | [], _ => false
  | k :: r, j => bif Nat.beq j k then true else inN r j
section
variable {ρ ρ' : Rho} {z : Fz} {p : Nat → Bool}
theorem bif_and {a b : Bool} (h : (bif a then b else false) = true) : a = true ∧ b = true := by cases a <;> simp_all
theorem D.okN_get {ks : List Nat} (h : D.okP.okN p ks = true) : ∀ (j : Nat) k, ks[j]? = some k → p k = true := by
  induction ks with
  | nil => intro j k hj; simp at hj
  | cons x r ih =>
    obtain ⟨h1, h2⟩ := bif_and h
    intro j k hj
    cases j with
    | zero => simp at hj; subst hj; exact h1
    | succ j => exact ih h2 j k (by simpa using hj)
theorem Den.okP (e : ∀ k, p k = true → ρ' k = ρ k) (e' : ∀ k, p k = true → ∀ i o, ρ'.os k i o = ρ.os k i o) {d : D} {v : Value} (hd : d.okP p = true) (h : Den ρ z d v) : Den ρ' z d v := by
  cases h with
  | u h => exact .u h
  | ow h hA hc => exact .ow (by rw [e _ hd]; exact h) hA hc
  | p h => exact .p (by rw [e _ hd]; exact h)
  | e h => exact .e (by rw [e _ hd]; exact h)
  | q hb hu hd' => exact .q hb hu hd'
  | fn us hl hu =>
    refine .fn us hl fun j i u h1 h2 => ?_
    obtain ⟨b, c, sz, h3, h4⟩ := hu j i u h1 h2
    exact ⟨b, c, sz, by rw [e _ (D.okN_get hd j i h1)]; exact h3, h4⟩
  | mp h hA => exact .mp (by rw [e _ hd]; exact h) hA
  | r h hA hc hm => exact .r (by rw [e' _ hd]; exact h) hA hc hm
  | re h => exact .re (by rw [e' _ hd]; exact h)
  | ows h hc => exact .ows (by rw [e _ hd]; exact h) hc
  | any h1 => exact .any h1
theorem okL_get {cs : List D} (h : okL p cs = true) : ∀ (j : Nat) d, cs[j]? = some d → d.okP p = true := by
  induction cs with
  | nil => intro j d hj; simp at hj
  | cons x r ih =>
    obtain ⟨h1, h2⟩ := bif_and h
    intro j d hj
    cases j with
    | zero => simp at hj; subst hj; exact h1
    | succ j => exact ih h2 j d (by simpa using hj)
theorem okC_get {cs : List SC} (h : okC p cs = true) : ∀ (j : Nat) s, cs[j]? = some s → s.up.okP p = true := by
  induction cs with
  | nil => intro j d hj; simp at hj
  | cons x r ih =>
    have : x.up.okP p = true ∧ okC p r = true := by
      cases x with
      | d x => exact bif_and h
      | a x => exact bif_and h
    intro j d hj
    cases j with
    | zero => simp at hj; subst hj; exact this.1
    | succ j => exact ih this.2 j d (by simpa using hj)
theorem DenL.okP (e : ∀ k, p k = true → ρ' k = ρ k) (e' : ∀ k, p k = true → ∀ i o, ρ'.os k i o = ρ.os k i o) {cs : List D} {us : List Value} (hd : okL p cs = true) (h : DenL ρ z cs us) : DenL ρ' z cs us :=
  ⟨h.len, h.one, fun j d u h1 h2 => (h.den j d u h1 h2).okP e e' (okL_get hd j d h1)⟩
theorem DenS.okP (e : ∀ k, p k = true → ρ' k = ρ k) (e' : ∀ k, p k = true → ∀ i o, ρ'.os k i o = ρ.os k i o) {s : SV} {v : Value} (hd : s.okP p = true) (h : DenS ρ z s v) : DenS ρ' z s v := by
  cases h with
  | d h => exact .d (h.okP e e' hd)
  | a h => exact .a (h.okP e e' hd)
  | t hl hh =>
    refine .t hl fun j s v h1 h2 => ?_
    have hs := okC_get hd j s h1
    cases hh j s v h1 h2 with
    | d h => exact .d (h.okP e e' hs)
    | a h => exact .a (h.okP e e' hs)
theorem okTm_get {tm : List (Nat × SV)} (h : okTm p tm = true) : ∀ j s, lk j tm = some s → s.okP p = true := by
  induction tm with
  | nil => intro j s hj; simp [lk] at hj
  | cons q r ih =>
    obtain ⟨i, x⟩ := q
    obtain ⟨h1, h2⟩ := bif_and h
    intro j s hj
    simp only [lk] at hj
    cases hi : Nat.beq j i
    · rw [hi] at hj; exact ih h2 j s hj
    · rw [hi] at hj; simp at hj; subst hj; exact h1
theorem okO_cons {k : Nat} {o : Ob} {r : List (Nat × Ob)} (h : okO p ((k, o) :: r) = true) : p k = true ∧ okO p r = true := by
  cases o with
  | bx t cs => obtain ⟨h1, h2⟩ := bif_and h; exact ⟨h1, (bif_and h2).2⟩
  | ar t sz rs => exact bif_and h
  | fm t rs => exact bif_and h
theorem okO_mem : ∀ {ob : List (Nat × Ob)}, okO p ob = true → ∀ k o, (k, o) ∈ ob → p k = true
  | [], _, k, o, hm => by cases hm
  | (j, x) :: r, h, k, o, hm => by
    rcases List.mem_cons.1 hm with hm | hm
    · cases hm; exact (okO_cons h).1
    · exact okO_mem (okO_cons h).2 k o hm
theorem ObsOk.okP (e : ∀ k, p k = true → ρ' k = ρ k) (e' : ∀ k, p k = true → ∀ i o, ρ'.os k i o = ρ.os k i o) : ∀ {ob : List (Nat × Ob)} {hp : List (Nat × Hb)}, okO p ob = true → ObsOk ρ z ob hp → ObsOk ρ' z ob hp
  | [], _, _, h => h
  | (k, .bx t cs) :: r, _, ho, ⟨X, hp', h1, ⟨b, us, h2, h3, h4⟩, h5⟩ => by
    obtain ⟨q1, q2⟩ := bif_and ho
    obtain ⟨q2, q3⟩ := bif_and q2
    exact ⟨X, hp', h1, ⟨b, us, h2, by rw [e k q1]; exact h3, h4.okP e e' q2⟩, h5.okP e e' q3⟩
  | (k, .ar t sz rs) :: r, _, ho, ⟨X, hp', h1, ⟨A, c, us, h2, h3, h4⟩, h5⟩ => by
    obtain ⟨q1, q2⟩ := bif_and ho
    exact ⟨X, hp', h1, ⟨A, c, us, h2, by rw [e k q1]; exact h3, h4⟩, h5.okP e e' q2⟩
  | (k, .fm t rs) :: r, _, ho, ⟨X, hp', h1, ⟨h2, h3⟩, h5⟩ => by
    obtain ⟨q1, q2⟩ := bif_and ho
    exact ⟨X, hp', h1, ⟨h2.congr (e' k q1), h3⟩, h5.okP e e' q2⟩
theorem ObsOk.append : ∀ {a b : List (Nat × Ob)} {ha hb : List (Nat × Hb)}, ObsOk ρ z a ha → ObsOk ρ z b hb → ObsOk ρ z (a ++ b) (ha ++ hb)
  | [], _, _, _, h, h' => by
    have : _ = [] := h
    subst this
    exact h'
  | (_, _) :: _, _, _, _, ⟨X, hp', h1, h2, h3⟩, h' => ⟨X, hp' ++ _, by rw [h1, List.append_assoc], h2, h3.append h'⟩
theorem ObsOk.split : ∀ {a b : List (Nat × Ob)} {hp : List (Nat × Hb)}, ObsOk ρ z (a ++ b) hp → ∃ ha hb, hp = ha ++ hb ∧ ObsOk ρ z a ha ∧ ObsOk ρ z b hb
  | [], _, _, h => ⟨[], _, rfl, rfl, h⟩
  | (_, _) :: _, _, _, ⟨X, hp', h1, h2, h3⟩ => by
    obtain ⟨ha, hb, q1, q2, q3⟩ := h3.split
    exact ⟨X ++ ha, hb, by rw [h1, q1, List.append_assoc], ⟨X, ha, rfl, h2, q2⟩, q3⟩
end
/-- Families among objects. -/
def famIn (ob : List (Nat × Ob)) (k : Nat) : Prop := ∃ t rs, (k, Ob.fm t rs) ∈ ob
theorem ObsOk.fam {ρ : Rho} {z : Fz} : ∀ {ob : List (Nat × Ob)} {hp : List (Nat × Hb)}, ObsOk ρ z ob hp → ∀ k, famIn ob k → z.G.own k
  | [], _, _, k, ⟨t, rs, hm⟩ => by cases hm
  | (j, o) :: r, _, ⟨X, hp', h1, h2, h3⟩, k, ⟨t, rs, hm⟩ => by
    rcases List.mem_cons.1 hm with hm | hm
    · cases hm; exact h2.2
    · exact h3.fam k ⟨t, rs, hm⟩
def evLT (tm : List (Nat × SV)) : List Operand → Option (List SV)
  | [] => some []
  | x :: r => match evT tm x with
    | none => none
    | some s => match evLT tm r with
      | none => none
      | some l => some (s :: l)
/-- Some of the slots. -/
inductive SubTm (tm : List (Nat × SV)) : List (Nat × SV) → Prop
  | nil : SubTm tm []
  | cons {k : Nat} {s : SV} {r : List (Nat × SV)} : lk k tm = some s → SubTm tm r → SubTm tm ((k, s) :: r)
theorem SubTm.get {tm l : List (Nat × SV)} (h : SubTm tm l) : ∀ k s, lk k l = some s → lk k tm = some s := by
  induction h with
  | nil => intro k s h; cases h
  | @cons j s r h0 _ ih =>
    intro k u hk
    simp only [lk] at hk
    cases hb : Nat.beq k j
    · rw [hb] at hk; exact ih k u hk
    · rw [hb] at hk
      simp only [cond_true, Option.some.injEq] at hk
      subst hk
      rw [Nat.eq_of_beq_eq_true hb]; exact h0
/-- After a call: the slots that are kept, the answer, the objects. -/
structure Bk (d : Option Tmp) (ns : List Nat) (tmK : List (Nat × SV)) (obF : List (Nat × Ob)) (K : Kt) (s : SV) (ob' : List (Nat × Ob)) : Prop where
  hs : s.okP (inN ns) = true
  ho : okO (inN ns) ob' = true
  k : K (match d with | some d => (d, s) :: tmK | none => tmK) (ob' ++ obF)
section
variable {P : Program} {T : List (Nat × Ty)} {nt : Nat} {Q : Exit → Act → World → Prop} {c : Cx} {st : St} {tm : List (Nat × Value)} {h : Hs} {ρ : Rho} {G : FG} {ty : TypeId} {pos : String} {af : Array Edge} {gd : Option (Nat × Bool)} {K : Kt}
theorem evLT_ev (g : Gd c st tm h ρ G) : ∀ {xs : List Operand} {ss : List SV}, evLT st.tm xs = some ss → ∃ vs, ArgsL tm xs vs ∧ vs.length = ss.length ∧ ∀ (j : Nat) s v, ss[j]? = some s → vs[j]? = some v → DenS ρ ⟨G, h.w0⟩ s v
  | [], ss, ha => by simp [evLT] at ha; subst ha; exact ⟨[], .nil, rfl, by simp⟩
  | x :: r, ss, ha => by
    simp only [evLT] at ha
    cases hx : evT st.tm x with
    | none => simp [hx] at ha
    | some s =>
      simp only [hx] at ha
      cases hr : evLT st.tm r with
      | none => simp [hr] at ha
      | some l =>
        simp only [hr, Option.some.injEq] at ha
        subst ha
        obtain ⟨v, q1, q2⟩ := g.ev hx
        obtain ⟨vs, r1, r2, r3⟩ := evLT_ev g hr
        refine ⟨v :: vs, .cons q1 r1, by simp [r2], fun j s0 v0 e1 e2 => ?_⟩
        cases j with
        | zero => simp at e1 e2; subst e1 e2; exact q2
        | succ j => exact r3 j s0 v0 (by simpa using e1) (by simpa using e2)
/-- What a call gives that lends the objects obP and keeps obF. -/
theorem callO_vals {f : FuncId} {ss : List SV} {obP obF : List (Nat × Ob)} {tmS tmK : List (Nat × SV)} {ns : List Nat} {QS : SV → List (Nat × Ob) → Prop} (g : Gd c ⟨tmS, obP ++ obF⟩ tm h ρ G) {vs : List Value} (a2 : vs.length = ss.length) (a3 : ∀ (j : Nat) s v, ss[j]? = some s → vs[j]? = some v → DenS ρ ⟨G, h.w0⟩ s v) (hk : ∀ k s, lk k tmK = some s → lk k tmS = some s)
    (h1 : okTm (fun k => !inN ns k) tmK = true) (h2 : okO (fun k => !inN ns k) obF = true) (h3 : okO (inN ns) obP = true) (hc : CallsA P f ss obP QS) :
    ∀ w, Hp h w → Calls P f vs.toArray w fun e w' => ∃ v h' s ob' ρ' G', e = .returned v ∧ Hp h' w' ∧ QS s ob' ∧ (s.okP (inN ns) = true → okO (inN ns) ob' = true → DenS ρ' ⟨G', h'.w0⟩ s v ∧ Gd c ⟨tmK, ob' ++ obF⟩ tm h' ρ' G') ∧ (obP = [] → ∀ w2, Hp h' w2 → Hp h w2) := by
  intro w hw
  obtain ⟨F, w0, hp⟩ := h
  obtain ⟨hpP, hpF, e0, oP, oF⟩ := ObsOk.split g.ob
  dsimp only at e0 oP oF
  subst e0
  have hnd := hw.nd
  rw [List.map_append, List.nodup_append] at hnd
  have hbF : ∀ b, Bl hpF b → ¬ F b := fun b ⟨x, hx⟩ => hw.out b x (List.mem_append_right _ hx)
  have hPF : ∀ b x, (b, x) ∈ hpP → ¬ Bl hpF b := fun b x hx ⟨y, hy⟩ => hnd.2.2 b (List.mem_map_of_mem (f := Prod.fst) hx) b (List.mem_map_of_mem (f := Prod.fst) hy) rfl
  have hm0 : Mz ⟨G, w0⟩ ⟨⟨G.on, G.fam, famIn obP⟩, w⟩ := ⟨fun _ h => h, fun b hb => hw.same.block b (g.gF b hb), fun _ _ _ h => h⟩
  refine (hc.out ⟨fun b => F b ∨ Bl hpF b, w, ⟨G.on, G.fam, famIn obP⟩⟩ ρ hpP vs w ⟨Same.refl _ _, fun b hb => ?_, fun b x hx => hw.blk b x (List.mem_append_left _ hx), hnd.1, fun b x hx hb => ?_⟩ a2 ⟨fun _ h => h, Same.refl _ _, fun b hb => .inl (g.gF b hb), fun b hb => .inl hb, .refl _, fun k s hk => ?_, ?_⟩).mono ?_
  · rcases hb with hb | ⟨x, hx⟩
    · exact hw.Flt hb
    · exact (hw.blk b x (List.mem_append_right _ hx)).lt
  · rcases hb with hb | hb
    · exact hw.out b x (List.mem_append_left _ hx) hb
    · exact hPF b x hx hb
  · obtain ⟨q1, q2⟩ := lk_slT hk
    have hlt : k - 0 < vs.length := by rw [a2]; exact (List.getElem?_eq_some_iff.1 q2).1
    exact ⟨vs[k - 0], lk_slots q1 (List.getElem?_eq_getElem hlt), (a3 _ s _ q2 (List.getElem?_eq_getElem hlt)).mono hm0 .refl⟩
  · refine oP.monoF hm0 .refl fun k o hm => ?_
    refine Fms.of fun t rs e => ?_
    subst e
    exact ⟨rfl, fun _ => ⟨_, _, hm⟩⟩
  · rintro e w' ⟨v, h', s, ob', ρ', G', rfl, hw', g', hq⟩
    obtain ⟨v', e1, e2⟩ := g'.tm 0 s rfl
    simp only [lk, Nat.beq_refl, cond_true, Option.some.injEq] at e1
    subst e1
    have hkeep : ∀ b, F b ∨ Bl hpF b → w'.heap[b]? = w.heap[b]? := fun b hb => (hw'.same.block b (g'.fF b hb)).trans (g'.fw.block b hb)
    let ρ2 : Rho := ⟨fun k => if inN ns k = true then ρ' k else ρ k, fun k => if inN ns k = true then ρ'.os k else ρ.os k⟩
    let G2 : FG := ⟨fun b => G b ∨ G' b, G'.fam, G.own⟩
    have hgn : ∀ b, G' b → ¬ Bl hpF b := fun b hb hbl => by
      rcases g'.gx b hb with q | q
      · exact hbF b hbl (g.gF b q)
      · exact q (.inr hbl)
    refine ⟨v, ⟨fun b => h'.F b ∧ ¬ Bl hpF b, h'.w0, h'.hp ++ hpF⟩, s, ob', ρ2, G2, rfl, ⟨hw'.same.mono fun _ hb => hb.1, fun b hb => hw'.inF b hb.1, fun b x hx => ?_, ?_, fun b x hx hb => ?_⟩, hq, fun hs ho => ⟨?_, ?_⟩, fun h0 w2 hw2 => ?_⟩
    · rcases List.mem_append.1 hx with hx | hx
      · exact hw'.blk b x hx
      · exact (hw.blk b x (List.mem_append_right _ hx)).of_block (hkeep b (.inr ⟨x, hx⟩))
    · rw [List.map_append, List.nodup_append]
      refine ⟨hw'.nd, hnd.2.1, fun a ha b hb hab => ?_⟩
      subst hab
      obtain ⟨⟨_, x⟩, hx, rfl⟩ := List.mem_map.1 ha
      obtain ⟨⟨_, y⟩, hy, hxy⟩ := List.mem_map.1 hb
      dsimp only at hxy
      subst hxy
      exact hw'.out _ x hx (g'.fF _ (.inr ⟨y, hy⟩))
    · rcases List.mem_append.1 hx with hx | hx
      · exact hw'.out b x hx hb.1
      · exact hb.2 ⟨x, hx⟩
    · refine DenS.okP (p := inN ns) (fun k hk => ?_) (fun k hk i o => ?_) hs (DenS.mono (z := ⟨G', h'.w0⟩) (z' := ⟨G2, h'.w0⟩) ⟨fun _ hb => Or.inr hb, fun _ _ => rfl, fun _ _ _ h => h⟩ .refl e2)
      · simp only [ρ2, hk, if_true]
      · simp only [ρ2, hk, if_true]
    · have hm : Mz ⟨G, w0⟩ ⟨G2, h'.w0⟩ := ⟨fun _ hb => .inl hb, fun b hb => (g'.fw.block b (.inl (g.gF b hb))).trans (hw.same.block b (g.gF b hb)), fun k i b hb => g'.fm.gr k i b hb⟩
      have hno : ∀ k, (!inN ns k) = true → ¬ inN ns k = true := fun k hk => by simpa using hk
      have ee : ∀ k, (!inN ns k) = true → ρ2 k = ρ k := fun k hk => by show (if inN ns k = true then ρ' k else ρ k) = _; rw [if_neg (hno k hk)]
      have eo : ∀ k, (!inN ns k) = true → ∀ i o, ρ2.os k i o = ρ.os k i o := fun k hk i o => by show (if inN ns k = true then ρ'.os k else ρ.os k) i o = _; rw [if_neg (hno k hk)]
      have hfp : ∀ k, ¬ famIn obP k → G'.fam k = G.fam k := fun k hk => g'.fm.eq k hk
      refine ⟨fun b hb => ⟨g'.fF b (.inl (g.fF b hb)), fun hbl => hbF b hbl (g.fF b hb)⟩, (g.fw.trans (hw.same.mono g.fF)).trans (g'.fw.mono fun b hb => .inl (g.fF b hb)), fun b hb => ?_, fun b hb => ?_, ⟨g.fm.own, fun k hk => ?_, fun k i b hb => g'.fm.gr k i b (g.fm.gr k i b hb)⟩, fun k s0 hk0 => ?_, ObsOk.append ?_ ?_⟩
      · rcases hb with hb | hb
        · exact ⟨g'.fF b (.inl (g.gF b hb)), fun hbl => hbF b hbl (g.gF b hb)⟩
        · exact ⟨g'.gF b hb, hgn b hb⟩
      · rcases hb with hb | hb
        · exact g.gx b hb
        · rcases g'.gx b hb with q | q
          · exact g.gx b q
          · exact .inr fun h0 => q (.inl (g.fF b h0))
      · refine (hfp k fun hf => hk ?_).trans (g.fm.eq k hk)
        rw [← g.fm.own]
        exact oP.fam k hf
      · obtain ⟨u, u1, u2⟩ := g.tm k s0 (hk k s0 hk0)
        exact ⟨u, u1, (u2.mono hm .refl).okP ee eo (okTm_get h1 k s0 hk0)⟩
      · refine ObsOk.okP (p := inN ns) (fun k hk => ?_) (fun k hk i o => ?_) ho (ObsOk.monoF (z := ⟨G', h'.w0⟩) (z' := ⟨G2, h'.w0⟩) ⟨fun _ hb => Or.inr hb, fun _ _ => rfl, fun _ _ _ h => h⟩ .refl (fun k o hm' => ?_) g'.ob)
        · simp only [ρ2, hk, if_true]
        · simp only [ρ2, hk, if_true]
        · cases o <;> simp only [Fms]
          refine ⟨rfl, fun hown => ?_⟩
          have hown' : famIn obP k := by have := hown; rwa [g'.fm.own] at this
          exact oP.fam k hown'
      · refine ObsOk.okP ee eo h2 (oF.monoF hm .refl fun k o hm' => ?_)
        refine Fms.of fun t rs e => ?_
        subst e
        refine ⟨hfp k fun ⟨t, rs, hf⟩ => ?_, id⟩
        have q1 := okO_mem h3 k _ hf
        have q2 := okO_mem h2 k _ hm'
        rw [q1] at q2
        cases q2
    · subst h0
      have hP : hpP = [] := oP
      subst hP
      refine ⟨(hw.same.trans (g'.fw.mono fun b hb => .inl hb)).trans (hw2.same.mono fun b hb => ⟨g'.fF b (.inl hb), fun hbl => hbF b hbl hb⟩), hw.inF, fun b x hx => hw2.blk b x (List.mem_append_right _ (by simpa using hx)), hw.nd, hw.out⟩
theorem callO_out {f : FuncId} {xs : List Operand} {ss : List SV} {obP obF : List (Nat × Ob)} {tmS tmK : List (Nat × SV)} {ns : List Nat} {QS : SV → List (Nat × Ob) → Prop} (g : Gd c ⟨tmS, obP ++ obF⟩ tm h ρ G) (hx : evLT tmS xs = some ss) (hk : ∀ k s, lk k tmK = some s → lk k tmS = some s)
    (h1 : okTm (fun k => !inN ns k) tmK = true) (h2 : okO (fun k => !inN ns k) obF = true) (h3 : okO (inN ns) obP = true) (hc : CallsA P f ss obP QS) :
    ∃ vs, ArgsL tm xs vs ∧ FnOk P f ∧ ∀ w, Hp h w → Calls P f vs.toArray w fun e w' => ∃ v h' s ob' ρ' G', e = .returned v ∧ Hp h' w' ∧ QS s ob' ∧ (s.okP (inN ns) = true → okO (inN ns) ob' = true → DenS ρ' ⟨G', h'.w0⟩ s v ∧ Gd c ⟨tmK, ob' ++ obF⟩ tm h' ρ' G') ∧ (obP = [] → ∀ w2, Hp h' w2 → Hp h w2) := by
  obtain ⟨vs, a1, a2, a3⟩ := evLT_ev g hx
  exact ⟨vs, a1, hc.fn, callO_vals g a2 a3 hk h1 h2 h3 hc⟩
end
def scT : SV → Option SC
  | .d x => some (.d x)
  | .a xs => some (.a xs)
  | .t _ => none
def scL : List SV → Option (List SC)
  | [] => some []
  | s :: r => match scT s with
    | none => none
    | some x => match scL r with
      | none => none
      | some l => some (x :: l)
/-- Leaving with own objects. -/
structure RetO (Q : SV → List (Nat × Ob) → Prop) (s : SV) (ob : List (Nat × Ob)) : Prop where
  out : ∃ src s' ob', LeS src s s' ∧ LeO src ob ob' ∧ Q s' ob'
def RetKO (T : List (Nat × Ty)) (rs : List ResultVar) (Q : SV → List (Nat × Ob) → Prop) : Kt := fun tm ob => match resLT T tm ob rs with
  | none => False
  | some ss => match scL ss with
    | none => False
    | some l => RetO Q (tupT l) ob
section
variable {P : Program} {T : List (Nat × Ty)} [hT : Tys P T] {nt : Nat} {c : Cx} {st : St} {tm : List (Nat × Value)} {h : Hs} {ρ : Rho} {G : FG}
omit hT in
theorem scL_den {z : Fz} : ∀ {ss : List SV} {l : List SC} {vs : List Value}, scL ss = some l → vs.length = ss.length → (∀ (j : Nat) s v, ss[j]? = some s → vs[j]? = some v → DenS ρ z s v) → vs.length = l.length ∧ ∀ (j : Nat) s v, l[j]? = some s → vs[j]? = some v → DenC ρ z s v
  | [], l, vs, hf, hl, hd => by
    simp [scL] at hf
    subst hf
    exact ⟨by simpa using hl, by simp⟩
  | s :: r, l, vs, hf, hl, hd => by
    cases vs with
    | nil => simp at hl
    | cons v vs =>
      simp only [scL] at hf
      cases h1 : scT s with
      | none => simp [h1] at hf
      | some x =>
        cases h2 : scL r with
        | none => simp [h1, h2] at hf
        | some l' =>
          simp only [h1, h2, Option.some.injEq] at hf
          subst hf
          obtain ⟨r1, r2⟩ := scL_den h2 (vs := vs) (by simpa using hl) (fun j s0 v0 e1 e2 => hd (j + 1) s0 v0 (by simpa using e1) (by simpa using e2))
          refine ⟨by simp [r1], fun j s0 v0 e1 e2 => ?_⟩
          cases j with
          | zero =>
            simp at e1 e2
            subst e1 e2
            have h0 := hd 0 s v rfl rfl
            cases s with
            | d y => simp only [scT, Option.some.injEq] at h1; subst h1; cases h0 with | d h0 => exact .d h0
            | a y => simp only [scT, Option.some.injEq] at h1; subst h1; cases h0 with | a h0 => exact .a h0
            | t y => cases h1
          | succ j => exact r2 j s0 v0 (by simpa using e1) (by simpa using e2)
theorem RetKO_ok {Q : SV → List (Nat × Ob) → Prop} (g : Gd c st tm h ρ G) {fn : Func} (k : RetKO T fn.results.toList Q st.tm st.ob) : ∀ (a : Act) w, Slt nt tm a → Hp h w → a.defers = [] ∧ ∃ v, (results fn a.tmps).run P w = .ok v w ∧ Ans c Q (.returned v) w := by
  intro a w ha hw
  refine ⟨ha.df, ?_⟩
  simp only [RetKO] at k
  cases hr : resLT T st.tm st.ob fn.results.toList with
  | none => simp only [hr] at k
  | some ss =>
    simp only [hr] at k
    cases hf : scL ss with
    | none => simp only [hf] at k
    | some l =>
      simp only [hf] at k
      obtain ⟨vs, r1, r2, r3⟩ := resLT_ok g hr (P := P) (nt := nt)
      obtain ⟨f1, f2⟩ := scL_den hf r1 r2
      have hm := r3 a w ha hw
      have h2 : (fn.results.mapM (resRun a.tmps)).run P w = .ok vs.toArray w := by
        rw [Array.mapM_eq_mapM_toList]
        simp only [map_eq_pure_bind, Sem.run_bind, hm, Result.andThen_ok, Sem.run_pure]
      have h3 : (results fn a.tmps).run P w = .ok (tupV vs) w := by
        rw [results_eq]
        simp only [Sem.run_bind, h2, Result.andThen_ok, Sem.run_pure]
        rcases vs with _ | ⟨v, _ | ⟨u, l⟩⟩ <;> simp [tupV]
      have hden : DenS ρ ⟨G, h.w0⟩ (tupT l) (tupV vs) := by
        rcases vs with _ | ⟨v, _ | ⟨u, vs⟩⟩
        · have : l = [] := List.eq_nil_of_length_eq_zero (by simpa using f1.symm)
          subst this
          exact .t rfl f2
        · match l, f1 with
          | [x], _ => exact (f2 0 x v rfl rfl).up
        · match l, f1 with
          | x :: y :: l', f1 => exact .t f1 f2
      obtain ⟨src, s', ob', l1, l2, hq⟩ := k.out
      have g0 : Gd c ⟨[(0, tupT l)], st.ob⟩ [(0, tupV vs)] h ρ G := ⟨g.fF, g.fw, g.gF, g.gx, g.fm, fun k s hk => by
        simp only [lk] at hk ⊢
        cases hb : Nat.beq k 0 <;> rw [hb] at hk
        · cases hk
        · simp at hk; subst hk; exact ⟨_, rfl, hden⟩, g.ob⟩
      obtain ⟨h', hh, g'⟩ := g0.le (S := ⟨[(0, s')], ob'⟩) ⟨.cons rfl l1 .nil, l2⟩
      exact ⟨_, h3, _, h', s', ob', _, G, rfl, hh w hw, g', hq⟩
/-- A contract that gives own objects back: the function's code is reckoned. -/
theorem callsA_of_vcO {f : FuncId} {fn : Func} {cd : Code} {ss : List SV} {ob : List (Nat × Ob)} {Q : SV → List (Nat × Ob) → Prop} {rs : List ResultVar} (hf : P.funcs[f]? = some fn) (hb : fn.body = some cd) (hnm : (fn.name == "runtime.NumGoroutine") = false) (hn : fn.ntmps = nt) (hrs : fn.results.toList = rs) (hv : Nat.ble ss.length nt = true)
    (k : vcC P T nt (RetKO T rs Q) cd (RetKO T rs Q) (fun _ _ _ => False) (slT 0 ss) ob) : CallsA P f ss ob Q := by
  subst hrs
  refine ⟨⟨fn, cd, hf, hb, hnm⟩, fun c ρ hp vs w hw hl g => ?_⟩
  refine calls_of_AW hf hb hn (by rw [hl]; exact hv) hw ?_
  refine vcC_sound (c := c) cd _ _ _ _ _ ρ c.G (bodyPost P fn (Ans c Q)) (fun st tm h ρ G g k => ⟨RetKO_ok g k⟩) (fun _ _ _ _ _ _ _ k => k.elim) (fun st tm h ρ G g k => ⟨RetKO_ok g k⟩) g k
/-- The answer, and the objects that are given back. -/
abbrev Iso (s0 : SV) (ob0 : List (Nat × Ob)) (s : SV) (ob : List (Nat × Ob)) : Prop := s = s0 ∧ ob = ob0
end
end Go.Proofs.Ytgiebofmfkacgaa

/-
  The layer of trees: own arrays that are written in place; answers in new own arrays.
-/
namespace Go.Proofs.Ytgiebofmfkacgaa
open Go.RowKit

section
/-- What the arguments are, in the world of the call. -/
def ArgsAt (ρ : Rho) (G : FG) (w : World) (ss : List SV) (vs : List Value) : Prop := vs.length = ss.length ∧ (∀ (j : Nat) s v, ss[j]? = some s → vs[j]? = some v → DenS ρ ⟨G, w⟩ s v) ∧ ∀ b, G b → b < w.heap.size
theorem Gd.args {ss : List SV} {c : Cx} {ρ : Rho} {hp : List (Nat × Hb)} {vs : List Value} {w : World} (hw : Hp ⟨c.F, c.w, hp⟩ w) (hl : vs.length = ss.length) (g : Gd c ⟨slT 0 ss, []⟩ (slots 0 vs) ⟨c.F, c.w, hp⟩ ρ c.G) : ArgsAt ρ c.G w ss vs := by
  refine ⟨hl, fun j s v h1 h2 => ?_, fun b hb => hw.Flt (g.gF b hb)⟩
  have hk : lk j (slT 0 ss) = some s := by
    have : ∀ (l : List SV) (n j : Nat), l[j]? = some s → lk (n + j) (slT n l) = some s := by
      intro l
      induction l with
      | nil => intro n j h; simp at h
      | cons x r ih =>
        intro n j h
        cases j with
        | zero => simp at h; subst h; simp [slT, lk]
        | succ j =>
          simp only [slT, lk]
          have hne : Nat.beq (n + (j + 1)) n = false := by
            cases hb : Nat.beq (n + (j + 1)) n
            · rfl
            · have := Nat.eq_of_beq_eq_true hb; omega
          rw [hne]
          have := ih (n + 1) j (by simpa using h)
          rw [show n + (j + 1) = n + 1 + j by omega]
          exact this
    have := this ss 0 j h1
    rwa [Nat.zero_add] at this
  obtain ⟨u, q1, q2⟩ := g.tm j s hk
  have hu : lk j (slots 0 vs) = some v := lk_slots (Nat.zero_le _) (by simpa using h2)
  rw [hu] at q1
  injection q1 with q1
  subst q1
  exact DenS.mono (z := ⟨c.G, c.w⟩) (z' := ⟨c.G, w⟩) ⟨fun _ h => h, fun b hb => hw.same.block b (g.gF b hb), fun _ _ _ h => h⟩ .refl q2
end
theorem DenVL.mid {z : Fz} {cs xs : List V} {us vs : List Value} (h : DenVL z cs us) (hx : DenVL z xs vs) {o : Nat} (ho : o + xs.length ≤ cs.length) : DenVL z (cs.take o ++ xs ++ cs.drop (o + xs.length)) (spl us o vs) := by
  have hq : DenL (⟨fun _ => none, fun _ _ _ => none⟩ : Rho) z ((cs.map D.u).take o ++ (xs.map D.u) ++ (cs.map D.u).drop (o + (xs.map D.u).length)) (spl us o vs) := h.up.mid hx.up (by simp only [List.length_map]; exact ho)
  rw [List.length_map, ← List.map_take, ← List.map_drop, ← List.map_append, ← List.map_append] at hq
  refine ⟨by rw [hq.len, List.length_map], hq.one, fun j d0 u0 e1 e2 => ?_⟩
  have := hq.den j (.u d0) u0 (by rw [List.getElem?_map, e1]; rfl) e2
  cases this; assumption
theorem putR_len {α : Type} {rs new : List α} {n : Nat} (h : n + new.length ≤ rs.length) : (putR rs new n).length = rs.length := by simp [putR]; omega
theorem flat_take {α : Type} {sz : Nat} {rs : List (List α)} (hr : ∀ r ∈ rs, r.length = sz) (n : Nat) (hn : n ≤ rs.length) : (rs.take n).flatten = rs.flatten.take (n * sz) := by
  conv => rhs; rw [← List.take_append_drop n rs, List.flatten_append]
  rw [List.take_left' (by rw [flat_len (sz := sz) (fun r h => hr r (List.mem_of_mem_take h)), List.length_take, Nat.min_eq_left hn])]
theorem flat_drop {α : Type} {sz : Nat} {rs : List (List α)} (hr : ∀ r ∈ rs, r.length = sz) (n : Nat) (hn : n ≤ rs.length) : (rs.drop n).flatten = rs.flatten.drop (n * sz) := by
  conv => rhs; rw [← List.take_append_drop n rs, List.flatten_append]
  rw [List.drop_left' (by rw [flat_len (sz := sz) (fun r h => hr r (List.mem_of_mem_take h)), List.length_take, Nat.min_eq_left hn])]
theorem putR_flat {α : Type} {sz : Nat} {rs new : List (List α)} {n : Nat} (hr : ∀ r ∈ rs, r.length = sz) (hs : ∀ r ∈ new, r.length = sz) (h : n + new.length ≤ rs.length) : (putR rs new n).flatten = rs.flatten.take (n * sz) ++ new.flatten ++ rs.flatten.drop (n * sz + new.flatten.length) := by
  unfold putR
  rw [List.flatten_append, List.flatten_append, flat_take hr n (by omega), flat_drop hr _ h, flat_len hs, Nat.add_mul]
section
variable {P : Program} {T : List (Nat × Ty)} [hT : Tys P T] {nt : Nat} {Q : Exit → Act → World → Prop} {c : Cx} {st : St} {tm : List (Nat × Value)} {h : Hs} {ρ : Rho} {G : FG} {ty : TypeId} {pos : String} {af : Array Edge} {gd : Option (Nat × Bool)} {K : Kt}
omit hT in
/-- An own array is written in place. -/
theorem Gd.write (g : Gd c st tm h ρ G) {k e sz o : Nat} {rs new : List (List V)} {vs : List Value} (hk : lk k st.ob = some (.ar e sz rs)) (hv : DenVL ⟨G, h.w0⟩ new.flatten vs) (hn : ∀ r ∈ new, r.length = sz) (ho : o + new.length ≤ rs.length) :
    ∃ (A : Option Addr) (cc : Nat) (us : List Value) (h' : Hs), ρ k = some ⟨A, cc, sz⟩ ∧ OkA A us rs.length cc sz ∧ DenVL ⟨G, h.w0⟩ rs.flatten us ∧ (∀ r ∈ rs, r.length = sz) ∧ h'.w0 = h.w0 ∧ Gd c ⟨st.tm, obu k (.ar e sz (putR rs new o)) st.ob⟩ tm h' ρ G ∧
      ((new = [] ∧ ∀ w, Hp h w → Hp h' w) ∨ ∃ b, A = some ⟨b, 0, none⟩ ∧ ∀ w, Hp h w → HasB w b ⟨e, us, cc * sz⟩ ∧ ∀ w', Same (· ≠ b) w w' → HasB w' b ⟨e, spl us (o * sz) vs, cc * sz⟩ → Hp h' w') := by
  obtain ⟨F, w0, hp⟩ := h
  obtain ⟨X, f, ⟨A, cc, us, rfl, g2, g3, g4, g5⟩, g6, g7, _⟩ := g.ob.set hk
  have hfl := flat_len g5
  have hfn := flat_len hn
  have hin : o * sz + new.flatten.length ≤ rs.flatten.length := by
    rw [hfl, hfn, ← Nat.add_mul]; exact Nat.mul_le_mul_right _ ho
  have hmid : DenVL ⟨G, w0⟩ (putR rs new o).flatten (spl us (o * sz) vs) := by
    rw [putR_flat g5 hn ho]; exact g4.mid hv hin
  have hr' : ∀ r ∈ putR rs new o, r.length = sz := fun r hr => by
    simp only [putR, List.mem_append] at hr
    rcases hr with (hr | hr) | hr
    · exact g5 r (List.mem_of_mem_take hr)
    · exact hn r hr
    · exact g5 r (List.mem_of_mem_drop hr)
  have hok : OkA A (spl us (o * sz) vs) (putR rs new o).length cc sz := by
    rw [putR_len ho]; exact ⟨g3.form, by rw [spl_length]; exact g3.len, g3.cap, g3.max⟩
  refine ⟨A, cc, us, ⟨F, w0, f (hbA A e (spl us (o * sz) vs) cc sz)⟩, g2, g3, g4, g5, rfl, ⟨g.fF, g.fw, g.gF, g.gx, g.fm, g.tm, g7 (.ar e sz _) _ ⟨A, cc, _, rfl, g2, hok, hmid, hr'⟩⟩, ?_⟩
  rcases g3.form with ⟨rfl, h1, rfl⟩ | ⟨b, rfl⟩
  · left
    have : new = [] := List.eq_nil_of_length_eq_zero (by omega)
    refine ⟨this, fun w hw => ?_⟩
    have e := g6.eq
    simp only [hbA] at e ⊢
    rw [e]; exact hw
  · right
    refine ⟨b, rfl, fun w hw => ⟨hw.blk b _ (g6.mem (by rw [hbA_some]; exact List.mem_singleton.2 rfl)), fun w' hs hb => ?_⟩⟩
    obtain ⟨junk, q1, q2⟩ := hb
    exact hw.upd (x := ⟨e, us, cc * sz⟩) (g6.updB (by rw [hbA_some])) hs ⟨junk, q1, q2⟩
omit hT in
theorem run_app_room {t e e' : TypeId} {size bytes : Nat} (ST : SliceTy P t e size bytes) (ty : TypeId) {A B : Option Addr} {n m cc d tot : Nat} {us vs : List Value} {w : World} (hc : n + m ≤ cc) (hr : Rd w B vs) (hl : vs.length = m * size) (h1 : vs.all Value.oneCell' = true)
    (hb : m = 0 ∨ ∃ b, A = some ⟨b, 0, none⟩ ∧ HasB w b ⟨e', us, tot⟩) (hlen : n * size + vs.length ≤ us.length) :
    ∃ w', (Builtin.append_ #[t, t] ty #[.slice A n cc, .slice B m d]).run P w = .ok (.slice A (n + m) cc) w' ∧ (m = 0 → w' = w) ∧ ∀ b, A = some ⟨b, 0, none⟩ → Same (· ≠ b) w w' ∧ (HasB w b ⟨e', us, tot⟩ → HasB w' b ⟨e', spl us (n * size) vs, tot⟩) := by
  obtain ⟨ht, ⟨i, z, hi, hz, hsize, hby, hzs⟩, hsz⟩ := ST
  rcases Nat.eq_zero_or_pos m with h0 | h0
  · subst h0
    have : vs = [] := List.eq_nil_of_length_eq_zero (by rw [hl]; simp)
    subst this
    refine ⟨w, ?_, fun _ => rfl, fun b hb => ⟨Same.refl _ _, fun h => by rw [spl_nil]; exact h⟩⟩
    rcases A with _ | a <;> rcases B with _ | b <;> simp [Builtin.append_, run_underlying ht, sizeOf, typeInfo, hi, Builtin.lenOf, Builtin.firstCells, storeCells, (show n ≤ cc by omega), loadCells, loadCellsFrom]
  · rcases hb with hb | ⟨b, rfl, hblk⟩
    · omega
    · obtain ⟨junk, g1, g2⟩ := hblk
      obtain ⟨sb, so, rfl, _, hcell⟩ := hr (by rw [hl]; exact Nat.mul_pos h0 hsz)
      have hl' := run_loadCells_list (P := P) w ⟨sb, so, none⟩ vs (by
        intro j v hj
        have := hcell j v hj
        unfold Addr.add
        split
        · rename_i h0; subst h0; exact this
        · exact this)
      rw [hl] at hl'
      obtain ⟨w', e1, e2, e3⟩ := run_storeCells (P := P) vs us w junk (n * size) 0 g1 (by simpa using hlen) h1
      have hadd : (⟨b, 0, none⟩ : Addr).add (n * size) = ⟨b, n * size, none⟩ := by unfold Addr.add; split <;> simp_all
      refine ⟨w', ?_, fun h => by omega, fun b' hb' => ?_⟩
      · simp [Builtin.append_, run_underlying ht, sizeOf, typeInfo, hi, Builtin.lenOf, Builtin.firstCells, hsize, hl', hc, hadd, e1]
      · injection hb' with hb'; injection hb' with hb'; subst hb'
        exact ⟨e2, fun _ => ⟨junk, by simpa using e3, by rw [spl_length]; exact g2⟩⟩
/-- append within an own array that has room. -/
theorem Raw.appendIn {x y : Operand} {t t' : TypeId} {d k n off m e sz : Nat} {tmT : List (Nat × SV)} {ob : List (Nat × Ob)} {rs : List (List V)} {i : Ty} {jk : Tk} {jb : Nat} {jz : List Value} (hx : evT tmT x = some (.d (.ow k n))) (hy : evT tmT y = some (.d (.ows k off m))) (hk : lk k ob = some (.ar e sz rs))
    (ht : lk t T = some i) (hi : i.k = .sl e) (hj : lk e T = some ⟨jk, sz, jb, jz⟩) (ht' : Nat.beq t t' = true) (hpos : Nat.blt 0 sz = true) (hz : jz.length = sz) (hd : Nat.blt d nt = true) (h1 : n + m ≤ rs.length) (h2 : off + m ≤ rs.length) (hK : K ((d, .d (.ow k (n + m))) :: tmT) (obu k (.ar e sz (putR rs ((rs.drop off).take m) n)) ob)) :
    Raw P nt ⟨some d, .call ⟨.builtin .append, #[x, y], #[t, t']⟩, ty, pos, af, gd⟩ tmT ob K := ⟨fun Q c tm h ρ G g => by
  have := Nat.eq_of_beq_eq_true ht'
  subst this
  have hpos' : 0 < sz := by simpa [Nat.blt_eq] using hpos
  obtain ⟨vx, x1, x2⟩ := g.ev hx
  obtain ⟨vy, y1, y2⟩ := g.ev hy
  cases x2 with | d x2 => cases x2 with | @ow _ _ l x0 xA xc =>
  cases y2 with | d y2 => cases y2 with | @ows _ _ _ c2 sz2 A2 y0 yc =>
  rw [x0] at y0
  injection y0 with y0
  subst y0
  have hlm : ((rs.drop off).take m).length = m := by simp; omega
  obtain ⟨X, f, ⟨A0, cc0, us0, rfl, g2, g3, g4, g5⟩, g6⟩ := g.ob.at_ hk
  rw [x0] at g2
  injection g2 with g2
  injection g2 with e1 e2 e3
  subst e1 e2 e3
  -- the source
  have hsub : ∀ (j : Nat) dd, ((rs.drop off).take m).flatten[j]? = some dd → rs.flatten[off * sz2 + j]? = some dd := by
    intro j dd hjj
    rw [flat_take (fun r h => g5 r (List.mem_of_mem_drop h)) m (by simp; omega), flat_drop g5 off (by omega)] at hjj
    rw [List.getElem?_take] at hjj
    split at hjj
    · rwa [List.getElem?_drop] at hjj
    · cases hjj
  obtain ⟨vs, v1, v2⟩ := g4.part hsub
  obtain ⟨A, cc, us, h', q1, q2, q3, q4, q5, q6, q7⟩ := g.write hk v1 (fun r h => g5 r (List.mem_of_mem_drop (List.mem_of_mem_take h))) (by rw [hlm]; exact h1)
  rw [x0] at q1
  injection q1 with q1
  injection q1 with e1 e2 _
  subst e1 e2
  have hvl : vs.length = m * sz2 := by rw [v1.len, flat_len (fun r h => g5 r (List.mem_of_mem_drop (List.mem_of_mem_take h))), hlm]
  have hcap := g3.cap
  have ST := TyOk.slice (P := P) ht hi hj (by dsimp only; exact hz) hpos'
  refine OpS.of_run hd fun a w ha hw => ?_
  -- the source's cells
  have hrd : Rd w (if c2 = off then A2 else A2.map (·.add (off * sz2))) vs := by
    intro h0
    have hm0 : 0 < m := by rcases Nat.eq_zero_or_pos m with h | h; · rw [hvl, h] at h0; simp at h0
                           · exact h
    rcases g3.form with ⟨_, h3, _⟩ | ⟨b, rfl⟩
    · omega
    · have hmem := g6.mem (p := (b, (⟨e, us0, c2 * sz2⟩ : Hb))) (by rw [hbA_some]; exact List.mem_singleton.2 rfl)
      have hblk := hw.blk b _ hmem
      have hadd : (⟨b, 0, none⟩ : Addr).add (off * sz2) = ⟨b, off * sz2, none⟩ := by unfold Addr.add; split <;> simp_all
      rw [if_neg (by omega)]
      simp only [Option.map_some, hadd]
      exact ⟨b, off * sz2, rfl, hblk.lt, fun jj u hu => hblk.cell (x := ⟨e, us0, _⟩) (v2 jj u hu)⟩
  have hones : vs.all Value.oneCell' = true := v1.one
  have hlen2 : n * sz2 + vs.length ≤ us.length := by
    rw [hvl, ← Nat.add_mul, q2.len]; exact Nat.mul_le_mul_right _ h1
  obtain ⟨w', r1, r2, r3⟩ := run_app_room ST ty (A := A2) (n := n) (m := m) (cc := c2) (us := us) (vs := vs) (tot := c2 * sz2) (e' := e) (w := w) (by omega) hrd hvl hones (by
    rcases q7 with ⟨h0, _⟩ | ⟨b, hb, hq⟩
    · left
      have := congrArg List.length h0
      simp only [List.length_nil] at this
      omega
    · exact .inr ⟨b, hb, (hq w hw).1⟩) hlen2 (d := c2 - off)
  refine ⟨.slice A2 (n + m) c2, w', h', ?_, ?_, ?_⟩
  · simp only [execOp, resolve, invoke, builtin, ha.ev x1, ha.ev y1, Sem.run_bind, Sem.run_pure, Result.andThen_ok, List.map_toArray, List.map_cons, List.map_nil, r1]
  · rcases q7 with ⟨h0, hh⟩ | ⟨b, hb, hq⟩
    · have h0l := congrArg List.length h0
      simp only [List.length_nil] at h0l
      rw [r2 (by omega)]; exact hh w hw
    · rcases r3 b hb with ⟨s1, s2⟩
      exact (hq w hw).2 w' s1 (s2 (hq w hw).1)
  · refine .of (st := ⟨(d, .d (.ow k (n + m))) :: tmT, _⟩) (q6.put (d := d) (s := .d (.ow k (n + m))) (.d (.ow (l := ⟨A2, c2, sz2⟩) x0 (fun e0 => ?_) (by dsimp only; omega)))) hK
    rcases g3.form with ⟨_, h3, _⟩ | ⟨b, h3⟩
    · omega
    · dsimp only at e0; rw [h3] at e0; cases e0⟩
/-- clear of a part of an own array. -/
theorem Raw.clear {x : Operand} {t : TypeId} {k n off e sz : Nat} {tmT : List (Nat × SV)} {ob : List (Nat × Ob)} {rs : List (List V)} {zs : List V} {i : Ty} {jk : Tk} {jb : Nat} {jz : List Value} (hx : evT tmT x = some (.d (.ows k off n))) (hk : lk k ob = some (.ar e sz rs))
    (ht : lk t T = some i) (hi : i.k = .sl e) (hj : lk e T = some ⟨jk, sz, jb, jz⟩) (hz : vzT jz = some zs) (hl : jz.length = sz) (h1 : off + n ≤ rs.length) (hK : K tmT (obu k (.ar e sz (putR rs (List.replicate n zs) off)) ob)) :
    Raw P nt ⟨none, .call ⟨.builtin .clear, #[x], #[t]⟩, ty, pos, af, gd⟩ tmT ob K := ⟨fun Q c tm h ρ G g => by
  obtain ⟨vx, x1, x2⟩ := g.ev hx
  cases x2 with | d x2 => cases x2 with | @ows _ _ _ c2 sz2 A2 x0 xc =>
  have hzd : DenVL ⟨G, h.w0⟩ zs jz := vzT_den hz
  have hzl : zs.length = sz := by rw [← hzd.len]; exact hl
  have hrep : ∀ n, DenVL ⟨G, h.w0⟩ (List.replicate n zs).flatten (zrepT jz n) := fun n => by
    induction n with
    | zero => exact .nil
    | succ n ih => simp only [List.replicate_succ, List.flatten_cons, zrepT]; exact hzd.app ih
  obtain ⟨A, cc, us, h', q1, q2, q3, q4, q5, q6, q7⟩ := g.write hk (hrep n) (fun r h => by rw [List.eq_of_mem_replicate h]; exact hzl) (by rw [List.length_replicate]; exact h1)
  rw [x0] at q1
  injection q1 with q1
  injection q1 with e1 e2 e3
  subst e1 e2 e3
  have hu := (hT.ok t i ht).kind
  rw [hi] at hu
  have hu : P.underlying t = some (.slice e) := hu
  refine ⟨fun a w ha hw => ?_⟩
  obtain ⟨zv, z1, z2⟩ := (hT.ok e _ hj).run_zero w
  have hzc : (Builtin.zeroCells zv.cells n).toList = zrepT jz n := by
    have e1 : zv.cells = jz.toArray := by
      have z2' : zv.cells.toList = jz := z2
      rw [← z2']
    rw [zrepT_eq]
    simp [Builtin.zeroCells, e1, Array.toList_map, Array.toList_range]
  unfold Oper.wp
  rcases q7 with ⟨h0, hh⟩ | ⟨b, rfl, hq⟩
  · have hn : n = 0 := by have := congrArg List.length h0; simpa using this
    subst hn
    have hrun : (execOp a.eval ⟨none, .call ⟨.builtin .clear, #[x], #[t]⟩, ty, pos, af, gd⟩).run P w = .ok (.value (.tuple #[])) w := by
      generalize (if c2 = off then A2 else A2.map (·.add (off * sz2))) = AA at x1
      rcases AA with _ | ad <;> simp [execOp, resolve, invoke, builtin, ha.ev x1, Builtin.clear_, run_underlying hu]
    rw [hrun]
    exact ⟨tm, h', ha.put_none _, hh w hw, .of (st := ⟨tmT, _⟩) q6 hK⟩
  · rcases Nat.eq_zero_or_pos n with hn | hn
    · subst hn
      obtain ⟨s1, s2⟩ := hq w hw
      have hrun : (execOp a.eval ⟨none, .call ⟨.builtin .clear, #[x], #[t]⟩, ty, pos, af, gd⟩).run P w = .ok (.value (.tuple #[])) w := by
        generalize (if c2 = off then some (⟨b, 0, none⟩ : Addr) else (some (⟨b, 0, none⟩ : Addr)).map (·.add (off * sz2))) = AA at x1
        rcases AA with _ | ad <;> simp [execOp, resolve, invoke, builtin, ha.ev x1, Builtin.clear_, run_underlying hu]
      rw [hrun]
      exact ⟨tm, h', ha.put_none _, s2 w (Same.refl _ _) (by simp only [zrepT, spl_nil]; exact s1), .of (st := ⟨tmT, _⟩) q6 hK⟩
    · obtain ⟨⟨junk, g1, g2⟩, s2⟩ := hq w hw
      have hadd : (⟨b, 0, none⟩ : Addr).add (off * sz2) = ⟨b, off * sz2, none⟩ := by unfold Addr.add; split <;> simp_all
      have hne : ¬ c2 = off := by omega
      have hlen : off * sz2 + (zrepT jz n).length ≤ us.length := by
        rw [zrepT_len, hl, ← Nat.add_mul, q2.len]; exact Nat.mul_le_mul_right _ h1
      have hone : (zrepT jz n).all Value.oneCell' = true := (hrep n).one
      obtain ⟨w', e1, e2, e3⟩ := run_storeCells (P := P) (zrepT jz n) us w junk (off * sz2) 0 g1 (by simpa using hlen) hone
      have hrun : (execOp a.eval ⟨none, .call ⟨.builtin .clear, #[x], #[t]⟩, ty, pos, af, gd⟩).run P w = .ok (.value (.tuple #[])) w' := by
        have hn' : n ≠ 0 := by omega
        obtain ⟨n', rfl⟩ : ∃ n', n = n' + 1 := ⟨n - 1, by omega⟩
        simp [execOp, resolve, invoke, builtin, ha.ev x1, Builtin.clear_, run_underlying hu, hne, hadd, z1, hzc, e1]
      rw [hrun]
      exact ⟨tm, h', ha.put_none _, s2 w' e2 ⟨junk, by simpa using e3, by rw [spl_length]; exact g2⟩, .of (st := ⟨tmT, _⟩) q6 hK⟩⟩
omit hT in
/-- A call that gives new own objects and lends none: all that was known stays. -/
theorem RawK.callN {f : FuncId} {xs : Array Operand} {ts : Array TypeId} {d : Tmp} {tmT : List (Nat × SV)} {ob : List (Nat × Ob)} (ns : List Nat) {ss : List SV} {QS : SV → List (Nat × Ob) → Prop} (hx : evLT tmT xs.toList = some ss)
    (h1 : okTm (fun k => !inN ns k) tmT = true) (h2 : okO (fun k => !inN ns k) ob = true) (hd : Nat.blt d nt = true) (hc : CallsA P f ss [] QS) (k : ∀ s ob', QS s ob' → Bk (some d) ns tmT ob K s ob') : RawK P nt ⟨some d, .call ⟨.value (.func f), xs, ts⟩, ty, pos, af, gd⟩ tmT ob K := ⟨fun Q c tm h ρ G g => by
  obtain ⟨vs, a1, ⟨fn, cd, f1, f2, f3⟩, a3⟩ := callO_out (obP := []) (tmK := tmT) g hx (fun _ _ h => h) h1 h2 rfl hc
  have hxs : xs = xs.toList.toArray := by simp
  rw [hxs]
  refine OpS.call (P := P) (nt := nt) (Q := Q) (h := h) (fun v h2 => Kk h c K ((d, v) :: tm) h2) f1 f2 f3 a1 hd (fun w hw => (a3 w hw).mono ?_) fun _ _ hk => hk
  rintro e w' ⟨v, h3, s, ob', ρ', G', rfl, hw3, hq, hg, hkp⟩
  obtain ⟨b1, b2, b3⟩ := k s ob' hq
  obtain ⟨q1, q2⟩ := hg b1 b2
  exact ⟨v, h3, rfl, hw3, .of (hkp rfl) (q2.put q1) b3⟩⟩
end
section
variable {P : Program} {f : FuncId} {ss : List SV}
/-- A contract whose answer is a slice in a new own array. -/
theorem callsA_own {k e sz n : Nat} {rs : List (List V)} {cells : List Value} (hf : FnOk P f) (hn : rs.length = n) (hd : ∀ z, DenVL z rs.flatten cells) (hr : ∀ r ∈ rs, r.length = sz) (h : ∀ (ρ : Rho) (G : FG) (w : World) (vs : List Value), ArgsAt ρ G w ss vs → Calls P f vs.toArray w fun r w' => ∃ A c, r = .returned (.slice A n c) ∧ w'.ownsRow w.heap.size e sz (.slice A n c) n cells ∧ Below w.heap.size w w') :
    CallsA P f ss [] (Iso (.d (.ow k n)) [(k, .ar e sz rs)]) := by
  refine ⟨hf, fun c ρ hp vs w hw hl g => ?_⟩
  refine (h ρ c.G w vs (Gd.args hw hl g)).mono ?_
  rintro r w' ⟨A, cc, rfl, ho, hb⟩
  have hhp : hp = [] := g.ob
  subst hhp
  have hok := OkA.of_own ho
  have hw' := hw.addRow hb (Nat.le_refl _) ho
  rw [List.append_nil] at hw'
  refine ⟨_, _, .d (.ow k n), [(k, .ar e sz rs)], ⟨fun j => if j = k then some ⟨A, cc, sz⟩ else ρ j, ρ.os⟩, c.G, rfl, hw', ⟨fun _ h => h, Same.refl _ _, g.gF, fun _ h => .inl h, .refl _, fun j s' hk => ?_, ⟨_, [], by simp, ⟨A, cc, cells, rfl, by simp, by rw [hn]; exact hok, hd _, hr⟩, rfl⟩⟩, rfl, rfl⟩
  simp only [lk] at hk ⊢
  cases hb : Nat.beq j 0 <;> rw [hb] at hk
  · cases hk
  · simp at hk
    subst hk
    refine ⟨_, rfl, .d (.ow (l := ⟨A, cc, sz⟩) (by simp) (fun e => ?_) hok.cap)⟩
    rcases hok.form with ⟨_, h0, _⟩ | ⟨b, h0⟩
    · exact h0
    · dsimp only at e; rw [h0] at e; cases e
/-- Own objects of an answer get other names. -/
theorem CallsA.renO {ob ob0 ob1 : List (Nat × Ob)} {s0 s1 : SV} (h : CallsA P f ss ob (Iso s0 ob0)) (src : Src) (ls : LeS src s0 s1) (lo : LeO src ob0 ob1) : CallsA P f ss ob (Iso s1 ob1) :=
  ⟨h.fn, fun c ρ hp vs w hw hl g => (h.out c ρ hp vs w hw hl g).mono fun e w' ⟨v, h', s, ob', ρ', G', e1, e2, e3, e4, e5⟩ => by
    subst e4 e5
    obtain ⟨h2, hh, g2⟩ := e3.le (S := ⟨[(0, s1)], ob1⟩) ⟨.cons rfl ls .nil, lo⟩
    exact ⟨v, h2, s1, ob1, _, G', e1, hh w' e2, g2, rfl, rfl⟩⟩
end
/-- The slots whose names satisfy p; ks: slots that are dropped already. -/
def keepTm (p : Nat → Bool) : List Nat → List (Nat × SV) → List (Nat × SV)
  | _, [] => []
  | ks, (k, s) :: r => bif inN ks k then keepTm p ks r else bif s.okP p then (k, s) :: keepTm p ks r else keepTm p (k :: ks) r
theorem keepTm_get {p : Nat → Bool} : ∀ {tm : List (Nat × SV)} {ks : List Nat} {k : Nat} {s : SV}, lk k (keepTm p ks tm) = some s → inN ks k = false ∧ lk k tm = some s
  | [], _, _, _, h => by simp [keepTm, lk] at h
  | (j, x) :: r, ks, k, s, h => by
    simp only [keepTm] at h
    simp only [lk]
    cases h1 : inN ks j <;> simp only [h1, cond_false, cond_true] at h
    · cases h2 : x.okP p <;> simp only [h2, cond_false, cond_true] at h
      · obtain ⟨q1, q2⟩ := keepTm_get h
        simp only [inN] at q1
        cases hb : Nat.beq k j <;> simp only [hb, cond_false, cond_true] at q1 ⊢
        · exact ⟨q1, q2⟩
        · cases q1
      · simp only [lk] at h
        cases hb : Nat.beq k j <;> simp only [hb, cond_false, cond_true] at h ⊢
        · exact keepTm_get h
        · rw [Nat.eq_of_beq_eq_true hb]; exact ⟨h1, h⟩
    · obtain ⟨q1, q2⟩ := keepTm_get h
      cases hb : Nat.beq k j
      · exact ⟨q1, q2⟩
      · rw [Nat.eq_of_beq_eq_true hb, h1] at q1; cases q1
theorem keepTm_ok {p : Nat → Bool} : ∀ {tm : List (Nat × SV)} {ks : List Nat}, okTm p (keepTm p ks tm) = true
  | [], _ => rfl
  | (j, x) :: r, ks => by
    simp only [keepTm]
    cases inN ks j
    · cases h2 : x.okP p
      · exact keepTm_ok
      · simp only [cond_false, cond_true, okTm, h2]; exact keepTm_ok
    · exact keepTm_ok
/-- The objects that are lent, and the others. -/
def splitOb (ps : List Nat) : List (Nat × Ob) → List (Nat × Ob) × List (Nat × Ob)
  | [] => ([], [])
  | (k, o) :: r => bif inN ps k then ((k, o) :: (splitOb ps r).1, (splitOb ps r).2) else ((splitOb ps r).1, (k, o) :: (splitOb ps r).2)
theorem splitOb_ok {ρ : Rho} {z : Fz} {ps : List Nat} : ∀ {ob : List (Nat × Ob)} {hp : List (Nat × Hb)}, ObsOk ρ z ob hp → ∃ ha hb, ObsOk ρ z (splitOb ps ob).1 ha ∧ ObsOk ρ z (splitOb ps ob).2 hb ∧ hp.Perm (ha ++ hb)
  | [], hp, h => ⟨[], [], rfl, rfl, by have : hp = [] := h; subst this; exact .refl _⟩
  | (k, o) :: r, hp, ⟨X, hp', h1, h2, h3⟩ => by
    obtain ⟨ha, hb, q1, q2, q3⟩ := splitOb_ok (ps := ps) h3
    simp only [splitOb]
    subst h1
    cases inN ps k
    · refine ⟨ha, X ++ hb, q1, ⟨X, hb, rfl, h2, q2⟩, ?_⟩
      refine (q3.append_left X).trans ?_
      rw [← List.append_assoc, ← List.append_assoc]
      exact List.perm_append_comm.append_right _
    · exact ⟨X ++ ha, hb, ⟨X, ha, rfl, h2, q1⟩, q2, by rw [List.append_assoc]; exact q3.append_left X⟩
/-- Cells that name what is lent are forgotten. -/
def cleanL (p : Nat → Bool) : List D → List D
  | [] => []
  | x :: r => (bif x.okP p then x else .any) :: cleanL p r
def cleanOb (p : Nat → Bool) : List (Nat × Ob) → List (Nat × Ob)
  | [] => []
  | (k, .bx t cs) :: r => (k, .bx t (cleanL p cs)) :: cleanOb p r
  | (k, .ar t sz rs) :: r => (k, .ar t sz rs) :: cleanOb p r
  | (k, .fm t rs) :: r => (k, .fm t rs) :: cleanOb p r
theorem cleanL_ok {ρ : Rho} {z : Fz} {p : Nat → Bool} : ∀ {cs : List D} {us : List Value}, DenL ρ z cs us → (cleanL p cs).length = cs.length ∧ DenL ρ z (cleanL p cs) us
  | [], us, h => ⟨rfl, h⟩
  | x :: r, us, h => by
    have hl := h.len
    cases us with
    | nil => simp at hl
    | cons u us =>
      obtain ⟨q1, q2⟩ := cleanL_ok (p := p) (us := us) (cs := r) ⟨by simpa using hl, by have := h.one; simp at this; simpa using this.2, fun j d v e1 e2 => h.den (j + 1) d v (by simpa using e1) (by simpa using e2)⟩
      have h0 := h.den 0 x u rfl rfl
      refine ⟨by simp [cleanL, q1], ?_⟩
      simp only [cleanL]
      cases x.okP p
      · exact q2.cons (.any h0.one)
      · exact q2.cons h0
theorem cleanOb_ok {ρ : Rho} {z : Fz} {p : Nat → Bool} : ∀ {ob : List (Nat × Ob)} {hp : List (Nat × Hb)}, ObsOk ρ z ob hp → ObsOk ρ z (cleanOb p ob) hp
  | [], _, h => h
  | (k, .bx t cs) :: r, _, ⟨X, hp', h1, ⟨b, us, h2, h3, h4⟩, h5⟩ => by
    obtain ⟨q1, q2⟩ := cleanL_ok (p := p) h4
    exact ⟨X, hp', h1, ⟨b, us, by rw [q1]; exact h2, by rw [q1]; exact h3, q2⟩, cleanOb_ok h5⟩
  | (k, .ar t sz rs) :: r, _, ⟨X, hp', h1, h2, h5⟩ => ⟨X, hp', h1, h2, cleanOb_ok h5⟩
  | (k, .fm t rs) :: r, _, ⟨X, hp', h1, h2, h5⟩ => ⟨X, hp', h1, h2, cleanOb_ok h5⟩
section
variable {P : Program} {T : List (Nat × Ty)} {nt : Nat} {ty : TypeId} {pos : String} {af : Array Edge} {gd : Option (Nat × Bool)} {K : Kt}
/-- A call that lends the objects ps; ns: the names that it may give anew. -/
theorem Raw.callI {f : FuncId} {xs : Array Operand} {ts : Array TypeId} {d : Option Tmp} {tmT tmK : List (Nat × SV)} {ob obP obF : List (Nat × Ob)} (ps ns : List Nat) {ss : List SV} {QS : SV → List (Nat × Ob) → Prop} (hT : keepTm (fun k => !inN ns k) [] tmT = tmK) (hO : (splitOb ps ob).1 = obP) (hO' : cleanOb (fun k => !inN ns k) (splitOb ps ob).2 = obF) (hx : evLT tmT xs.toList = some ss)
    (h2 : okO (fun k => !inN ns k) obF = true) (h3 : okO (inN ns) obP = true) (hd : (match d with | some d => Nat.blt d nt | none => true) = true) (hc : CallsA P f ss obP QS) (k : ∀ s ob', QS s ob' → Bk d ns tmK obF K s ob') : Raw P nt ⟨d, .call ⟨.value (.func f), xs, ts⟩, ty, pos, af, gd⟩ tmT ob K := ⟨fun Q c tm h ρ G g => by
  obtain ⟨F, w0, hp⟩ := h
  obtain ⟨ha, hb, o1, o2, o3⟩ := splitOb_ok (ps := ps) g.ob
  rw [hO] at o1
  replace o2 := cleanOb_ok (p := fun k => !inN ns k) o2
  rw [hO'] at o2
  have g2 : Gd c ⟨tmT, obP ++ obF⟩ tm ⟨F, w0, ha ++ hb⟩ ρ G := ⟨g.fF, g.fw, g.gF, g.gx, g.fm, g.tm, o1.append o2⟩
  have hh : ∀ w, Hp ⟨F, w0, hp⟩ w → Hp ⟨F, w0, ha ++ hb⟩ w := fun w hw => hw.perm o3
  subst hT
  obtain ⟨vs, a1, ⟨fn, cd, f1, f2, f3⟩, a3⟩ := callO_out g2 hx (fun k s h => (keepTm_get h).2) keepTm_ok h2 h3 hc
  have hxs : xs = xs.toList.toArray := by simp
  rw [hxs]
  cases d with
  | some d =>
    refine OpS.call (P := P) (nt := nt) (Q := Q) (fun v h2 => Kd c K ((d, v) :: tm) h2) f1 f2 f3 a1 hd (fun w hw => (a3 w (hh w hw)).mono ?_) fun _ _ hk => hk
    rintro e w' ⟨v, h3, s, ob', ρ', G', rfl, hw3, hq, hg, _⟩
    obtain ⟨b1, b2, b3⟩ := k s ob' hq
    obtain ⟨q1, q2⟩ := hg b1 b2
    exact ⟨v, h3, rfl, hw3, .of (q2.put q1) b3⟩
  | none =>
    refine OpS.call0 (P := P) (nt := nt) (Q := Q) (fun v h2 => Kd c K tm h2) f1 f2 f3 a1 (fun w hw => (a3 w (hh w hw)).mono ?_) fun _ _ hk => hk
    rintro e w' ⟨v, h3, s, ob', ρ', G', rfl, hw3, hq, hg, _⟩
    obtain ⟨b1, b2, b3⟩ := k s ob' hq
    obtain ⟨q1, q2⟩ := hg b1 b2
    exact ⟨v, h3, rfl, hw3, .of q2 b3⟩⟩
/-- What a contract asks is seen otherwise. -/
theorem CallsA.renI {f : FuncId} {ss ss' : List SV} {ob ob' : List (Nat × Ob)} {Q : SV → List (Nat × Ob) → Prop} (h : CallsA P f ss ob Q) (src : Src) (hl : ss'.length = ss.length) (ls : LeT src (slT 0 ss') (slT 0 ss)) (lo : LeO src ob' ob) : CallsA P f ss' ob' Q :=
  ⟨h.fn, fun c ρ hp vs w hw hv g => by
    obtain ⟨hp2, hh, g2⟩ := g.leF (S := ⟨slT 0 ss, ob⟩) ⟨ls, lo⟩
    exact h.out c _ hp2 vs w (hh w hw) (by rw [hv, hl]) g2⟩
end
end Go.Proofs.Ytgiebofmfkacgaa

/-
  Elder contracts as contracts on trees; a law's contract as its row asks it. Of no program.
-/
namespace Go.Proofs.Ytgiebofmfkacgaa
open Go.RowKit

section
variable {P : Program} {f : FuncId} {ss : List SV}
/-- A contract whose answer lies in no memory. -/
theorem callsA_flat {s : SV} {u : Value} (hf : FnOk P f) (hs : ∀ ρ z, DenS ρ z s u) (h : ∀ (ρ : Rho) (G : FG) (w : World) (vs : List Value), ArgsAt ρ G w ss vs → Calls P f vs.toArray w fun e w' => e = .returned u ∧ Below w.heap.size w w') : CallsA P f ss [] fun s' ob => s' = s ∧ ob = [] := by
  refine ⟨hf, fun c ρ hp vs w hw hl g => ?_⟩
  refine (h ρ c.G w vs (Gd.args hw hl g)).mono ?_
  rintro e w' ⟨rfl, hb⟩
  have hhp : hp = [] := g.ob
  subst hhp
  exact ⟨u, ⟨c.F, c.w, []⟩, s, [], ρ, c.G, rfl, hw.below hb, ⟨fun _ h => h, Same.refl _ _, g.gF, fun _ h => .inl h, .refl _, fun k s' hk => by
    simp only [lk] at hk ⊢
    cases hb : Nat.beq k 0 <;> rw [hb] at hk
    · cases hk
    · simp at hk; subst hk; exact ⟨u, rfl, hs _ _⟩, rfl⟩, rfl, rfl⟩
/-- A contract whose answer lies in new memory. -/
theorem callsA_fresh {s : SV} (hf : FnOk P f) (h : ∀ (ρ : Rho) (G : FG) (w : World) (vs : List Value), ArgsAt ρ G w ss vs → Calls P f vs.toArray w fun e w' => ∃ u, e = .returned u ∧ Below w.heap.size w w' ∧ ∀ (ρ : Rho) (G : FG), (∀ b, w.heap.size ≤ b → b < w'.heap.size → G b) → DenS ρ ⟨G, w'⟩ s u) : CallsA P f ss [] fun s' ob => s' = s ∧ ob = [] := by
  refine ⟨hf, fun c ρ hp vs w hw hl g => ?_⟩
  refine (h ρ c.G w vs (Gd.args hw hl g)).mono ?_
  rintro e w' ⟨u, rfl, hb, hs⟩
  have hhp : hp = [] := g.ob
  subst hhp
  have hw' := hw.below hb
  refine ⟨u, ⟨fun b => c.F b ∨ (w.heap.size ≤ b ∧ b < w'.heap.size), w', []⟩, s, [], ρ, ⟨fun b => w.heap.size ≤ b ∧ b < w'.heap.size, c.G.fam, c.G.own⟩, rfl, ⟨Same.refl _ _, fun b hb => ?_, fun _ _ h => (by cases h), by simp, fun _ _ h => (by cases h)⟩, ⟨fun _ h => .inl h, hw'.same, fun _ h => .inr h, fun b hb => .inr fun hF => absurd (hw.Flt hF) (by have : w.heap.size ≤ b := hb.1; omega), ⟨rfl, fun _ _ => rfl, fun _ _ _ h => h⟩, fun k s' hk => ?_, rfl⟩, rfl, rfl⟩
  · rcases hb with hb | hb
    · exact hw'.Flt hb
    · exact hb.2
  · simp only [lk] at hk ⊢
    cases hb : Nat.beq k 0 <;> rw [hb] at hk
    · cases hk
    · simp at hk; subst hk; exact ⟨u, rfl, hs _ _ fun b h1 h2 => ⟨h1, h2⟩⟩
/-- Where a law begins. -/
def rho0 : Rho := ⟨fun _ => none, fun _ _ _ => none⟩
def fg0 (W : World) : FG := ⟨fun b => b < W.heap.size, fun _ => [], fun _ => True⟩
/-- A law's contract as its row asks it. -/
theorem calls_of_A {vs : List Value} {W : World} (h : CallsA P f ss [] fun s ob => s = .d (.u (.bool true)) ∧ ob = []) (hv : ArgsAt rho0 (fg0 W) W ss vs) : Calls P f vs.toArray W fun e W' => e = .returned (.bool true) ∧ Below W.heap.size W W' := by
  refine (h.out ⟨(· < W.heap.size), W, fg0 W⟩ rho0 [] vs W (Hp.init W) hv.1 ⟨fun _ h => h, Same.refl _ _, fun _ h => h, fun _ h => .inl h, .refl _, fun k s hk => ?_, rfl⟩).mono ?_
  · obtain ⟨h1, h2⟩ := lk_slT hk
    have hlt : k - 0 < vs.length := by rw [hv.1]; exact (List.getElem?_eq_some_iff.1 h2).1
    exact ⟨vs[k - 0], lk_slots h1 (List.getElem?_eq_getElem hlt), hv.2.1 _ s _ h2 (List.getElem?_eq_getElem hlt)⟩
  · rintro e W' ⟨v, h', s, ob', ρ', G', rfl, hw', g', rfl, rfl⟩
    obtain ⟨u, e1, e2⟩ := g'.tm 0 _ rfl
    simp only [lk, Nat.beq_refl, cond_true, Option.some.injEq] at e1
    subst e1
    cases e2 with | d e2 => cases e2 with | u e2 => cases e2 with | bool =>
    exact ⟨rfl, (g'.fw.trans (hw'.same.mono g'.fF)).below⟩
end
/-- Rows that are read. -/
theorem rows_den {w : World} {ok : Nat → Prop} {G : FG} {α : Type} {g : α → List V} {xs : List α} {A : Option Addr} {cs : List Value} {sz cc : Nat} (hr : RdIn w ok A cs) (hG : ∀ b, ok b → b < w.heap.size → G b) (hd : ∀ z, DenVL z (xs.map g).flatten cs) (hs : ∀ x ∈ xs, (g x).length = sz) (hpos : 0 < sz) (hc : xs.length ≤ cc) (hm : xs.length ≤ maxLen) : DenV ⟨G, w⟩ (.sl sz (xs.map g)) (.slice A xs.length cc) := by
  have hlen : ∀ r ∈ xs.map g, r.length = sz := fun r h => by
    obtain ⟨x, h1, rfl⟩ := List.mem_map.1 h
    exact hs x h1
  by_cases hx : xs = []
  · subst hx
    exact .sl (b := 0) (o := 0) [] rfl hc hm hlen (fun h => absurd rfl h) (by simp) (fun j u h => by simp at h) rfl (fun j d u h => by simp at h)
  · have hcl : 0 < cs.length := by
      rw [(hd ⟨G, w⟩).len, flat_len hlen]
      have : 0 < xs.length := List.length_pos_iff.2 hx
      simpa using Nat.mul_pos this hpos
    obtain ⟨b, o, rfl, h1, h2, h3⟩ := hr hcl
    have d := hd ⟨G, w⟩
    exact .sl (b := b) (o := o) cs (by simp) hc hm hlen (fun _ => ⟨rfl, hG b h1 h2⟩) d.len h3 d.one d.den
theorem den_rows {w : World} {G : FG} {α : Type} {g : α → List V} {xs : List α} {v : Value} {cs : List Value} {sz : Nat} (h : DenV ⟨G, w⟩ (.sl sz (xs.map g)) v) (hG : ∀ b, G b → b < w.heap.size) (hd : ∀ z us, DenVL z (xs.map g).flatten us → us = cs) : ∃ A cc, v = .slice A xs.length cc ∧ Rd w A cs ∧ xs.length ≤ cc ∧ xs.length ≤ maxLen := by
  cases h with
  | @sl _ _ A n cc b o us hn hc hm hr hA hl hu h1 hdd =>
    have := hd _ us ⟨hl, h1, hdd⟩
    subst this
    have hn' : n = xs.length := by rw [← hn]; simp
    subst hn'
    refine ⟨A, cc, rfl, fun h0 => ?_, hc, hm⟩
    have hne : xs.map g ≠ [] := fun e => by rw [e] at hl; simp at hl; rw [hl] at h0; simp at h0
    obtain ⟨e1, e2⟩ := hA hne
    exact ⟨b, o, e1, hG b e2, hu⟩
end Go.Proofs.Ytgiebofmfkacgaa
namespace Go.Proofs.Ytgiebofmfkacgaa
open Go.RowKit
section
variable {P : Program} {w : World}
theorem run_copyK {dT sT e : TypeId} {size bytes : Nat} (ST : SliceTy P dT e size bytes) (ty : TypeId) {g o dLen dCap : Nat} {sb so sLen sCap : Nat} {cur : List Value} {t : TypeId} {cs : List Value} {n : Nat}
    (hg : w.heap[g]? = some (.cells cur.toArray t (0, 0))) (hn : n = Nat.min sLen dLen) (hl : cs.length = n * size)
    (hsrc : ∀ j v, cs[j]? = some v → w.cell? ⟨sb, so + j, none⟩ = some v) (hfit : o + cs.length ≤ cur.length) (h1 : ∀ v ∈ cs, v.oneCell' = true) :
    (Builtin.copy_ #[dT, sT] ty #[.slice (some ⟨g, o, none⟩) dLen dCap, .slice (some ⟨sb, so, none⟩) sLen sCap]).run P w = .ok (goInt n) (w.setRow g (splice cur o cs).toArray) := by
  obtain ⟨hu, ⟨i, z, hi, hz, hsize, hby, hzs⟩, hsz⟩ := ST
  have hl' := run_loadCells_list (P := P) w ⟨sb, so, none⟩ cs (by
    intro j v hj
    have := hsrc j v hj
    unfold Addr.add
    split
    · rename_i h0; subst h0; exact this
    · exact this)
  have hst := run_storeCells_at P g o t cs 0 cur.toArray w hg (by simpa using hfit) h1
  rw [hl] at hl'
  simp only [Nat.add_zero] at hst
  simp [Builtin.copy_, run_underlying hu, Builtin.lenOf, Builtin.firstCells, sizeOf, typeInfo, hi, hsize, ← hn, hl', hst, splice]
theorem setRow_at {g : Nat} {cur : Array Value} {t : TypeId} (hg : w.heap[g]? = some (.cells cur t (0, 0))) (cs : List Value) : (w.setRow g cs.toArray).heap[g]? = some (.cells cs.toArray t (0, 0)) := setRow_heap w g cur cs.toArray t _ hg
theorem setRow_grown (g : Nat) (cs : Array Value) : w.grownBy (w.setRow g cs) (some g) := ⟨rfl, rfl, rfl, by simp [World.setRow], fun k _ hk => setRow_other w g k _ (fun e => hk (by rw [e]))⟩

theorem wpList_appR {ops : Array Oper} {rest : List Oper} {o : Oper} {a : Act} {Q : Exit → Act → World → Prop} (hgd : o.guard = none) (d s : Operand) (t t' : TypeId)
    (ho : o.op = .call { callee := .builtin .append, args := #[d, s], argTypes := #[t, t'] }) (v u : Value) (hd : a.eval d = v) (hs : a.eval s = u) {v' : Value} {w' : World}
    (hr : (Builtin.append_ #[t, t'] o.type #[v, u]).run P w = .ok v' w') (h : wpList P ops Q rest (a.put o.dst v') w') : wpList P ops Q (o :: rest) a w :=
  wpList_plain hgd fun _ hK => by
    unfold Oper.wp execOp
    simp only [ho, resolve, invoke, builtin, Sem.run_bind, Sem.run_pure, Result.andThen_ok, List.map_toArray, List.map_cons, List.map_nil, hd, hs, hr]
    exact hK _ _ h
end
/-- An insertion, as two copies over a row with room. -/
theorem splice_insert {cur X Y V R : List Value} (h : cur = X ++ Y ++ R) (hr : V.length ≤ R.length) :
    (splice (splice cur (X.length + V.length) Y) X.length V).take (X.length + V.length + Y.length) = X ++ V ++ Y := by
  subst h
  have e1 : splice (X ++ Y ++ R) (X.length + V.length) Y = (X ++ Y ++ R).take (X.length + V.length) ++ (Y ++ (X ++ Y ++ R).drop (X.length + V.length + Y.length)) := rfl
  have e2 : (splice (X ++ Y ++ R) (X.length + V.length) Y).take X.length = X := by
    rw [e1, List.take_append_of_le_length (by simp), List.take_take, List.append_assoc, List.take_append_of_le_length (by omega)]
    simp
  have e3 : (splice (X ++ Y ++ R) (X.length + V.length) Y).drop (X.length + V.length) = Y ++ (X ++ Y ++ R).drop (X.length + V.length + Y.length) := by
    rw [e1, List.drop_append, List.drop_eq_nil_of_le (by simp; omega), List.nil_append, List.length_take, show X.length + V.length - min (X.length + V.length) (X ++ Y ++ R).length = 0 by simp; omega, List.drop_zero]
  have e4 : splice (splice (X ++ Y ++ R) (X.length + V.length) Y) X.length V = X ++ (V ++ (Y ++ (X ++ Y ++ R).drop (X.length + V.length + Y.length))) := by
    rw [show splice (splice (X ++ Y ++ R) (X.length + V.length) Y) X.length V = (splice (X ++ Y ++ R) (X.length + V.length) Y).take X.length ++ (V ++ (splice (X ++ Y ++ R) (X.length + V.length) Y).drop (X.length + V.length)) from rfl, e2, e3]
  rw [e4, ← List.append_assoc, ← List.append_assoc, List.take_append_of_le_length (by simp; omega)]
  exact List.take_of_length_le (by simp; omega)
/-- An insertion, as two copies over a new row. -/
theorem splice_insert2 {cur X Y V Z : List Value} (h : cur = X ++ Z) (hz : V.length + Y.length ≤ Z.length) :
    (splice (splice cur X.length V) (X.length + V.length) Y).take (X.length + V.length + Y.length) = X ++ V ++ Y := by
  subst h
  have e1 : splice (X ++ Z) X.length V = X ++ (V ++ Z.drop V.length) := by
    unfold splice
    rw [List.take_append_of_le_length (Nat.le_refl _), List.take_of_length_le (Nat.le_refl _), List.drop_append, List.drop_eq_nil_of_le (by omega), List.nil_append]
    congr 3; omega
  have e2 : splice (X ++ (V ++ Z.drop V.length)) (X.length + V.length) Y = X ++ V ++ (Y ++ (X ++ (V ++ Z.drop V.length)).drop (X.length + V.length + Y.length)) := by
    unfold splice
    congr 1
    rw [← List.append_assoc, List.take_append_of_le_length (by simp)]
    exact List.take_of_length_le (by simp)
  rw [e1, e2, ← List.append_assoc, List.take_append_of_le_length (by simp; omega)]
  exact List.take_of_length_le (by simp; omega)
end Go.Proofs.Ytgiebofmfkacgaa
namespace Go.Proofs.Ytgiebofmfkacgaa
open Go.RowKit

def inB (n lo hi : Int) : Bool := decide (lo ≤ n) && decide (n ≤ hi)

set_option maxHeartbeats 400000 in
theorem in_any (n lo hi : Int) (w : World) :
    Calls Try.prog 15 #[.int .i64 n, .int .i64 lo, .int .i64 hi] w fun e w' => e = .returned (.bool (inB n lo hi)) ∧ w = w' := by
  unfold inB
  by_cases h : lo ≤ n
  · go_enter Try.func15, Try.ntmps15
    go_wp2
    go_ret
    exact ⟨ret_bool (by simp [h]), rfl⟩
  · have h' : decide (lo ≤ n) = false := by simpa using h
    go_enter Try.func15, Try.ntmps15
    go_wp2
    go_ret
    exact ⟨ret_bool (by simp), rfl⟩

set_option maxHeartbeats 400000 in
theorem at_any (a b : Int) (w : World) :
    Calls Try.prog 16 #[.int .i64 a, .int .i64 b] w fun e w' => e = .returned (.agg #[.int .i64 a, .int .i64 b]) ∧ Below w.heap.size w w' := by
  go_enter Try.func16, Try.ntmps16
  go_wp2
  exact bodyPost_ret (v := .agg #[.int .i64 a, .int .i64 b]) (by simp [results, Try.results16, go_sem]) rfl ⟨rfl, (Below.refl _ _).alloc (Nat.le_refl _) _⟩

def has (zs : List Int) (x : Int) : Bool := zs.any (· == x)
def sameInts (xs ys : List Int) : Bool := xs == ys
end Go.Proofs.Ytgiebofmfkacgaa
namespace Go.Proofs.Ytgiebofmfkacgaa
open Go.RowKit

structure Tm where
  at_ : Int
  ser : Int
  task : Int
  deriving DecidableEq
abbrev Tm.val (t : Tm) : Value := .agg #[.int .i64 t.at_, .int .i64 t.ser, .int .i64 t.task]
def Tm.cells (t : Tm) : List Value := [.int .i64 t.at_, .int .i64 t.ser, .int .i64 t.task]

def timeB (n : Int) : Bool := decide (0 ≤ n) && decide (n ≤ 1000000000000000)

set_option maxHeartbeats 400000 in
theorem time_any (n : Int) (w : World) :
    Calls Try.prog 35 #[.int .i64 n] w fun e w' => e = .returned (.bool (timeB n)) ∧ w = w' := by
  unfold timeB
  by_cases h : 0 ≤ n
  · go_enter Try.func35, Try.ntmps35
    go_wp2
    go_ret
    exact ⟨ret_bool (by simp [h]), rfl⟩
  · have h' : decide (0 ≤ n) = false := by simpa using h
    go_enter Try.func35, Try.ntmps35
    go_wp2
    go_ret
    exact ⟨ret_bool (by simp), rfl⟩

def laterB (a b : Tm) : Bool := decide (b.at_ < a.at_) || (a.at_ == b.at_ && decide (b.ser < a.ser))

def cmpI (a b : Int) : Int := if a < b then -1 else if b < a then 1 else 0

set_option maxHeartbeats 400000 in
theorem isnan_any (a : Int) (w : World) :
    Calls Try.prog 67 #[.int .i64 a] w fun r w' => r = .returned (.bool false) ∧ w = w' := by
  go_enter Try.func67, Try.ntmps67
  go_wp2
  go_ret
  exact ⟨ret_bool (by simp), rfl⟩

set_option maxHeartbeats 400000 in
theorem compare_any (a b : Int) (w : World) :
    Calls Try.prog 53 #[.int .i64 a, .int .i64 b] w fun r w' => r = .returned (.int .i64 (cmpI a b)) ∧ w = w' := by
  unfold cmpI
  go_enter Try.func53, Try.ntmps53
  go_wp2_with (go_at_call 67; refine (isnan_any _ _).mono ?_; rintro e w' ⟨rfl, rfl⟩)
  all_goals
    go_ret
    exact ⟨ret_int (by simp [*]), rfl⟩

def orI (a b : Int) : Int := if a != 0 then a else b

set_option maxHeartbeats 800000 in
theorem or_any (a b : Int) (g : Nat) (w : World) (h0 : w.cell? ⟨g, 0, none⟩ = some (.int .i64 a)) (h1 : w.cell? ⟨g, 1, none⟩ = some (.int .i64 b)) :
    Calls Try.prog 52 #[.slice (some ⟨g, 0, none⟩) 2 2] w fun r w' => r = .returned (.int .i64 (orI a b)) ∧ w = w' := by
  by_cases ha : (a != 0) = true
  · have H := Lib.hid (show a = orI a b by simp [orI, ha])
    go_enter Try.func52, Try.ntmps52
    go_wp2
    refine wp_loop_rounds 1 ?_
    rw [rounds_succ]
    go_wp2
    go_ret
    exact ⟨ret_int H.out, rfl⟩
  · have ha : (a != 0) = false := by simpa using ha
    have H := Lib.hid (show orI a b = b by simp [orI, ha])
    by_cases hb : (b != 0) = true
    · go_enter Try.func52, Try.ntmps52
      go_wp2
      refine wp_loop_rounds 2 ?_
      rw [rounds_succ]
      go_wp2
      rw [rounds_succ]
      go_wp2
      go_ret
      exact ⟨ret_int H.out.symm, rfl⟩
    · have hb : (b != 0) = false := by simpa using hb
      have H2 := Lib.hid (show 0 = b by simp at hb; omega)
      go_enter Try.func52, Try.ntmps52
      go_wp2
      refine wp_loop_rounds 3 ?_
      rw [rounds_succ]
      go_wp2
      rw [rounds_succ]
      go_wp2
      rw [rounds_succ]
      go_wp2
      go_ret
      exact ⟨ret_int (H2.out.trans H.out.symm), rfl⟩

def orderI (a b : Tm) : Int := orI (cmpI a.at_ b.at_) (cmpI a.ser b.ser)

set_option maxHeartbeats 800000 in
theorem order_any (a b : Tm) (w : World) :
    Calls Try.prog 37 #[a.val, b.val] w fun r w' => r = .returned (.int .i64 (orderI a b)) ∧ Below w.heap.size w w' := by
  obtain ⟨a1, a2, a3⟩ := a
  obtain ⟨b1, b2, b3⟩ := b
  unfold Tm.val orderI
  dsimp only
  go_enter Try.func37, Try.ntmps37
  go_wp2
  go_region_held3 (fun w' => w'.cell? ⟨w.heap.size, 0, none⟩ = some (.int .i64 a1) ∧ w'.cell? ⟨w.heap.size, 1, none⟩ = some (.int .i64 a2) ∧ w'.cell? ⟨w.heap.size + 1, 0, none⟩ = some (.int .i64 b1) ∧ w'.cell? ⟨w.heap.size + 1, 1, none⟩ = some (.int .i64 b2)) (simp [go_sem, World.cell?_alloc_past])
    (first
      | (go_at_call 53; refine (compare_any _ _ _).mono ?_; rintro e w' ⟨rfl, rfl⟩)
      | (go_at_call 52; refine (or_any (cmpI a1 b1) (cmpI a2 b2) _ _ ?_ ?_).mono ?_; (go_simp); (go_simp); rintro e w' ⟨rfl, rfl⟩))
  go_wp2
  go_ret
  exact ⟨rfl, by repeat (first | exact Below.refl _ _ | apply Below.drew | refine Below.alloc ?_ (by first | (simp; done) | (simp; omega)) _)⟩
end Go.Proofs.Ytgiebofmfkacgaa
namespace Go.Proofs.Ytgiebofmfkacgaa
open Go.RowKit

theorem Tm.cells_length (t : Tm) : t.cells.length = 3 := rfl
theorem Rd.tm {w : World} {A : Option Addr} {ts : List Tm} {k : Nat} (h : Rd w A (rows Tm.cells ts)) (hk : k < ts.length) :
    ∃ b o, A = some ⟨b, o, none⟩ ∧ b < w.heap.size ∧ w.cell? ⟨b, o + k * 3, none⟩ = some (.int .i64 ts[k].at_) ∧ w.cell? ⟨b, o + k * 3 + 1, none⟩ = some (.int .i64 ts[k].ser) ∧ w.cell? ⟨b, o + k * 3 + 2, none⟩ = some (.int .i64 ts[k].task) := by
  obtain ⟨b, o, e, hb, hc⟩ := h.row Tm.cells_length hk (by omega)
  exact ⟨b, o, e, hb, hc 0 _ rfl, hc 1 _ rfl, hc 2 _ rfl⟩

structure Ck where
  now : Int
  ser : Int
  rs : List Int
  ts : List Tm
  deriving DecidableEq

/-- The value v reads as the clock c. -/
def CkAt (w : World) (c : Ck) (v : Value) : Prop :=
  ∃ RA rc TA tc, v = .agg #[.int .i64 c.now, .int .i64 c.ser, .slice RA c.rs.length rc, .slice TA c.ts.length tc] ∧ Rd w RA (ints c.rs) ∧ Rd w TA (rows Tm.cells c.ts) ∧
    c.rs.length ≤ rc ∧ c.ts.length ≤ tc ∧ c.rs.length ≤ 17592186043904 ∧ c.ts.length ≤ 17592186043904
theorem CkAt.below {w w' : World} {c : Ck} {v : Value} (h : CkAt w c v) (hb : Below w.heap.size w w') : CkAt w' c v := by
  obtain ⟨RA, rc, TA, tc, e, h1, h2, h3⟩ := h
  exact ⟨RA, rc, TA, tc, e, h1.below hb, h2.below hb, h3⟩

/-- The value v reads as the clock c; its rows lie in blocks that are let. -/
def CkIn (w : World) (ok : Nat → Prop) (c : Ck) (v : Value) : Prop :=
  ∃ RA rc TA tc, v = .agg #[.int .i64 c.now, .int .i64 c.ser, .slice RA c.rs.length rc, .slice TA c.ts.length tc] ∧ RdIn w ok RA (ints c.rs) ∧ RdIn w ok TA (rows Tm.cells c.ts) ∧
    c.rs.length ≤ rc ∧ c.ts.length ≤ tc ∧ c.rs.length ≤ 17592186043904 ∧ c.ts.length ≤ 17592186043904
section
variable {w w' : World} {ok ok' : Nat → Prop} {c : Ck} {v : Value}
theorem CkIn.at_ (h : CkIn w ok c v) : CkAt w c v := by
  obtain ⟨RA, rc, TA, tc, e, h1, h2, h3⟩ := h
  exact ⟨RA, rc, TA, tc, e, h1.rd, h2.rd, h3⟩
theorem CkIn.below (h : CkIn w ok c v) (hb : Below w.heap.size w w') : CkIn w' ok c v := by
  obtain ⟨RA, rc, TA, tc, e, h1, h2, h3⟩ := h
  exact ⟨RA, rc, TA, tc, e, h1.below hb, h2.below hb, h3⟩
theorem CkIn.weaken (h : CkIn w ok c v) (hk : ∀ b, ok b → ok' b) : CkIn w ok' c v := by
  obtain ⟨RA, rc, TA, tc, e, h1, h2, h3⟩ := h
  exact ⟨RA, rc, TA, tc, e, h1.weaken hk, h2.weaken hk, h3⟩
theorem CkIn.setCell (h : CkIn w ok c v) {p : Addr} (hp : ¬ ok p.block) (u : Value) : CkIn (w.setCell p u) ok c v := by
  obtain ⟨RA, rc, TA, tc, e, h1, h2, h3⟩ := h
  exact ⟨RA, rc, TA, tc, e, h1.setCell hp u, h2.setCell hp u, h3⟩
theorem CkAt.within (h : CkAt w c v) {n : Nat} (hn : w.heap.size ≤ n) : CkIn w (· < n) c v := by
  obtain ⟨RA, rc, TA, tc, e, h1, h2, h3⟩ := h
  exact ⟨RA, rc, TA, tc, e, h1.within hn, h2.within hn, h3⟩
end

def busyT (ts : List Tm) (x : Int) : Bool := ts.any (·.task == x)
def busy (rs : List Int) (ts : List Tm) (x : Int) : Bool := busyT ts x || has rs x
end Go.Proofs.Ytgiebofmfkacgaa
namespace Go.Proofs.Ytgiebofmfkacgaa
open Go.RowKit

def sameTms (xs ys : List Tm) : Bool := xs == ys
def sameCk (c d : Ck) : Bool := c.now == d.now && (c.ser == d.ser && (sameInts c.rs d.rs && sameTms c.ts d.ts))
end Go.Proofs.Ytgiebofmfkacgaa
namespace Go.Proofs.Ytgiebofmfkacgaa
open Go.RowKit

theorem st_int : SliceTy Try.prog 22 3 1 8 := SliceTy.mk' (z := .int .i64 0) Try.underlying22 (by kernel_rfl) rfl (by omega)
theorem st_tm : SliceTy Try.prog 23 46 3 24 := SliceTy.mk' (z := .agg #[.int .i64 0, .int .i64 0, .int .i64 0]) Try.underlying23 (by kernel_rfl) rfl (by omega)

theorem tms_one (ts : List Tm) : ∀ u ∈ rows Tm.cells ts, u.oneCell' = true := rows_oneCell (by intro t u hu; simp [Tm.cells] at hu; rcases hu with rfl | rfl | rfl <;> rfl) ts

set_option maxHeartbeats 400000 in
theorem clone_int (A : Option Addr) (c : Nat) (zs : List Int) (w : World) (hr : Rd w A (ints zs)) (hl : zs.length ≤ 17592186043904) :
    Calls Try.prog 50 #[.slice A zs.length c] w fun e w' => ∃ A' c', e = .returned (.slice A' zs.length c') ∧ w'.ownsRow w.heap.size 3 1 (.slice A' zs.length c') zs.length (ints zs) ∧ Below w.heap.size w w' := by
  have hnil : ∀ (w : World) (a : Option Addr) (n c n' c' : Nat), (binOp .eql 22 (.slice a n c) (.slice none n' c')).run Try.prog w = .ok (.bool a.isNone) w := fun w a n c n' c' => Lib.run_eql_slice_nil w _ _ a n c n' c' Try.underlying22
  rcases A with _ | ad
  · have h0 : zs = [] := by
      rcases zs with _ | ⟨x, l⟩
      · rfl
      · obtain ⟨b, o, h, _⟩ := hr (by simp [ints]); cases h
    subst h0
    go_enter Try.func50, Try.ntmps50
    go_wp2
    go_ret
    exact ⟨none, 0, rfl, World.ownsRow_nil _ _ _ _, Below.refl _ _⟩
  · have ho := own_new w 3 1 #[] 0 w.heap.size (Nat.le_refl _) (Nat.zero_le _) rfl
    go_enter Try.func50, Try.ntmps50
    go_wp2_with (at_builtin; refine wpList_app rfl st_int (.tmp 5) (.tmp 6) rfl rfl ho rfl (hr.alloc _) (by simp [ints]) (ints_one zs) (by unfold maxLen; omega) (by omega) (by simp) ?_; intro A' c' w' hown hg hat)
    go_ret
    refine ⟨A', c', by simp, by simpa using hown, Below.app ?_ ho hg (Nat.le_refl _) (by simp)⟩
    exact (by repeat (first | (with_reducible exact Below.refl _ _) | ((with_reducible refine Below.alloc ?_ ?_ _); rotate_left; (focus (first | (simp; done))))))

set_option maxHeartbeats 400000 in
theorem clone_tm (A : Option Addr) (c : Nat) (zs : List Tm) (w : World) (hr : Rd w A (rows Tm.cells zs)) (hl : zs.length ≤ 17592186043904) (hl2 : zs.length * 24 ≤ 140737488355328) :
    Calls Try.prog 51 #[.slice A zs.length c] w fun e w' => ∃ A' c', e = .returned (.slice A' zs.length c') ∧ w'.ownsRow w.heap.size 46 3 (.slice A' zs.length c') zs.length (rows Tm.cells zs) ∧ Below w.heap.size w w' := by
  have hnil : ∀ (w : World) (a : Option Addr) (n c n' c' : Nat), (binOp .eql 23 (.slice a n c) (.slice none n' c')).run Try.prog w = .ok (.bool a.isNone) w := fun w a n c n' c' => Lib.run_eql_slice_nil w _ _ a n c n' c' Try.underlying23
  rcases A with _ | ad
  · have h0 : zs = [] := by
      rcases zs with _ | ⟨x, l⟩
      · rfl
      · obtain ⟨b, o, h, _⟩ := hr (by simp [rows, Tm.cells]); cases h
    subst h0
    go_enter Try.func51, Try.ntmps51
    go_wp2
    go_ret
    exact ⟨none, 0, rfl, World.ownsRow_nil _ _ _ _, Below.refl _ _⟩
  · have ho := own_new w 46 3 #[] 0 w.heap.size (Nat.le_refl _) (Nat.zero_le _) rfl
    go_enter Try.func51, Try.ntmps51
    go_wp2_with (at_builtin; refine wpList_app rfl st_tm (.tmp 5) (.tmp 6) rfl rfl ho rfl (hr.alloc _) (rows_length Tm.cells_length _) (tms_one zs) (by unfold maxLen; omega) (by omega) (by simp) ?_; intro A' c' w' hown hg hat)
    go_ret
    refine ⟨A', c', by simp, by simpa using hown, Below.app ?_ ho hg (Nat.le_refl _) (by simp)⟩
    exact (by repeat (first | (with_reducible exact Below.refl _ _) | ((with_reducible refine Below.alloc ?_ ?_ _); rotate_left; (focus (first | (simp; done))))))
end Go.Proofs.Ytgiebofmfkacgaa
namespace Go.Proofs.Ytgiebofmfkacgaa
open Go.RowKit

/-- The place of x, from k on, or -1. -/
def idx (zs : List Int) (x : Int) : Int := match zs.findIdx? (· == x) with | some i => i | none => -1
def idxFrom (zs : List Int) (x : Int) (k : Nat) : Int := match (zs.drop k).findIdx? (· == x) with | some i => i + k | none => -1
theorem idxFrom_zero (zs : List Int) (x : Int) : idx zs x = idxFrom zs x 0 := by simp [idx, idxFrom]
theorem idxFrom_hit (zs : List Int) (x : Int) (k : Nat) (h : k < zs.length) (hx : (zs[k] == x) = true) : idxFrom zs x k = k := by
  unfold idxFrom; rw [List.drop_eq_getElem_cons h, List.findIdx?_cons, hx]; simp
theorem idxFrom_miss (zs : List Int) (x : Int) (k : Nat) (h : k < zs.length) (hx : (zs[k] == x) = false) : idxFrom zs x k = idxFrom zs x (k + 1) := by
  unfold idxFrom; rw [List.drop_eq_getElem_cons h, List.findIdx?_cons, hx]
  cases (zs.drop (k + 1)).findIdx? (· == x) <;> simp; omega
theorem idxFrom_end (zs : List Int) (x : Int) (k : Nat) (h : zs.length ≤ k) : idxFrom zs x k = -1 := by
  unfold idxFrom; rw [List.drop_eq_nil_of_le h]; rfl
theorem idx_has (zs : List Int) (x : Int) : decide (0 ≤ idx zs x) = has zs x := by
  unfold idx has
  cases h : zs.findIdx? (· == x)
  · rw [List.findIdx?_eq_none_iff] at h
    simp; exact fun y hy e => by have := h y hy; simp [e] at this
  · rename_i i
    have := (List.findIdx?_isSome (p := (· == x)) (xs := zs))
    rw [h] at this
    simp at this
    simp [this]

set_option maxHeartbeats 400000 in
theorem index_int (A : Option Addr) (c : Nat) (zs : List Int) (x : Int) (w : World) (hr : Rd w A (ints zs)) (hl : zs.length ≤ 9223372036854775807) :
    Calls Try.prog 56 #[.slice A zs.length c, .int .i64 x] w fun e w' => e = .returned (.int .i64 (idx zs x)) ∧ w = w' := by
  go_enter Try.func56, Try.ntmps56
  go_wp2
  go_loop [8] (fun i => ∃ k : Nat, k ≤ zs.length ∧ i = .int .i64 k ∧ idx zs x = idxFrom zs x k) (fun i => zs.length - (intOf i).toNat)
  case atStart => exact ⟨0, Nat.zero_le _, rfl, idxFrom_zero zs x⟩
  case round =>
    obtain ⟨k, hk, rfl, hs⟩ := hrel
    have H := Lib.hid hs; clear hs
    by_cases hlt : k < zs.length
    · obtain ⟨b, o, rfl, hb, hc⟩ := hr.int hlt
      by_cases hx : (zs[k] == x) = true
      · have hx' : (x == zs[k]) = true := by rw [beq_iff_eq] at hx ⊢; exact hx.symm
        go_wp2
        go_ret
        exact ⟨ret_int (by rw [H.out, idxFrom_hit zs x k hlt hx]), rfl⟩
      · have hx : (zs[k] == x) = false := by simpa using hx
        have hx' : (x == zs[k]) = false := by rw [beq_eq_false_iff_ne] at hx ⊢; exact hx.symm
        go_wp2
        go_round
        case rel => exact ⟨k + 1, by omega, by go_num, by rw [H.out, idxFrom_miss zs x k hlt hx]⟩
        case measure => simp [intOf]; omega
    · go_wp2
      go_ret
      exact ⟨ret_int (by rw [H.out, idxFrom_end zs x k (by omega)]), rfl⟩

set_option maxHeartbeats 400000 in
theorem contains_int (A : Option Addr) (c : Nat) (zs : List Int) (x : Int) (w : World) (hr : Rd w A (ints zs)) (hl : zs.length ≤ 9223372036854775807) :
    Calls Try.prog 42 #[.slice A zs.length c, .int .i64 x] w fun e w' => e = .returned (.bool (has zs x)) ∧ w = w' := by
  go_enter Try.func42, Try.ntmps42
  go_wp2_with (go_at_call 56; refine (index_int _ _ zs x _ hr hl).mono ?_; rintro e w' ⟨rfl, rfl⟩)
  go_ret
  exact ⟨ret_bool (idx_has zs x), rfl⟩

/-- The place of task x among the timers, or -1. -/
def tidx (ts : List Tm) (x : Int) : Int := match ts.findIdx? (·.task == x) with | some i => i | none => -1
def tidxFrom (zs : List Tm) (x : Int) (k : Nat) : Int := match (zs.drop k).findIdx? (·.task == x) with | some i => i + k | none => -1
theorem tidxFrom_zero (zs : List Tm) (x : Int) : tidx zs x = tidxFrom zs x 0 := by simp [tidx, tidxFrom]
theorem tidxFrom_hit (zs : List Tm) (x : Int) (k : Nat) (h : k < zs.length) (hx : (zs[k].task == x) = true) : tidxFrom zs x k = k := by
  unfold tidxFrom; rw [List.drop_eq_getElem_cons h, List.findIdx?_cons, hx]; simp
theorem tidxFrom_miss (zs : List Tm) (x : Int) (k : Nat) (h : k < zs.length) (hx : (zs[k].task == x) = false) : tidxFrom zs x k = tidxFrom zs x (k + 1) := by
  unfold tidxFrom; rw [List.drop_eq_getElem_cons h, List.findIdx?_cons, hx]
  cases (zs.drop (k + 1)).findIdx? (·.task == x) <;> simp; omega
theorem tidxFrom_end (zs : List Tm) (x : Int) (k : Nat) (h : zs.length ≤ k) : tidxFrom zs x k = -1 := by
  unfold tidxFrom; rw [List.drop_eq_nil_of_le h]; rfl
theorem tidx_busy (zs : List Tm) (x : Int) : decide (0 ≤ tidx zs x) = busyT zs x := by
  unfold tidx busyT
  cases h : zs.findIdx? (·.task == x)
  · rw [List.findIdx?_eq_none_iff] at h
    simp; exact fun y hy e => by have := h y hy; simp [e] at this
  · rename_i i
    have := (List.findIdx?_isSome (p := (·.task == x)) (xs := zs))
    rw [h] at this
    simp at this
    simp [this]

set_option maxHeartbeats 400000 in
theorem timer1_any (t : Tm) (g : Nat) (x : Int) (w : World) (hg : w.cell? ⟨g, 0, none⟩ = some (.int .i64 x)) (hgl : g < w.heap.size) :
    Calls Try.prog 58 #[t.val, .pointer (some ⟨g, 0, none⟩)] w fun e w' => e = .returned (.bool (t.task == x)) ∧ Below w.heap.size w w' := by
  obtain ⟨a, b, c⟩ := t
  unfold Tm.val
  dsimp only
  go_enter Try.func58, Try.ntmps58
  go_wp2
  go_ret
  exact ⟨rfl, (by repeat (first | (with_reducible exact Below.refl _ _) | ((with_reducible refine Below.alloc ?_ ?_ _); rotate_left; (focus (first | (simp; done))))))⟩

set_option maxHeartbeats 800000 in
theorem indexfunc_tm (A : Option Addr) (c : Nat) (zs : List Tm) (x : Int) (g : Nat) (w : World) (hr : Rd w A (rows Tm.cells zs)) (hl : zs.length ≤ 9223372036854775807) (hg : w.cell? ⟨g, 0, none⟩ = some (.int .i64 x)) (hgl : g < w.heap.size) :
    Calls Try.prog 57 #[.slice A zs.length c, .func (.func 58) #[] #[.pointer (some ⟨g, 0, none⟩)]] w fun e w' => e = .returned (.int .i64 (tidx zs x)) ∧ Below w.heap.size w w' := by
  go_enter Try.func57, Try.ntmps57
  go_wp2
  go_loopw [8] (fun i wr => ∃ k : Nat, k ≤ zs.length ∧ i = .int .i64 k ∧ tidx zs x = tidxFrom zs x k ∧ Below w.heap.size w wr) (fun i _ => zs.length - (intOf i).toNat)
  case atStart => exact ⟨0, Nat.zero_le _, rfl, tidxFrom_zero zs x, Below.refl _ _⟩
  case round =>
    obtain ⟨k, hk, rfl, hs, hbl⟩ := hrel
    have H := Lib.hid hs; clear hs
    by_cases hlt : k < zs.length
    · obtain ⟨b, o, rfl, hb, hc0, hc1, hc2⟩ := (hr.below hbl).tm hlt
      have hg' : wr.cell? ⟨g, 0, none⟩ = some (.int .i64 x) := (hbl.cell (p := ⟨g, 0, none⟩) hgl).trans hg
      have hgl' : g < wr.heap.size := Nat.lt_of_lt_of_le hgl hbl.size
      by_cases hx : (zs[k].task == x) = true
      · go_wp2_with (go_at_call 58; refine (timer1_any zs[k] g x _ hg' hgl').mono ?_; rintro e w' ⟨rfl, hb1⟩)
        go_ret
        exact ⟨ret_int (by rw [H.out, tidxFrom_hit zs x k hlt hx]), hbl.trans (hb1.mono hbl.size)⟩
      · have hx : (zs[k].task == x) = false := by simpa using hx
        go_wp2_with (go_at_call 58; refine (timer1_any zs[k] g x _ hg' hgl').mono ?_; rintro e w' ⟨rfl, hb1⟩)
        go_roundw
        case rel => exact ⟨k + 1, by omega, by go_num, by rw [H.out, tidxFrom_miss zs x k hlt hx], hbl.trans (hb1.mono hbl.size)⟩
        case measure => simp [intOf]; omega
    · go_wp2
      go_ret
      exact ⟨ret_int (by rw [H.out, tidxFrom_end zs x k (by omega)]), hbl⟩

set_option maxHeartbeats 400000 in
theorem timer_any (c : Ck) (v : Value) (x : Int) (w : World) (hv : CkAt w c v) :
    Calls Try.prog 43 #[v, .int .i64 x] w fun e w' => e = .returned (.int .i64 (tidx c.ts x)) ∧ Below w.heap.size w w' := by
  obtain ⟨now, ser, rs, ts⟩ := c
  obtain ⟨RA, rc, TA, tc, rfl, hr, ht, hrc, htc, hrl, htl⟩ := hv
  dsimp only at hr ht hrc htc hrl htl ⊢
  go_enter Try.func43, Try.ntmps43
  go_wp2_with fail
  refine (indexfunc_tm _ _ ts x _ _ ((ht.alloc _).alloc _) (by omega) (by go_simp) (by simp)).mono ?_
  rintro e w' ⟨rfl, hb⟩
  go_wp2
  go_ret
  refine ⟨rfl, Below.trans ?_ (hb.mono (by simp; omega))⟩
  exact (by repeat (first | (with_reducible exact Below.refl _ _) | ((with_reducible refine Below.alloc ?_ ?_ _); rotate_left; (focus (first | (simp; done))))))

set_option maxHeartbeats 800000 in
theorem clone_any (c : Ck) (v : Value) (w : World) (hv : CkAt w c v) (hl2 : c.ts.length * 24 ≤ 140737488355328) :
    Calls Try.prog 34 #[v] w fun e w' => ∃ RA rc TA tc, e = .returned (.agg #[.int .i64 c.now, .int .i64 c.ser, .slice RA c.rs.length rc, .slice TA c.ts.length tc]) ∧
      w'.ownsRow w.heap.size 3 1 (.slice RA c.rs.length rc) c.rs.length (ints c.rs) ∧ w'.ownsRow w.heap.size 46 3 (.slice TA c.ts.length tc) c.ts.length (rows Tm.cells c.ts) ∧ Below w.heap.size w w' := by
  obtain ⟨now, ser, rs, ts⟩ := c
  obtain ⟨RA, rc, TA, tc, rfl, hr, ht, hrc, htc, hrl, htl⟩ := hv
  dsimp only at hr ht hrc htc hrl htl hl2 ⊢
  go_enter Try.func34, Try.ntmps34
  go_wp2_with fail
  go_region_with (first
    | (go_at_call 50; refine (clone_int _ _ rs _ (by exact (hr.alloc _).alloc _) (by omega)).mono ?_; rintro e w1 ⟨A1, c1, rfl, ho1, hb1⟩; obtain ⟨k1, k2, hz1⟩ := box2 (w := w) hb1 rfl (by simp); obtain ⟨p0, p1, p2, p3, p4, p5, p6, p7⟩ := Blk.four k1; replace ho1 := own_mono (base' := w.heap.size + 2) ho1 (by simp); have hB1 : Below w.heap.size w w1 := Below.trans (by repeat (first | (with_reducible exact Below.refl _ _) | (with_reducible apply Below.drew) | ((with_reducible refine Below.alloc ?_ ?_ _); rotate_left; (focus (first | (simp; done)))))) (hb1.mono (by simp; omega)))
    | (go_at_call 51; refine (clone_tm _ _ ts _ (by exact (((ht.alloc _).alloc _).drew).below hb1) (by omega) (by omega)).mono ?_; rintro e w2 ⟨A2, c2, rfl, ho2, hb2⟩; obtain ⟨q0, q1, q2, q3, q4, q5, q6, q7⟩ := Blk.four ((hb2.block w.heap.size (by omega)).trans k1); obtain ⟨r0, r1, r2, r3, r4, r5, r6, r7⟩ := Blk.four ((hb2.block (w.heap.size + 1) (by omega)).trans k2); clear k1 k2; replace ho2 := own_mono (base' := w.heap.size + 2) ho2 (by omega); replace ho1 := own_below ho1 hb2; have hB2 : Below w.heap.size w w2 := hB1.trans (hb2.mono (by omega)); clear hb1 hb2))
  all_goals
    go_wp2
    refine bodyPost_ret (v := .agg #[.int .i64 now, .int .i64 ser, .slice A1 rs.length c1, .slice A2 ts.length c2]) (by simp [results, Try.results34, go_sem, r0, r1, r2, r3]) rfl ⟨A1, c1, A2, c2, rfl, ?_, ?_, ?_⟩
    · refine own_mono (base := w.heap.size + 2) ?_ (by omega)
      repeat (refine ownsRow_setCell_below ?_ (by simp) _)
      exact ho1
    · refine own_mono (base := w.heap.size + 2) ?_ (by omega)
      repeat (refine ownsRow_setCell_below ?_ (by simp) _)
      exact ho2
    · exact (by repeat (first | (with_reducible exact hB2) | ((with_reducible refine Below.setCell ?_ ?_ _); rotate_left; (focus (first | (simp; done))))))
end Go.Proofs.Ytgiebofmfkacgaa
namespace Go.Proofs.Ytgiebofmfkacgaa
open Go.RowKit

/-- What is asked of a type of keys. -/
structure KeyTy (P : Program) (k : TypeId) {κ : Type} [DecidableEq κ] (kv : κ → Value) : Prop where
  under : ∃ d, P.underlying k = some d ∧ ∀ a b, Instr.sameNow d (kv a) (kv b) = some (decide (a = b))
  check : ∀ (e : Bool) (a : κ) (w : World), (Instr.checkKey e 10000 k (kv a)).run P w = .ok () w
  bits : ∀ a, Instr.sameBits 10000 (kv a) (kv a) = true

theorem check_int {P : Program} {k : TypeId} (hk : P.underlying k = some (.int .i64)) (n : Nat) (e : Bool) (a : Int) (w : World) : (Instr.checkKey e (n + 1) k (.int .i64 a)).run P w = .ok () w := by
  simp only [Instr.checkKey, Sem.run_bind, run_underlying hk, Result.andThen_ok]; rfl
theorem keyTy_int {P : Program} {k : TypeId} (hk : P.underlying k = some (.int .i64)) : KeyTy P k (Value.int .i64) where
  under := ⟨_, hk, fun a b => by simp only [Instr.sameNow, if_true]; congr 1⟩
  check := check_int hk 9999
  bits := fun a => by simp [Instr.sameBits]
section
variable {κ : Type}
def MapAt (w : World) (b : Nat) (kv : κ → Value) (m : List (κ × Value)) : Prop :=
  ∃ es clock, w.heap[b]? = some (.map es clock) ∧ es.toList.map (fun e => (e.key, e.val)) = m.map (fun p => (kv p.1, p.2))
variable {P : Program} {k t e : TypeId} {kv : κ → Value} {w w' : World} {b : Nat} {m : List (κ × Value)}

theorem MapAt.lt (h : MapAt w b kv m) : b < w.heap.size := by
  obtain ⟨es, clock, hb, _⟩ := h
  rcases Nat.lt_or_ge b w.heap.size with h | h
  · exact h
  · rw [Array.getElem?_eq_none h] at hb; cases hb
theorem MapAt.of_block (h : MapAt w b kv m) (he : w'.heap[b]? = w.heap[b]?) : MapAt w' b kv m := by
  obtain ⟨es, clock, hb, hm⟩ := h
  exact ⟨es, clock, he.trans hb, hm⟩
theorem MapAt.below {B : Nat} (h : MapAt w b kv m) (hb : Below B w w') (hB : b < B) : MapAt w' b kv m := h.of_block (hb.block b hB)
theorem MapAt.alloc (h : MapAt w b kv m) (o : Obj) : MapAt (w.alloc o) b kv m := h.of_block (Below.heap_alloc w o b h.lt)
theorem MapAt.setCell (h : MapAt w b kv m) {p : Addr} (hp : b ≠ p.block) (u : Value) : MapAt (w.setCell p u) b kv m := h.of_block (Below.heap_setCell w p u b hp)
theorem MapAt.new (w : World) (kv : κ → Value) : MapAt (w.alloc (.map #[] 0)) w.heap.size kv [] := ⟨#[], 0, heap_alloc_new w _, by simp⟩

variable [DecidableEq κ]
def aget (m : List (κ × Value)) (x : κ) (z : Value) : Value := match m.find? (fun p => decide (x = p.1)) with | some p => p.2 | none => z
def ahas (m : List (κ × Value)) (x : κ) : Bool := m.any (fun p => decide (x = p.1))
def aput : List (κ × Value) → κ → Value → List (κ × Value)
  | [], x, v => [(x, v)]
  | p :: m, x, v => if x = p.1 then (x, v) :: m else p :: aput m x v

theorem findNow_eq {d : TypeDesc} (hs : ∀ a b, Instr.sameNow d (kv a) (kv b) = some (decide (a = b))) (x : κ) : ∀ (es : List MapEntry) (m : List (κ × Value)) (i : Nat), es.map (fun e => (e.key, e.val)) = m.map (fun p => (kv p.1, p.2)) →
    Instr.findNow d (kv x) es i = some (match m.findIdx? (fun p => decide (x = p.1)) with | some j => some (i + j, aget m x default) | none => none)
  | [], [], i, _ => by simp [Instr.findNow]
  | [], _ :: _, i, h => by simp at h
  | _ :: _, [], i, h => by simp at h
  | e :: es, p :: m, i, h => by
    simp only [List.map_cons, List.cons.injEq, Prod.mk.injEq] at h
    obtain ⟨⟨h1, h2⟩, h3⟩ := h
    simp only [Instr.findNow, h1, hs]
    by_cases hx : x = p.1
    · simp [hx, aget, h2, List.findIdx?_cons]
    · have ih := findNow_eq hs x es m (i + 1) h3
      simp only [hx, decide_false, ih, List.findIdx?_cons, Bool.false_eq_true, if_false]
      have hg : aget (p :: m) x default = aget m x default := by simp [aget, hx]
      rw [hg]
      cases m.findIdx? (fun p => decide (x = p.1)) <;> simp; omega

theorem aget_none {x : κ} {z : Value} (h : m.findIdx? (fun p => decide (x = p.1)) = none) : aget m x z = z ∧ ahas m x = false := by
  rw [List.findIdx?_eq_none_iff] at h
  have h1 : m.find? (fun p => decide (x = p.1)) = none := by rw [List.find?_eq_none]; intro p hp; rw [h p hp]; simp
  refine ⟨by simp [aget, h1], ?_⟩
  rw [ahas, List.any_eq_false]
  intro p hp; rw [h p hp]; simp
theorem aget_some {x : κ} {z z' : Value} {j : Nat} (h : m.findIdx? (fun p => decide (x = p.1)) = some j) : aget m x z = aget m x z' ∧ ahas m x = true := by
  have h1 : (m.findIdx? (fun p => decide (x = p.1))).isSome = true := by rw [h]; rfl
  rw [List.findIdx?_isSome] at h1
  refine ⟨?_, h1⟩
  have h2 : (m.find? (fun p => decide (x = p.1))).isSome = true := by rw [List.find?_isSome]; simpa using h1
  unfold aget
  cases hf : m.find? (fun p => decide (x = p.1))
  · rw [hf] at h2; cases h2
  · rfl

theorem run_look (KT : KeyTy P k kv) (ht : P.underlying t = some (.map k e)) (hm : MapAt w b kv m) {z : Value} (hz : (zeroValue e).run P w = .ok z w) (x : κ) :
    (Instr.lookup t (.map (some b)) (kv x) false).run P w = .ok (aget m x z) w := by
  obtain ⟨es, clock, hb, hes⟩ := hm
  obtain ⟨d, hd, hs⟩ := KT.under
  have hf := findNow_eq hs x es.toList m 0 hes
  cases hi : m.findIdx? (fun p => decide (x = p.1)) with
  | none =>
    rw [hi] at hf
    rw [(aget_none hi).1]
    simp [Instr.lookup, run_underlying ht, run_underlying hd, getObj, Sem.run, hb, KT.check, Instr.findKey, hf, hz]
  | some j =>
    rw [hi] at hf
    rw [(aget_some (z' := default) hi).1]
    simp [Instr.lookup, run_underlying ht, run_underlying hd, getObj, Sem.run, hb, KT.check, Instr.findKey, hf]
theorem aput_none (v : Value) (x : κ) : ∀ m : List (κ × Value), m.findIdx? (fun p => decide (x = p.1)) = none → aput m x v = m ++ [(x, v)]
  | [], _ => rfl
  | p :: m, h => by
    rw [List.findIdx?_cons] at h
    by_cases hx : x = p.1
    · simp [hx] at h
    · simp [hx] at h
      simp [aput, hx, aput_none v x m (by rw [List.findIdx?_eq_none_iff]; intro q hq; simpa using h _ _ hq)]
theorem aput_some (v : Value) (x : κ) : ∀ (m : List (κ × Value)) (j : Nat), m.findIdx? (fun p => decide (x = p.1)) = some j → aput m x v = m.modify j (fun _ => (x, v)) ∧ (m[j]?).map (·.1) = some x
  | [], _, h => by simp at h
  | p :: m, j, h => by
    rw [List.findIdx?_cons] at h
    by_cases hx : x = p.1
    · simp [hx] at h
      subst h
      simp [aput, hx]
    · simp only [hx, decide_false, Bool.false_eq_true, if_false, Option.map_eq_some_iff] at h
      obtain ⟨i, hi, rfl⟩ := h
      have ih := aput_some v x m i hi
      simp [aput, hx, ih.1, ih.2]

theorem run_put (KT : KeyTy P k kv) (ht : P.underlying t = some (.map k e)) (hm : MapAt w b kv m) (x : κ) (v : Value) :
    ∃ w', (Instr.mapUpdate t (.map (some b)) (kv x) v).run P w = .ok () w' ∧ MapAt w' b kv (aput m x v) ∧ w.grownBy w' (some b) := by
  obtain ⟨es, clock, hb, hes⟩ := hm
  obtain ⟨d, hd, hs⟩ := KT.under
  have hf := findNow_eq hs x es.toList m 0 hes
  have hlt : b < w.heap.size := by
    rcases Nat.lt_or_ge b w.heap.size with h | h
    · exact h
    · rw [Array.getElem?_eq_none h] at hb; cases hb
  have key : ∀ (o : Obj), w.grownBy { w with heap := w.heap.setIfInBounds b o } (some b) := fun o =>
    ⟨rfl, rfl, rfl, by simp, fun i _ hi => by simp only; rw [Array.getElem?_setIfInBounds_ne]; exact fun e => hi (by rw [e])⟩
  cases hi : m.findIdx? (fun p => decide (x = p.1)) with
  | none =>
    rw [hi] at hf
    refine ⟨_, by simp [Instr.mapUpdate, run_underlying ht, run_underlying hd, getObj, setObj, Sem.run, hb, KT.check, Instr.findKey, hf]; rfl, ?_, key _⟩
    refine ⟨es.push { key := kv x, val := v, born := clock }, clock + 1, by simp [hlt], ?_⟩
    rw [aput_none v x m hi]
    simp [hes]
  | some j =>
    rw [hi] at hf
    obtain ⟨h1, h2⟩ := aput_some v x m j hi
    have hk : ((es[j]?).map (·.key)) = some (kv x) := by
      have h3 : (es.toList.map (fun e => (e.key, e.val)))[j]? = (m.map (fun p => (kv p.1, p.2)))[j]? := by rw [hes]
      rw [List.getElem?_map, List.getElem?_map, Array.getElem?_toList] at h3
      cases hm : m[j]? with
      | none => rw [hm] at h2; cases h2
      | some p =>
        rw [hm] at h3 h2
        simp only [Option.map_some, Option.some.injEq] at h2
        cases he : es[j]? with
        | none => rw [he] at h3; cases h3
        | some en => rw [he] at h3; simp only [Option.map_some, Option.some.injEq, Prod.mk.injEq] at h3; simp [h3.1, h2]
    refine ⟨_, by simp [Instr.mapUpdate, run_underlying ht, run_underlying hd, getObj, setObj, Sem.run, hb, KT.check, Instr.findKey, hf, hk, Instr.keyThatStays, KT.bits]; rfl, ?_, key _⟩
    refine ⟨es.modify j fun e => { e with key := kv x, val := v }, clock, by simp [hlt], ?_⟩
    rw [h1]
    apply List.ext_getElem?
    intro i
    have h3 : (es.toList.map (fun e => (e.key, e.val)))[i]? = (m.map (fun p => (kv p.1, p.2)))[i]? := by rw [hes]
    simp only [List.getElem?_map, Array.getElem?_toList, Array.getElem?_modify, List.getElem?_modify] at h3 ⊢
    by_cases hij : j = i
    · subst hij
      cases hm : m[j]? with
      | none => rw [hm] at h3; cases he : es[j]? <;> rw [he] at h3 <;> simp_all
      | some p => rw [hm] at h3; cases he : es[j]? <;> rw [he] at h3 <;> simp_all
    · simp [hij, h3]
end
end Go.Proofs.Ytgiebofmfkacgaa
namespace Go.Proofs.Ytgiebofmfkacgaa
open Go.RowKit

theorem kt_int : KeyTy Try.prog 3 (Value.int .i64) := keyTy_int Try.underlying3
theorem zero_bool (w : World) : (zeroValue 4).run Try.prog w = .ok (.bool false) w := by kernel_rfl

/-- A set of tasks, as the map's entries. -/
def sset (l : List Int) : List (Int × Value) := l.map fun x => (x, .bool true)
theorem sset_get (l : List Int) (x : Int) : aget (sset l) x (.bool false) = .bool (has l x) := by
  unfold aget sset has
  induction l with
  | nil => rfl
  | cons y l ih =>
    simp only [List.map_cons, List.find?_cons, List.any_cons]
    by_cases h : x = y
    · simp [h]
    · have h' : (y == x) = false := by simpa using fun e => h e.symm
      simp only [h, decide_false, h', Bool.false_or]
      exact ih
theorem sset_put (l : List Int) (x : Int) (h : has l x = false) : aput (sset l) x (.bool true) = sset (l ++ [x]) := by
  rw [aput_none]
  · simp [sset]
  · rw [List.findIdx?_eq_none_iff]
    intro p hp
    simp only [sset, List.mem_map] at hp
    obtain ⟨y, hy, rfl⟩ := hp
    simp only [has, List.any_eq_false] at h
    have := h y hy
    simp at this ⊢
    exact fun e => this e.symm

def freshC (n : Int) (seen : List Int) : Int := if timeB n then (if has seen n then 8 else 0) else 4
/-- A map's block alone may have changed. -/
def OnlyMap (b : Nat) (w w' : World) : Prop := w.grownBy w' (some b)

set_option maxHeartbeats 400000 in
theorem fresh_bad (n : Int) (b : Nat) (seen : List Int) (w : World) (hm : MapAt w b (Value.int .i64) (sset seen)) (h : freshC n seen ≠ 0) :
    Calls Try.prog 40 #[.int .i64 n, .map (some b)] w fun e w' => e = .returned (.int .i64 (freshC n seen)) ∧ w = w' := by
  have hl := run_look kt_int Try.underlying71 hm (zero_bool w) n
  rw [sset_get] at hl
  cases ht : timeB n
  · have H := Lib.hid (show 4 = freshC n seen by simp [freshC, ht])
    clear h
    go_enter Try.func40, Try.ntmps40
    go_wp2_with (go_at_call 35; refine (time_any _ _).mono ?_; rintro e w' ⟨rfl, rfl⟩)
    go_ret
    exact ⟨ret_int H.out, rfl⟩
  · cases hh : has seen n
    · exact absurd (by simp [freshC, ht, hh]) h
    · have H := Lib.hid (show 8 = freshC n seen by simp [freshC, ht, hh])
      clear h
      go_enter Try.func40, Try.ntmps40
      go_wp2_with (go_at_call 35; refine (time_any _ _).mono ?_; rintro e w' ⟨rfl, rfl⟩)
      go_ret
      exact ⟨ret_int H.out, rfl⟩

set_option maxHeartbeats 400000 in
theorem fresh_ok (n : Int) (b : Nat) (seen : List Int) (w : World) (hm : MapAt w b (Value.int .i64) (sset seen)) (h : freshC n seen = 0) :
    Calls Try.prog 40 #[.int .i64 n, .map (some b)] w fun e w' => e = .returned (.int .i64 0) ∧ MapAt w' b (Value.int .i64) (sset (seen ++ [n])) ∧ w.grownBy w' (some b) := by
  have hl := run_look kt_int Try.underlying71 hm (zero_bool w) n
  rw [sset_get] at hl
  obtain ⟨w1, hp, hm1, hg1⟩ := run_put kt_int Try.underlying71 hm n (.bool true)
  cases ht : timeB n
  · simp [freshC, ht] at h
  · cases hh : has seen n
    · rw [sset_put seen n hh] at hm1
      clear h
      go_enter Try.func40, Try.ntmps40
      go_wp2_with (go_at_call 35; refine (time_any _ _).mono ?_; rintro e w' ⟨rfl, rfl⟩)
      go_ret
      exact ⟨rfl, hm1, hg1⟩
    · simp [freshC, ht, hh] at h
end Go.Proofs.Ytgiebofmfkacgaa
namespace Go.Proofs.Ytgiebofmfkacgaa
open Go.RowKit

def okT (now ser : Int) (t : Tm) : Bool := decide (now < t.at_) && (timeB t.at_ && (decide (0 ≤ t.ser) && decide (t.ser < ser)))
def codeT (now ser : Int) (prev : Option Tm) (t : Tm) (seen : List Int) : Int :=
  if okT now ser t then (if freshC t.task seen = 0 then (match prev with | none => 0 | some p => if 0 ≤ orderI p t then 11 else 0) else freshC t.task seen) else 4
def valT (now ser : Int) (prev : Option Tm) : List Tm → Nat → List Int → Int × Int
  | [], _, _ => (0, 0)
  | t :: l, k, seen => if codeT now ser prev t seen = 0 then valT now ser (some t) l (k + 1) (seen ++ [t.task]) else (codeT now ser prev t seen, 1000 + k)
def valR (now ser : Int) (ts : List Tm) : List Int → Nat → List Int → Int × Int
  | [], _, seen => valT now ser none ts 0 seen
  | n :: l, k, seen => if freshC n seen = 0 then valR now ser ts l (k + 1) (seen ++ [n]) else (freshC n seen, k)
def validate (c : Ck) : Int × Int :=
  if timeB c.now && timeB c.ser then (if 1000 < c.rs.length + c.ts.length then (2, -1) else valR c.now c.ser c.ts c.rs 0 []) else (4, -1)

theorem valR_step (now ser : Int) (ts : List Tm) (rs : List Int) (k : Nat) (h : k < rs.length) :
    valR now ser ts (rs.drop k) k (rs.take k) = if freshC rs[k] (rs.take k) = 0 then valR now ser ts (rs.drop (k + 1)) (k + 1) (rs.take (k + 1)) else (freshC rs[k] (rs.take k), (k : Int)) := by
  rw [List.drop_eq_getElem_cons h, List.take_succ_eq_append_getElem h]; rfl
def prevT (ts : List Tm) (k : Nat) : Option Tm := if k = 0 then none else ts[k - 1]?
def seenT (rs : List Int) (ts : List Tm) (k : Nat) : List Int := rs ++ (ts.take k).map (·.task)
theorem seenT_succ (rs : List Int) (ts : List Tm) (k : Nat) (h : k < ts.length) : seenT rs ts (k + 1) = seenT rs ts k ++ [ts[k].task] := by
  unfold seenT; rw [List.take_succ_eq_append_getElem h, List.map_append, ← List.append_assoc]; rfl
theorem seenT_zero (rs : List Int) (ts : List Tm) : seenT rs ts 0 = rs := by simp [seenT]
theorem valT_step (now ser : Int) (ts : List Tm) (rs : List Int) (k : Nat) (h : k < ts.length) :
    valT now ser (prevT ts k) (ts.drop k) k (seenT rs ts k) = if codeT now ser (prevT ts k) ts[k] (seenT rs ts k) = 0 then valT now ser (prevT ts (k + 1)) (ts.drop (k + 1)) (k + 1) (seenT rs ts (k + 1)) else (codeT now ser (prevT ts k) ts[k] (seenT rs ts k), 1000 + (k : Int)) := by
  have hp : prevT ts (k + 1) = some ts[k] := by simp [prevT, h]
  rw [hp, List.drop_eq_getElem_cons h, seenT_succ rs ts k h]; rfl

theorem okT_cases (now ser : Int) (t : Tm) : (okT now ser t = true ∧ now < t.at_ ∧ timeB t.at_ = true ∧ 0 ≤ t.ser ∧ t.ser < ser) ∨ (okT now ser t = false ∧ decide (now < t.at_) = false) ∨ (okT now ser t = false ∧ now < t.at_ ∧ timeB t.at_ = false) ∨
    (okT now ser t = false ∧ now < t.at_ ∧ timeB t.at_ = true ∧ decide (0 ≤ t.ser) = false) ∨ (okT now ser t = false ∧ now < t.at_ ∧ timeB t.at_ = true ∧ 0 ≤ t.ser ∧ decide (t.ser < ser) = false) := by
  unfold okT
  by_cases a : now < t.at_ <;> cases b : timeB t.at_ <;> by_cases c : 0 ≤ t.ser <;> by_cases d : t.ser < ser <;> simp [a, c, d]

/-- The value of a fault. -/
abbrev flt (f : Int × Int) : Value := .agg #[.int .i64 f.1, .int .i64 f.2]
theorem ret_flt {a b : Int} {f : Int × Int} (h : (a, b) = f) : Ending.returned (.agg #[.int .i64 a, .int .i64 b]) = .returned (flt f) := by subst h; rfl

set_option maxRecDepth 100000 in
set_option maxHeartbeats 4000000 in
theorem validate_any (c : Ck) (v : Value) (w : World) (hv : CkAt w c v) :
    Calls Try.prog 14 #[v] w fun e w' => e = .returned (flt (validate c)) ∧ Below w.heap.size w w' := by
  obtain ⟨now, ser, rs, ts⟩ := c
  obtain ⟨RA, rc, TA, tc, rfl, hr, ht, hrc, htc, hrl, htl⟩ := hv
  dsimp only at hr ht hrc htc hrl htl ⊢
  generalize hF : validate ⟨now, ser, rs, ts⟩ = F
  have hmm := @run_makeMap Try.prog
  cases h1 : timeB now
  · have H := Lib.hid (show (4, -1) = F by rw [← hF]; simp [validate, h1])
    clear hF
    go_enter Try.func14, Try.ntmps14
    go_wp2_with (go_at_call 35; refine (time_any _ _).mono ?_; rintro e w' ⟨rfl, rfl⟩)
    exact bodyPost_ret (v := .agg #[.int .i64 4, .int .i64 (-1)]) (by simp [results, Try.results14, go_sem]) rfl ⟨ret_flt H.out, (by repeat (first | (with_reducible exact Below.refl _ _) | ((with_reducible refine Below.alloc ?_ ?_ _); rotate_left; (focus (first | (simp; done))))))⟩
  cases h2 : timeB ser
  · have H := Lib.hid (show (4, -1) = F by rw [← hF]; simp [validate, h2])
    clear hF
    go_enter Try.func14, Try.ntmps14
    go_wp2_with (go_at_call 35; refine (time_any _ _).mono ?_; rintro e w' ⟨rfl, rfl⟩)
    exact bodyPost_ret (v := .agg #[.int .i64 4, .int .i64 (-1)]) (by simp [results, Try.results14, go_sem]) rfl ⟨ret_flt H.out, (by repeat (first | (with_reducible exact Below.refl _ _) | ((with_reducible refine Below.alloc ?_ ?_ _); rotate_left; (focus (first | (simp; done))))))⟩
  by_cases h3 : 1000 < rs.length + ts.length
  · have H := Lib.hid (show (2, -1) = F by rw [← hF]; simp [validate, h1, h2, h3])
    clear hF
    go_enter Try.func14, Try.ntmps14
    go_wp2_with (go_at_call 35; refine (time_any _ _).mono ?_; rintro e w' ⟨rfl, rfl⟩)
    exact bodyPost_ret (v := .agg #[.int .i64 2, .int .i64 (-1)]) (by simp [results, Try.results14, go_sem]) rfl ⟨ret_flt H.out, (by repeat (first | (with_reducible exact Below.refl _ _) | ((with_reducible refine Below.alloc ?_ ?_ _); rotate_left; (focus (first | (simp; done))))))⟩
  have H0 := Lib.hid (show F = valR now ser ts rs 0 [] by rw [← hF]; simp [validate, h1, h2, h3])
  clear hF
  have h3' : decide (1000 < (rs.length : Int) + (ts.length : Int)) = false := by simp; omega
  go_enter Try.func14, Try.ntmps14
  go_wp2_with (go_at_call 35; refine (time_any _ _).mono ?_; rintro e w' ⟨rfl, rfl⟩)
  go_loopw [36] (fun i wr => ∃ k : Nat, k ≤ rs.length ∧ i = .int .i64 k ∧ F = valR now ser ts (rs.drop k) k (rs.take k) ∧ MapAt wr (w.heap.size + 1 + 1) (Value.int .i64) (sset (rs.take k)) ∧ Below (w.heap.size + 2) ((w.alloc (.cells #[.int .i64 now, .int .i64 ser, .slice RA rs.length rc, .slice TA ts.length tc] 25)).alloc (.cells #[.int .i64 0, .int .i64 0] 27)) wr) (fun i _ => rs.length - (intOf i).toNat)
  case atStart => exact ⟨0, Nat.zero_le _, rfl, by simpa using H0.out, by have := MapAt.new ((w.alloc (.cells #[.int .i64 now, .int .i64 ser, .slice RA rs.length rc, .slice TA ts.length tc] 25)).alloc (.cells #[.int .i64 0, .int .i64 0] 27)) (Value.int .i64); simpa [sset] using this, (by repeat (first | (with_reducible exact Below.refl _ _) | ((with_reducible refine Below.alloc ?_ ?_ _); rotate_left; (focus (first | (simp; done))))))⟩
  case round =>
    obtain ⟨k, hk, rfl, hs, hm, hbl⟩ := hrel
    have H := Lib.hid hs; clear hs
    obtain ⟨k1, k2, hz⟩ := box2 (w := w) hbl rfl (by omega)
    have hB : Below w.heap.size w wr := Below.trans (by repeat (first | (with_reducible exact Below.refl _ _) | ((with_reducible refine Below.alloc ?_ ?_ _); rotate_left; (focus (first | (simp; done)))))) (hbl.mono (by omega))
    by_cases hlt : k < rs.length
    · have HS := Lib.hid (valR_step now ser ts rs k hlt)
      obtain ⟨b, o, rfl, hb, hc⟩ := (hr.below hB).int hlt
      by_cases hf : freshC rs[k] (rs.take k) = 0
      · have HF := Lib.hid hf; clear hf
        have K1 := Lib.hid k1; have K2 := Lib.hid k2; clear k1 k2
        go_wp2_with (go_at_call 40; refine (fresh_ok _ _ _ _ hm HF.out).mono ?_; rintro e w1 ⟨rfl, hm1, hg1⟩)
        go_roundw
        case rel =>
          refine ⟨k + 1, by omega, by go_num, by rw [H.out, HS.out, if_pos HF.out], ?_, ?_⟩
          · rw [List.take_succ_eq_append_getElem hlt]; exact hm1
          · exact hbl.grown hg1 (by omega) (by simp)
        case measure => simp [intOf]; omega
      · have hq : (freshC rs[k] (rs.take k) != 0) = true := by simpa using hf
        have HF := Lib.hid hf; clear hf
        obtain ⟨r0, r1, r2, r3⟩ := Blk.two k2
        clear k1 k2
        go_wp2_with (go_at_call 40; refine (fresh_bad _ _ _ _ hm HF.out).mono ?_; rintro e w1 ⟨rfl, rfl⟩)
        refine bodyPost_ret (v := .agg #[.int .i64 (freshC rs[k] (rs.take k)), .int .i64 k]) (by simp [results, Try.results14, go_sem, r0, r1]) rfl ⟨ret_flt (by rw [H.out, HS.out, if_neg HF.out]), ?_⟩
        exact (by repeat (first | (with_reducible exact hB) | ((with_reducible refine Below.setCell ?_ ?_ _); rotate_left; (focus (first | (simp; done))))))
    · obtain ⟨p0, p1, p2, p3, p4, p5, p6, p7⟩ := Blk.four k1
      have HT := Lib.hid (show F = valT now ser (prevT ts 0) (ts.drop 0) 0 (seenT rs ts 0) by
        rw [H.out, List.drop_eq_nil_of_le (by omega), List.take_of_length_le (by omega), seenT_zero]; simp [prevT, valR])
      have HM := Lib.hid (show MapAt wr (w.heap.size + 1 + 1) (Value.int .i64) (sset (seenT rs ts 0)) by
        rw [List.take_of_length_le (by omega)] at hm; rw [seenT_zero]; exact hm)
      clear k1 k2 hm
      go_wp2
      obtain ⟨wo, rfl⟩ : ∃ wo : World, wo = wr := ⟨_, rfl⟩
      go_loopw [53] (fun i wr => ∃ k : Nat, k ≤ ts.length ∧ i = .int .i64 k ∧ F = valT now ser (prevT ts k) (ts.drop k) k (seenT rs ts k) ∧ MapAt wr (w.heap.size + 1 + 1) (Value.int .i64) (sset (seenT rs ts k)) ∧ Below (w.heap.size + 2) ((w.alloc (.cells #[.int .i64 now, .int .i64 ser, .slice RA rs.length rc, .slice TA ts.length tc] 25)).alloc (.cells #[.int .i64 0, .int .i64 0] 27)) wr) (fun i _ => ts.length - (intOf i).toNat)
      case atStart => exact ⟨0, Nat.zero_le _, rfl, HT.out, HM.out, hbl⟩
      case round =>
        clear p0 p1 p2 p3 p4 p5 p6 p7 HM HT H hlt hk hbl hB hz
        obtain ⟨j, hj, rfl, hs, hm, hbl⟩ := hrel
        have H := Lib.hid hs; clear hs
        obtain ⟨k1, k2, hz⟩ := box2 (w := w) hbl rfl (by omega)
        have hy : w.heap.size < wr.heap.size := by omega
        have hB : Below w.heap.size w wr := Below.trans (by repeat (first | (with_reducible exact Below.refl _ _) | ((with_reducible refine Below.alloc ?_ ?_ _); rotate_left; (focus (first | (simp; done)))))) (hbl.mono (by omega))
        obtain ⟨p0, p1, p2, p3, p4, p5, p6, p7⟩ := Blk.four k1
        obtain ⟨r0, r1, r2, r3⟩ := Blk.two k2
        have K1 := Lib.hid k1; have K2 := Lib.hid k2; clear k1 k2
        by_cases hlt : j < ts.length
        · have HS := Lib.hid (valT_step now ser ts rs j hlt)
          obtain ⟨b, o, rfl, hb, hc0, hc1, hc2⟩ := (ht.below hB).tm hlt
          rcases okT_cases now ser ts[j] with ⟨ho, g1, g2, g3, g4⟩ | ⟨ho, g1⟩ | ⟨ho, g1, g2⟩ | ⟨ho, g1, g2, g3⟩ | ⟨ho, g1, g2, g3, g4⟩
          rotate_left
          all_goals try
            have HC := Lib.hid (show codeT now ser (prevT ts j) ts[j] (seenT rs ts j) = 4 by simp [codeT, ho])
            clear ho
            go_wp2_with (go_at_call 35; refine (time_any _ _).mono ?_; rintro e w' ⟨rfl, rfl⟩)
            go_quiet (fail)
            go_wp2
            refine bodyPost_ret (v := .agg #[.int .i64 4, .int .i64 (1000 + j)]) (by simp [results, Try.results14, go_sem, r0, r1, hz]) rfl ⟨ret_flt (by rw [H.out, HS.out, HC.out]; rfl), ?_⟩
            exact (by repeat (first | (with_reducible exact hB) | (with_reducible apply below_drewN) | ((with_reducible refine Below.setCell ?_ ?_ _); rotate_left; (focus (first | (simp; done)))) | ((with_reducible refine Below.alloc ?_ ?_ _); rotate_left; (focus (omega)))))
          have hmlt := hm.lt
          by_cases hf : freshC ts[j].task (seenT rs ts j) = 0
          rotate_left
          · have hq : (freshC ts[j].task (seenT rs ts j) != 0) = true := by simpa using hf
            have hq2 : (freshC ts[j].task (seenT rs ts j) == 0) = false := by simpa using hf
            have HF := Lib.hid hf
            have HC := Lib.hid (show codeT now ser (prevT ts j) ts[j] (seenT rs ts j) = freshC ts[j].task (seenT rs ts j) by simp [codeT, ho, hf])
            clear hf ho
            go_wp2_with (first | (go_at_call 35; refine (time_any _ _).mono ?_; rintro e w' ⟨rfl, rfl⟩) | (go_at_call 40; refine (fresh_bad _ _ _ _ (by exact hm.alloc _) HF.out).mono ?_; rintro e w1 ⟨rfl, rfl⟩))
            go_quiet (fail)
            go_wp2
            refine bodyPost_ret (v := .agg #[.int .i64 (freshC ts[j].task (seenT rs ts j)), .int .i64 (1000 + j)]) (by simp [results, Try.results14, go_sem, r0, r1, hz]) rfl ⟨ret_flt (by rw [H.out, HS.out, HC.out, if_neg HF.out]), ?_⟩
            exact (by repeat (first | (with_reducible exact hB) | (with_reducible apply below_drewN) | ((with_reducible refine Below.setCell ?_ ?_ _); rotate_left; (focus (first | (simp; done)))) | ((with_reducible refine Below.alloc ?_ ?_ _); rotate_left; (focus (omega)))))
          have HF := Lib.hid hf
          by_cases hj0 : j = 0
          · have hp : prevT ts j = none := by simp [prevT, hj0]
            have HC := Lib.hid (show codeT now ser (prevT ts j) ts[j] (seenT rs ts j) = 0 by simp [codeT, ho, hf, hp])
            have hjz : decide (0 < j) = false := by simp; omega
            clear hf ho hp hj0
            go_wp2_with (first | (go_at_call 35; refine (time_any _ _).mono ?_; rintro e w' ⟨rfl, rfl⟩) | (go_at_call 40; refine (fresh_ok _ _ _ _ (by exact hm.alloc _) HF.out).mono ?_; rintro e w1 ⟨rfl, hm1, hg1⟩))
            go_quiet (fail)
            go_wp2
            go_roundw
            case rel =>
              refine ⟨j + 1, by omega, by go_num, by rw [H.out, HS.out, if_pos HC.out], ?_, ?_⟩
              · rw [seenT_succ rs ts j hlt]; exact hm1
              · refine below_drewN ?_ _
                exact (hbl.alloc (by omega) _).grown hg1 (by simp; omega) (by simp)
            case measure => simp [intOf]; omega
          have hjp : 0 < j := by omega
          have hlp : j - 1 < ts.length := by omega
          have HP := Lib.hid (show prevT ts j = some ts[j - 1] by simp [prevT, hj0, hlp])
          have HJ := Lib.hid hj0; clear hj0
          go_wp2_with (go_at_call 35; refine (time_any _ _).mono ?_; rintro e w' ⟨rfl, rfl⟩)
          refine (fresh_ok _ _ _ _ (by exact hm.alloc _) HF.out).mono ?_
          rintro e w1 ⟨rfl, hm1, hg1⟩
          have hbl1 := (hbl.alloc (by omega) (.cells #[.int .i64 ts[j].at_, .int .i64 ts[j].ser, .int .i64 ts[j].task] 46)).grown hg1 (by simp; omega) (by simp)
          obtain ⟨b1, b2, hz1⟩ := box2 (w := w) hbl1 rfl (by omega)
          have hB1 : Below w.heap.size w w1 := Below.trans (by repeat (first | (with_reducible exact Below.refl _ _) | ((with_reducible refine Below.alloc ?_ ?_ _); rotate_left; (focus (first | (simp; done)))))) (hbl1.mono (by omega))
          have kb : Blk w1 wr.heap.size 46 #[.int .i64 ts[j].at_, .int .i64 ts[j].ser, .int .i64 ts[j].task] := (hg1.block wr.heap.size (by simp) (by simp; omega)).trans (Blk.new wr _ _)
          obtain ⟨c0, c1, c2, _, _, _⟩ := kb.three
          obtain ⟨q0, q1, q2, q3, q4, q5, q6, q7⟩ := Blk.four b1
          obtain ⟨s0, s1, s2, s3⟩ := Blk.two b2
          obtain ⟨bb, oo, he, hbb, d0, d1, d2⟩ := (ht.below hB1).tm hlp
          simp only [Option.some.injEq, Addr.mk.injEq, and_true] at he
          obtain ⟨rfl, rfl⟩ := he
          have kz := kb.lt
          clear b1 b2 kb hf
          go_wp2_with fail
          have i1 : IntKind.i64.wrap ((j : Int) - 1) = (j : Int) - 1 := IntWalk.i64_in _ (by omega)
          have i2 : (0 : Int) ≤ (j : Int) - 1 := by omega
          have i3 : (1 : Int) ≤ (j : Int) := by omega
          have i4 : ((j : Int) - 1).toNat = j - 1 := by omega
          have i5 : (j : Int) - 1 < (ts.length : Int) := by omega
          go_region_held3 (fun w' => w'.cell? ⟨w.heap.size, 3, none⟩ = some (.slice (some ⟨b, o, none⟩) ts.length tc) ∧ w'.cell? ⟨b, o + (j - 1) * 3, none⟩ = some (.int .i64 ts[j - 1].at_) ∧ w'.cell? ⟨b, o + (j - 1) * 3 + 1, none⟩ = some (.int .i64 ts[j - 1].ser) ∧ w'.cell? ⟨b, o + (j - 1) * 3 + 2, none⟩ = some (.int .i64 ts[j - 1].task) ∧ w'.cell? ⟨wr.heap.size, 0, none⟩ = some (.int .i64 ts[j].at_) ∧ w'.cell? ⟨wr.heap.size, 1, none⟩ = some (.int .i64 ts[j].ser) ∧ w'.cell? ⟨wr.heap.size, 2, none⟩ = some (.int .i64 ts[j].task))
            (first | exact ⟨q3, d0, d1, d2, c0, c1, c2⟩ | exact ⟨(hb2.cell (p := ⟨w.heap.size, 3, none⟩) (by simp; omega)).trans q3, (hb2.cell (p := ⟨b, o + (j - 1) * 3, none⟩) (by simp; omega)).trans d0, (hb2.cell (p := ⟨b, o + (j - 1) * 3 + 1, none⟩) (by simp; omega)).trans d1, (hb2.cell (p := ⟨b, o + (j - 1) * 3 + 2, none⟩) (by simp; omega)).trans d2, (hb2.cell (p := ⟨wr.heap.size, 0, none⟩) (by simp; omega)).trans c0, (hb2.cell (p := ⟨wr.heap.size, 1, none⟩) (by simp; omega)).trans c1, (hb2.cell (p := ⟨wr.heap.size, 2, none⟩) (by simp; omega)).trans c2⟩)
            (first | (go_at_call 37; refine (order_any ts[j - 1] ts[j] _).mono ?_; rintro e w2 ⟨rfl, hb2⟩))
          clear i1 i2 i3 i4 i5
          have t0 := (hb2.cell (p := ⟨w.heap.size + 1, 0, none⟩) (by simp; omega)).trans s0
          have t1 := (hb2.cell (p := ⟨w.heap.size + 1, 1, none⟩) (by simp; omega)).trans s1
          have t2 := (hb2.frozen (p := ⟨w.heap.size + 1, 0, none⟩) (by simp; omega)).trans s2
          have t3 := (hb2.frozen (p := ⟨w.heap.size + 1, 1, none⟩) (by simp; omega)).trans s3
          have hB2 : Below w.heap.size w w2 := hB1.drew.trans (hb2.mono (show w.heap.size ≤ w1.heap.size by omega))
          have hbl2 := hbl1.drew.trans (hb2.mono (show w.heap.size + 2 ≤ w1.heap.size by omega))
          have hm2 : MapAt w2 (w.heap.size + 1 + 1) (Value.int .i64) (sset (seenT rs ts j ++ [ts[j].task])) := hm1.of_block (hb2.block _ (show w.heap.size + 1 + 1 < w1.heap.size by omega))
          by_cases hO : 0 ≤ orderI ts[j - 1] ts[j]
          · have HC := Lib.hid (show codeT now ser (prevT ts j) ts[j] (seenT rs ts j) = 11 by simp [codeT, ho, HF.out, HP.out, hO])
            clear ho
            go_wp2
            refine bodyPost_ret (v := .agg #[.int .i64 11, .int .i64 (1000 + j)]) (by simp [results, Try.results14, go_sem, t0, t1]) rfl ⟨ret_flt (by rw [H.out, HS.out, HC.out]; rfl), ?_⟩
            exact (by repeat (first | (with_reducible exact hB2) | ((with_reducible refine Below.setCell ?_ ?_ _); rotate_left; (focus (first | (simp; done))))))
          · have HC := Lib.hid (show codeT now ser (prevT ts j) ts[j] (seenT rs ts j) = 0 by simp [codeT, ho, HF.out, HP.out, hO])
            clear ho
            go_wp2
            go_roundw
            case rel =>
              refine ⟨j + 1, by omega, by go_num, by rw [H.out, HS.out, if_pos HC.out], ?_, ?_⟩
              · rw [seenT_succ rs ts j hlt]; exact hm2
              · exact hbl2
            case measure => simp [intOf]; omega
        · go_wp2
          refine bodyPost_ret (v := .agg #[.int .i64 0, .int .i64 0]) (by simp [results, Try.results14, go_sem, r0, r1]) rfl ⟨ret_flt (by rw [H.out, List.drop_eq_nil_of_le (by omega)]; rfl), ?_⟩
          exact (by repeat (first | (with_reducible exact hB) | ((with_reducible refine Below.setCell ?_ ?_ _); rotate_left; (focus (first | (simp; done))))))
end Go.Proofs.Ytgiebofmfkacgaa
namespace Go.Proofs.Ytgiebofmfkacgaa
open Go.RowKit

def cfOk (now ser : Int) (t : Tm) : Bool := inB t.task 0 1000000000000000 && (inB t.at_ (now + 1) 1000000000000000 && inB t.ser 0 (ser - 1))
def cfCode (now ser : Int) (rs : List Int) (pre : List Tm) (prev : Option Tm) (t : Tm) : Int :=
  if cfOk now ser t then (if busy rs pre t.task then 8 else (match prev with | none => 0 | some p => if laterB t p then 0 else 11)) else 4
def cfT (now ser : Int) (rs : List Int) (all : List Tm) : List Tm → Nat → Int × Int
  | [], _ => (0, 0)
  | t :: l, k => if cfCode now ser rs (all.take k) (prevT all k) t = 0 then cfT now ser rs all l (k + 1) else (cfCode now ser rs (all.take k) (prevT all k) t, 1000 + k)
def cfN (n : Int) (seen : List Int) : Int := if inB n 0 1000000000000000 then (if has seen n then 8 else 0) else 4
def cfR (now ser : Int) (ts : List Tm) (rs : List Int) : List Int → Nat → Int × Int
  | [], _ => cfT now ser rs ts ts 0
  | n :: l, k => if cfN n (rs.take k) = 0 then cfR now ser ts rs l (k + 1) else (cfN n (rs.take k), k)
def clockFault (c : Ck) : Int × Int :=
  if inB c.now 0 1000000000000000 && inB c.ser 0 1000000000000000 then (if 1000 < c.rs.length + c.ts.length then (2, -1) else cfR c.now c.ser c.ts c.rs c.rs 0) else (4, -1)
theorem cfR_step (now ser : Int) (ts : List Tm) (rs : List Int) (k : Nat) (h : k < rs.length) :
    cfR now ser ts rs (rs.drop k) k = if cfN rs[k] (rs.take k) = 0 then cfR now ser ts rs (rs.drop (k + 1)) (k + 1) else (cfN rs[k] (rs.take k), (k : Int)) := by
  rw [List.drop_eq_getElem_cons h]; rfl
theorem cfT_step (now ser : Int) (ts : List Tm) (rs : List Int) (k : Nat) (h : k < ts.length) :
    cfT now ser rs ts (ts.drop k) k = if cfCode now ser rs (ts.take k) (prevT ts k) ts[k] = 0 then cfT now ser rs ts (ts.drop (k + 1)) (k + 1) else (cfCode now ser rs (ts.take k) (prevT ts k) ts[k], 1000 + (k : Int)) := by
  rw [List.drop_eq_getElem_cons h]; rfl
end Go.Proofs.Ytgiebofmfkacgaa
