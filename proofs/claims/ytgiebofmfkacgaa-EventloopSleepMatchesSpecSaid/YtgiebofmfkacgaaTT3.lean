/-
  The layer of trees: calls.
-/
import Derived.Test.YtgiebofmfkacgaaTT2
namespace Go.Proofs.Ytgiebofmfkacgaa
open Go.RowKit

/-- The blocks of own objects. -/
def Bl (hp : List (Nat × Hb)) (b : Nat) : Prop := ∃ x, (b, x) ∈ hp
section
variable {c : Cx} {st : St} {tm : List (Nat × Value)} {h : Hs} {ρ ρ' : Rho} {G : Nat → Prop} {w : World}
theorem Gd.mz (g : Gd c st tm h ρ G) (hw : Hp h w) {G' : Nat → Prop} (hG : ∀ b, G b → G' b) : Mz ⟨G, h.w0⟩ ⟨G', w⟩ := ⟨hG, fun b hb => hw.same.block b (g.gF b hb)⟩
theorem borD_den (g : Gd c st tm h ρ G) (hw : Hp h w) {d : D} {x : V} {v : Value} {X : Prop} (hb : borD st.ob d = some x) (hn : needD st.ob X d) (hd : Den ρ ⟨G, h.w0⟩ d v) : DenV ⟨fun b => G b ∨ Bl h.hp b, w⟩ x v ∧ X ∧ (ownD d = false → DenV ⟨G, w⟩ x v) := by
  cases d with
  | u y =>
    simp only [borD, Option.some.injEq] at hb
    subst hb
    cases hd with | u hd =>
    exact ⟨hd.mono (g.mz hw fun _ h => .inl h), hn, fun _ => hd.mono (g.mz hw fun _ h => h)⟩
  | ow k n =>
    simp only [borD] at hb
    split at hb
    · rename_i u sz rs hk
      injection hb with hb; subst hb
      simp only [needD, hk] at hn
      cases hd with | @ow _ _ l h0 hA hnc =>
      obtain ⟨F, w0, hp⟩ := h
      obtain ⟨Y, f, ⟨A, cc, us, rfl, g2, g3, g4, g5⟩, g6⟩ := g.ob.at_ hk
      rw [h0] at g2
      injection g2 with g2; subst g2
      refine ⟨?_, hn.k, fun h => by cases h⟩
      have hz := g.mz hw (G' := fun b => G b ∨ Bl hp b) fun _ h => .inl h
      have g4' := g4.mono hz
      rcases g3.form with ⟨rfl, h1, h2⟩ | ⟨b, rfl⟩
      · have hrs : rs = [] := List.eq_nil_of_length_eq_zero h1
        subst hrs
        exact .sl (b := 0) (o := 0) [] hn.h hnc (Nat.le_trans hnc g3.max) g5 (fun h => absurd rfl h) (by simp) (fun j u h => by simp at h) rfl (fun j d u h => by simp at h)
      · have hm : (b, (⟨u, us, cc * sz⟩ : Hb)) ∈ hp := g6.mem (by rw [hbA_some]; exact List.mem_singleton.2 rfl)
        exact .sl (b := b) (o := 0) us hn.h hnc (Nat.le_trans hnc g3.max) g5 (fun _ => ⟨rfl, .inr ⟨_, hm⟩⟩) g4'.len (fun j x hx => by rw [Nat.zero_add]; exact (hw.blk b _ hm).cell (x := ⟨u, us, _⟩) hx) g4'.one g4'.den
    · cases hb
  | _ => cases hb
theorem borL_den (g : Gd c st tm h ρ G) (hw : Hp h w) {X : Prop} : ∀ {ds : List D} {xs : List V} {us : List Value}, borL st.ob ds = some xs → needL st.ob X ds → DenL ρ ⟨G, h.w0⟩ ds us → DenVL ⟨fun b => G b ∨ Bl h.hp b, w⟩ xs us ∧ X ∧ (ownL ds = false → DenVL ⟨G, w⟩ xs us)
  | [], xs, us, hb, hn, hd => by
    simp [borL] at hb
    subst hb
    have := hd.len
    simp at this
    subst this
    exact ⟨.nil, hn, fun _ => .nil⟩
  | d :: r, xs, us, hb, hn, hd => by
    simp only [borL] at hb
    cases h1 : borD st.ob d with
    | none => simp [h1] at hb
    | some y =>
      cases h2 : borL st.ob r with
      | none => simp [h1, h2] at hb
      | some l =>
        simp only [h1, h2, Option.some.injEq] at hb
        subst hb
        have hl := hd.len
        cases us with
        | nil => simp at hl
        | cons u us =>
          simp only [needL] at hn
          obtain ⟨q1, q2, q3⟩ := borD_den g hw h1 hn (hd.den 0 d u rfl rfl)
          obtain ⟨r1, r2, r3⟩ := borL_den g hw (us := us) h2 q2 ⟨by simpa using hl, by have := hd.one; simp at this; simpa using this.2, fun j d v e1 e2 => hd.den (j + 1) d v (by simpa using e1) (by simpa using e2)⟩
          refine ⟨⟨by simp [r1.len], by simp [q1.one, r1.one], fun j d v e1 e2 => ?_⟩, r2, fun ho => ?_⟩
          · cases j with
            | zero => simp at e1 e2; subst e1 e2; exact q1
            | succ j => exact r1.den j d v (by simpa using e1) (by simpa using e2)
          · simp only [ownL] at ho
            cases hod : ownD d
            · rw [hod] at ho
              have r3' := r3 ho
              exact ⟨by simp [r3'.len], by simp [q1.one, r3'.one], fun j d v e1 e2 => by
                cases j with
                | zero => simp at e1 e2; subst e1 e2; exact q3 hod
                | succ j => exact r3'.den j d v (by simpa using e1) (by simpa using e2)⟩
            · rw [hod] at ho; cases ho
theorem borS_den (g : Gd c st tm h ρ G) (hw : Hp h w) {s s' : SV} {v : Value} {X : Prop} (hb : borS st.ob s = some s') (hn : needS st.ob X s) (hd : DenS ρ ⟨G, h.w0⟩ s v) : DenS ρ' ⟨fun b => G b ∨ Bl h.hp b, w⟩ s' v ∧ X ∧ (ownS s = false → DenS ρ' ⟨G, w⟩ s' v) := by
  cases s with
  | d x =>
    simp only [borS] at hb
    cases h1 : borD st.ob x with
    | none => simp [h1] at hb
    | some y =>
      simp only [h1, Option.some.injEq] at hb
      subst hb
      cases hd with | d hd =>
      obtain ⟨q1, q2, q3⟩ := borD_den g hw h1 hn hd
      exact ⟨.d (.u q1), q2, fun ho => .d (.u (q3 ho))⟩
  | a xs =>
    simp only [borS] at hb
    cases h1 : borL st.ob xs with
    | none => simp [h1] at hb
    | some ys =>
      simp only [h1, Option.some.injEq] at hb
      subst hb
      cases hd with | a hd =>
      obtain ⟨q1, q2, q3⟩ := borL_den g hw h1 hn hd
      exact ⟨.a (by rw [upT_map]; exact q1.up), q2, fun ho => .a (by rw [upT_map]; exact (q3 ho).up)⟩
  | t vs => cases hb
theorem argsT_ev (g : Gd c st tm h ρ G) : ∀ {xs : List Operand} {ss : List SV}, argsT st.ob st.tm xs = some ss → ∃ vs, ArgsL tm xs vs ∧ vs.length = ss.length ∧ ∀ w, Hp h w → ∀ X, needA st.ob st.tm X xs →
    X ∧ (∀ (j : Nat) s v, ss[j]? = some s → vs[j]? = some v → DenS ρ' ⟨fun b => G b ∨ Bl h.hp b, w⟩ s v) ∧ (ownA st.tm xs = false → ∀ (j : Nat) s v, ss[j]? = some s → vs[j]? = some v → DenS ρ' ⟨G, w⟩ s v)
  | [], ss, ha => by simp [argsT] at ha; subst ha; exact ⟨[], .nil, rfl, fun w hw X hn => ⟨hn, by simp, by simp⟩⟩
  | x :: r, ss, ha => by
    simp only [argsT] at ha
    cases hx : evT st.tm x with
    | none => simp [hx] at ha
    | some s =>
      simp only [hx] at ha
      cases hb : borS st.ob s with
      | none => simp [hb] at ha
      | some s' =>
        simp only [hb] at ha
        cases hr : argsT st.ob st.tm r with
        | none => simp [hr] at ha
        | some l =>
          simp only [hr, Option.some.injEq] at ha
          subst ha
          obtain ⟨v, q1, q2⟩ := g.ev hx
          obtain ⟨vs, r1, r2, r3⟩ := argsT_ev g hr
          refine ⟨v :: vs, .cons q1 r1, by simp [r2], fun w hw X hn => ?_⟩
          simp only [needA, hx] at hn
          obtain ⟨b1, b2, b3⟩ := borS_den (ρ' := ρ') g hw hb hn q2
          obtain ⟨t1, t2, t3⟩ := r3 w hw X b2
          refine ⟨t1, fun j s0 v0 e1 e2 => ?_, fun ho j s0 v0 e1 e2 => ?_⟩
          · cases j with
            | zero => simp at e1 e2; subst e1 e2; exact b1
            | succ j => exact t2 j s0 v0 (by simpa using e1) (by simpa using e2)
          · simp only [ownA, hx] at ho
            cases hos : ownS s
            · rw [hos] at ho
              cases j with
              | zero => simp at e1 e2; subst e1 e2; exact b3 hos
              | succ j => exact t3 ho j s0 v0 (by simpa using e1) (by simpa using e2)
            · rw [hos] at ho; cases ho
theorem lk_slT {s : SV} : ∀ {ss : List SV} {n k : Nat}, lk k (slT n ss) = some s → n ≤ k ∧ ss[k - n]? = some s
  | [], n, k, h => by simp [slT, lk] at h
  | x :: r, n, k, h => by
    simp only [slT, lk] at h
    cases hb : Nat.beq k n
    · rw [hb] at h
      obtain ⟨h1, h2⟩ := lk_slT h
      refine ⟨by omega, ?_⟩
      rw [show k - n = (k - (n + 1)) + 1 by omega]
      simpa using h2
    · rw [hb] at h
      have := Nat.eq_of_beq_eq_true hb
      subst this
      simpa using h
theorem lk_slots {v : Value} : ∀ {vs : List Value} {n k : Nat}, n ≤ k → vs[k - n]? = some v → lk k (slots n vs) = some v
  | [], n, k, _, h => by simp at h
  | x :: r, n, k, hk, h => by
    simp only [slots, lk]
    cases hb : Nat.beq k n
    · have hne : k ≠ n := fun e => by rw [e, Nat.beq_refl] at hb; cases hb
      exact lk_slots (by omega) (by rw [show k - n = (k - (n + 1)) + 1 by omega] at h; simpa using h)
    · have := Nat.eq_of_beq_eq_true hb
      subst this
      simpa using h
theorem pureL_get : ∀ {cs : List D}, pureL cs = true → ∀ (j : Nat) d, cs[j]? = some d → ∃ x, d = .u x
  | [], _, j, d, hj => by simp at hj
  | x :: r, h, j, d, hj => by
    cases x <;> simp only [pureL] at h <;> try cases h
    cases j with
    | zero => simp at hj; exact ⟨_, hj.symm⟩
    | succ j => exact pureL_get h j d (by simpa using hj)
theorem pureC_get : ∀ {cs : List SC}, pureC cs = true → ∀ (j : Nat) s, cs[j]? = some s → (∃ x, s = .d (.u x)) ∨ ∃ xs, s = .a xs ∧ pureL xs = true
  | [], _, j, d, hj => by simp at hj
  | x :: r, h, j, s, hj => by
    cases x with
    | d y =>
      cases y <;> simp only [pureC] at h <;> try cases h
      cases j with
      | zero => simp at hj; exact .inl ⟨_, hj.symm⟩
      | succ j => exact pureC_get h j s (by simpa using hj)
    | a xs =>
      simp only [pureC] at h
      cases hp : pureL xs <;> rw [hp] at h
      · cases h
      · cases j with
        | zero => simp at hj; exact .inr ⟨xs, hj.symm, hp⟩
        | succ j => exact pureC_get h j s (by simpa using hj)
theorem DenL.pure {z : Fz} {cs : List D} {us : List Value} (hp : pureL cs = true) (h : DenL ρ z cs us) : DenL ρ' z cs us := ⟨h.len, h.one, fun j d u h1 h2 => by
  obtain ⟨x, rfl⟩ := pureL_get hp j d h1
  have := h.den j _ u h1 h2
  cases this with | u this => exact .u this⟩
theorem DenS.pure {z : Fz} {s : SV} {v : Value} (hp : pureS s = true) (h : DenS ρ z s v) : DenS ρ' z s v := by
  cases h with
  | @d x _ h =>
    cases x <;> simp only [pureS] at hp <;> try cases hp
    cases h with | u h => exact .d (.u h)
  | a h => exact .a (h.pure hp)
  | t hl hd =>
    refine .t hl fun j s v h1 h2 => ?_
    rcases pureC_get hp j s h1 with ⟨x, rfl⟩ | ⟨xs, rfl, hx⟩
    · cases hd j _ v h1 h2 with | d h => cases h with | u h => exact .d (.u h)
    · cases hd j _ v h1 h2 with | a h => exact .a (h.pure hx)
theorem DenV.flat {z z' : Fz} {x : V} {v : Value} (hf : flatV x = true) (h : DenV z x v) : DenV z' x v := by
  cases h with
  | sl => cases hf
  | int => exact .int _ _
  | bool => exact .bool _
  | str _ hs => exact .str _ hs
  | nl => exact .nl
  | pn => exact .pn
  | fn => exact .fn
  | v h => exact .v h
theorem flatL_get : ∀ {cs : List D}, flatL cs = true → ∀ (j : Nat) d, cs[j]? = some d → ∃ x, d = .u x ∧ flatV x = true
  | [], _, j, d, hj => by simp at hj
  | x :: r, h, j, d, hj => by
    cases x <;> simp only [flatL] at h <;> try cases h
    rename_i y
    cases hy : flatV y <;> rw [hy] at h
    · cases h
    · cases j with
      | zero => simp at hj; exact ⟨y, hj.symm, hy⟩
      | succ j => exact flatL_get h j d (by simpa using hj)
theorem flatC_get : ∀ {cs : List SC}, flatC cs = true → ∀ (j : Nat) s, cs[j]? = some s → (∃ x, s = .d (.u x) ∧ flatV x = true) ∨ ∃ xs, s = .a xs ∧ flatL xs = true
  | [], _, j, d, hj => by simp at hj
  | x :: r, h, j, s, hj => by
    cases x with
    | d y =>
      cases y <;> simp only [flatC] at h <;> try cases h
      rename_i y
      cases hy : flatV y <;> rw [hy] at h
      · cases h
      · cases j with
        | zero => simp at hj; exact .inl ⟨_, hj.symm, hy⟩
        | succ j => exact flatC_get h j s (by simpa using hj)
    | a xs =>
      simp only [flatC] at h
      cases hp : flatL xs <;> rw [hp] at h
      · cases h
      · cases j with
        | zero => simp at hj; exact .inr ⟨xs, hj.symm, hp⟩
        | succ j => exact flatC_get h j s (by simpa using hj)
theorem DenL.flat {z z' : Fz} {cs : List D} {us : List Value} (hp : flatL cs = true) (h : DenL ρ z cs us) : DenL ρ' z' cs us := ⟨h.len, h.one, fun j d u h1 h2 => by
  obtain ⟨x, rfl, hx⟩ := flatL_get hp j d h1
  have := h.den j _ u h1 h2
  cases this with | u this => exact .u (this.flat hx)⟩
theorem DenS.flat {z z' : Fz} {s : SV} {v : Value} (hp : flatS s = true) (h : DenS ρ z s v) : DenS ρ' z' s v := by
  cases h with
  | @d x _ h =>
    cases x <;> simp only [flatS] at hp <;> try cases hp
    cases h with | u h => exact .d (.u (h.flat hp))
  | a h => exact .a (h.flat hp)
  | t hl hd =>
    refine .t hl fun j s v h1 h2 => ?_
    rcases flatC_get hp j s h1 with ⟨x, rfl, hx⟩ | ⟨xs, rfl, hx⟩
    · cases hd j _ v h1 h2 with | d h => cases h with | u h => exact .d (.u (h.flat hx))
    · cases hd j _ v h1 h2 with | a h => exact .a (h.flat hx)
end
section
variable {ρ : Rho} {k sz : Nat} {rs : List (List V)}
theorem frNeedD_x {X : Prop} {d : D} (h : frNeedD k rs X d) : X := by
  cases d <;> simp only [frNeedD] at h <;> first | exact h | skip
  rename_i j n
  cases hb : Nat.beq j k <;> simp only [hb, cond_false, cond_true] at h
  · exact h
  · exact h.k
theorem frNeedL_x {X : Prop} : ∀ {ds : List D}, frNeedL k rs X ds → X
  | [], h => h
  | _ :: _, h => frNeedL_x (frNeedD_x h)
theorem frNeedC_x {X : Prop} : ∀ {ds : List SC}, frNeedC k rs X ds → X
  | [], h => h
  | .d _ :: _, h => frNeedC_x (frNeedD_x h)
  | .a _ :: _, h => frNeedC_x (frNeedL_x h)
theorem frNeedS_x {X : Prop} {s : SV} (h : frNeedS k rs X s) : X := by
  cases s with
  | d x => exact frNeedD_x h
  | a xs => exact frNeedL_x h
  | t vs => exact frNeedC_x h
/-- What is known of a frozen array. -/
structure Frz (ρ : Rho) (z : Fz) (k sz : Nat) (rs : List (List V)) : Prop where
  den : ∀ (n : Nat) (v : Value), rs.length = n → Den ρ z (.ow k n) v → DenV z (.sl sz rs) v
theorem frD_den {z : Fz} {X : Prop} (fz : Frz ρ z k sz rs) {d : D} {v : Value} (hn : frNeedD k rs X d) (h : Den ρ z d v) : Den ρ z (frD k sz rs d) v := by
  cases d <;> simp only [frNeedD, frD] at hn ⊢ <;> first | exact h | skip
  rename_i j n
  cases hb : Nat.beq j k <;> simp only [hb, cond_false, cond_true] at hn ⊢
  · exact h
  · have := Nat.eq_of_beq_eq_true hb
    subst this
    exact .u (fz.den n v hn.h h)
theorem frL_den {z : Fz} {X : Prop} (fz : Frz ρ z k sz rs) : ∀ {ds : List D} {us : List Value}, frNeedL k rs X ds → DenL ρ z ds us → DenL ρ z (frL k sz rs ds) us
  | [], us, hn, h => h
  | d :: r, us, hn, h => by
    have hl := h.len
    cases us with
    | nil => simp at hl
    | cons x us =>
      simp only [frNeedL] at hn
      exact (frL_den fz (us := us) (frNeedD_x hn) ⟨by simpa using hl, by have := h.one; simp at this; simpa using this.2, fun j d v e1 e2 => h.den (j + 1) d v (by simpa using e1) (by simpa using e2)⟩).cons (frD_den fz hn (h.den 0 d x rfl rfl))
theorem frL_len : ∀ {ds : List D}, (frL k sz rs ds).length = ds.length
  | [] => rfl
  | _ :: r => by simp [frL, frL_len (ds := r)]
theorem frC_den {z : Fz} {X : Prop} (fz : Frz ρ z k sz rs) : ∀ {ss : List SC} {vs : List Value}, frNeedC k rs X ss → vs.length = ss.length → (∀ (j : Nat) s v, ss[j]? = some s → vs[j]? = some v → DenC ρ z s v) → (frC k sz rs ss).length = ss.length ∧ ∀ (j : Nat) s v, (frC k sz rs ss)[j]? = some s → vs[j]? = some v → DenC ρ z s v
  | [], vs, hn, _, _ => ⟨rfl, by simp [frC]⟩
  | .d x :: r, vs, hn, hl, hd => by
    cases vs with
    | nil => simp at hl
    | cons v vs =>
      simp only [frNeedC] at hn
      have h0 := hd 0 _ v rfl rfl
      cases h0 with | d h0 =>
      obtain ⟨r2, r3⟩ := frC_den fz (vs := vs) (frNeedD_x hn) (by simpa using hl) (fun j s v e1 e2 => hd (j + 1) s v (by simpa using e1) (by simpa using e2))
      refine ⟨by simp [frC, r2], fun j s v0 e1 e2 => ?_⟩
      cases j with
      | zero => simp [frC] at e1 e2; subst e1 e2; exact .d (frD_den fz hn h0)
      | succ j => exact r3 j s v0 (by simpa [frC] using e1) (by simpa using e2)
  | .a xs :: r, vs, hn, hl, hd => by
    cases vs with
    | nil => simp at hl
    | cons v vs =>
      simp only [frNeedC] at hn
      have h0 := hd 0 _ v rfl rfl
      cases h0 with | a h0 =>
      obtain ⟨r2, r3⟩ := frC_den fz (vs := vs) (frNeedL_x hn) (by simpa using hl) (fun j s v e1 e2 => hd (j + 1) s v (by simpa using e1) (by simpa using e2))
      refine ⟨by simp [frC, r2], fun j s v0 e1 e2 => ?_⟩
      cases j with
      | zero => simp [frC] at e1 e2; subst e1 e2; exact .a (frL_den fz hn h0)
      | succ j => exact r3 j s v0 (by simpa [frC] using e1) (by simpa using e2)
theorem frS_den {z : Fz} {X : Prop} (fz : Frz ρ z k sz rs) {s : SV} {v : Value} (hn : frNeedS k rs X s) (h : DenS ρ z s v) : DenS ρ z (frS k sz rs s) v := by
  cases h with
  | d h => exact .d (frD_den fz hn h)
  | a h => exact .a (frL_den fz hn h)
  | t hl hd => obtain ⟨q2, q3⟩ := frC_den fz hn hl hd; exact .t (by rw [q2]; exact hl) q3
theorem frTm_lk {X : Prop} : ∀ {tm : List (Nat × SV)}, frNeedT k rs X tm → X ∧ ∀ j s', lk j (frTm k sz rs tm) = some s' → ∃ s, lk j tm = some s ∧ s' = frS k sz rs s ∧ ∃ Y, frNeedS k rs Y s
  | [], hn => ⟨hn, fun j s' h => by simp [frTm, lk] at h⟩
  | (i, s) :: r, hn => by
    simp only [frNeedT] at hn
    obtain ⟨q1, q2⟩ := frTm_lk (frNeedS_x hn)
    refine ⟨q1, fun j s' h => ?_⟩
    simp only [frTm, lk] at h ⊢
    cases hb : Nat.beq j i <;> rw [hb] at h
    · exact q2 j s' h
    · simp only [cond_true, Option.some.injEq] at h
      exact ⟨s, rfl, h.symm, _, hn⟩
theorem frOb_den {z : Fz} {X : Prop} (fz : Frz ρ z k sz rs) : ∀ {ob : List (Nat × Ob)} {hp : List (Nat × Hb)}, frNeedO k rs X ob → ObsOk ρ z ob hp → X ∧ ObsOk ρ z (frOb k sz rs ob) hp
  | [], _, hn, h => ⟨hn, h⟩
  | (j, .bx t cs) :: r, hp, hn, ⟨Y, hp', h1, ⟨b, us, h2, h3, h4⟩, h5⟩ => by
    simp only [frNeedO] at hn
    obtain ⟨q1, q2⟩ := frOb_den fz (frNeedL_x hn) h5
    exact ⟨q1, Y, hp', h1, ⟨b, us, by rw [frL_len]; exact h2, by rw [frL_len]; exact h3, frL_den fz hn h4⟩, q2⟩
  | (j, .ar t m ss) :: r, hp, hn, ⟨Y, hp', h1, h2, h5⟩ => by
    simp only [frNeedO] at hn
    obtain ⟨q1, q2⟩ := frOb_den fz hn h5
    exact ⟨q1, Y, hp', h1, h2, q2⟩
end
section
variable {c : Cx} {tm : List (Nat × Value)} {ρ : Rho} {w : World}
/-- An own array is frozen. -/
theorem Gd.freeze {st : St} {h : Hs} {G : Nat → Prop} {k u sz : Nat} {rs : List (List V)} {X : Prop} (g : Gd c st tm h ρ G) (hw : Hp h w) (hk : lk k st.ob = some (.ar u sz rs)) (hn : frNeedT k rs (frNeedO k rs X (obr k st.ob)) st.tm) :
    X ∧ ∃ h' G', Gd c ⟨frTm k sz rs st.tm, frOb k sz rs (obr k st.ob)⟩ tm h' ρ G' ∧ Hp h' w ∧ ∀ w', Hp h' w' → Hp h w' := by
  obtain ⟨F, w0, hp⟩ := h
  obtain ⟨Y, f, ⟨A, cc, us, rfl, g2, g3, g4, g5⟩, g6, _, g8⟩ := g.ob.set hk
  have hperm : hp.Perm (hbA A u us cc sz ++ f []) := by have := g6.perm (hbA A u us cc sz); rwa [g6.eq] at this
  have hnd : ((hbA A u us cc sz ++ f []).map Prod.fst).Nodup := (hperm.map _).nodup_iff.1 hw.nd
  have hmem : ∀ p, p ∈ hp ↔ p ∈ hbA A u us cc sz ∨ p ∈ f [] := fun p => by rw [hperm.mem_iff, List.mem_append]
  have hB : ∀ b, Bl (hbA A u us cc sz) b → ¬ F b := fun b ⟨x, hx⟩ => hw.out b x ((hmem _).2 (.inl hx))
  have hz : Mz ⟨G, w0⟩ ⟨fun b => G b ∨ Bl (hbA A u us cc sz) b, w⟩ := ⟨fun _ h => .inl h, fun b hb => hw.same.block b (g.gF b hb)⟩
  have g4' := g4.mono hz
  have fz : Frz ρ ⟨fun b => G b ∨ Bl (hbA A u us cc sz) b, w⟩ k sz rs := ⟨fun n v hn h => by
    cases h with | @ow _ _ l h0 hA hnc =>
    rw [h0] at g2
    injection g2 with g2; subst g2
    rcases g3.form with ⟨rfl, h1, h2⟩ | ⟨b, rfl⟩
    · have hrs : rs = [] := List.eq_nil_of_length_eq_zero h1
      subst hrs
      exact .sl (b := 0) (o := 0) [] hn hnc (Nat.le_trans hnc g3.max) g5 (fun h => absurd rfl h) (by simp) (fun j u h => by simp at h) rfl (fun j d u h => by simp at h)
    · have hm : (b, (⟨u, us, cc * sz⟩ : Hb)) ∈ hbA (some ⟨b, 0, none⟩) u us cc sz := by rw [hbA_some]; exact List.mem_singleton.2 rfl
      exact .sl (b := b) (o := 0) us hn hnc (Nat.le_trans hnc g3.max) g5 (fun _ => ⟨rfl, .inr ⟨_, hm⟩⟩) g4'.len (fun j x hx => by rw [Nat.zero_add]; exact (hw.blk b _ ((hmem _).2 (.inl hm))).cell (x := ⟨u, us, _⟩) hx) g4'.one g4'.den⟩
  obtain ⟨q1, q2⟩ := frTm_lk (sz := sz) hn
  obtain ⟨r1, r2⟩ := frOb_den fz q1 (g8.mono hz .refl)
  refine ⟨r1, ⟨fun b => F b ∨ Bl (hbA A u us cc sz) b, w, f []⟩, fun b => G b ∨ Bl (hbA A u us cc sz) b, ⟨fun b hb => .inl (g.fF b hb), g.fw.trans (hw.same.mono g.fF), fun b hb => hb.imp (g.gF b) id, fun b hb => ?_, fun j s' hj => ?_, r2⟩, ⟨Same.refl _ _, fun b hb => ?_, fun b x hx => hw.blk b x ((hmem _).2 (.inr hx)), ?_, fun b x hx hb => ?_⟩, fun w' hw' => ?_⟩
  · rcases hb with hb | hb
    · exact g.gx b hb
    · exact .inr fun h0 => hB b hb (g.fF b h0)
  · obtain ⟨s, e1, rfl, Z, e3⟩ := q2 j s' hj
    obtain ⟨v, v1, v2⟩ := g.tm j s e1
    exact ⟨v, v1, frS_den fz e3 (v2.mono hz .refl)⟩
  · rcases hb with hb | ⟨x, hx⟩
    · exact hw.Flt hb
    · exact (hw.blk b x ((hmem _).2 (.inl hx))).lt
  · rw [List.map_append, List.nodup_append] at hnd; exact hnd.2.1
  · rcases hb with hb | ⟨y, hy⟩
    · exact hw.out b x ((hmem _).2 (.inr hx)) hb
    · rw [List.map_append, List.nodup_append] at hnd
      exact hnd.2.2 b (List.mem_map_of_mem (f := Prod.fst) hy) b (List.mem_map_of_mem (f := Prod.fst) hx) rfl
  · refine ⟨hw.same.trans (hw'.same.mono fun _ h => .inl h), hw.inF, fun b x hx => ?_, hw.nd, hw.out⟩
    rcases (hmem _).1 hx with h1 | h1
    · exact (hw.blk b x hx).of_block (hw'.same.block b (.inr ⟨x, h1⟩))
    · exact hw'.blk b x h1
theorem frAll_out {K : Kt} : ∀ {ks : List Nat} {st : St} {h : Hs} {G : Nat → Prop}, Gd c st tm h ρ G → Hp h w → frAll K ks st.tm st.ob → ∃ st' h' G', Gd c st' tm h' ρ G' ∧ Hp h' w ∧ (∀ w', Hp h' w' → Hp h w') ∧ K st'.tm st'.ob
  | [], st, h, G, g, hw, k => ⟨st, h, G, g, hw, fun _ h => h, k⟩
  | k0 :: r, st, h, G, g, hw, k => by
    simp only [frAll] at k
    split at k
    · rename_i u sz rs hk
      obtain ⟨q1, h', G', q2, q3, q4⟩ := g.freeze hw hk k
      obtain ⟨st2, h2, G2, r1, r2, r3, r4⟩ := frAll_out q2 q3 q1
      exact ⟨st2, h2, G2, r1, r2, fun w' hw' => q4 w' (r3 w' hw'), r4⟩
    · exact k.elim
end
section
variable {P : Program} {T : List (Nat × Ty)} {nt : Nat} {Q : Exit → Act → World → Prop} {c : Cx} {st : St} {tm : List (Nat × Value)} {h : Hs} {ρ : Rho} {G : Nat → Prop} {ty : TypeId} {pos : String} {af : Array Edge} {gd : Option (Nat × Bool)} {K : Kt}
/-- What a call by contract gives. -/
theorem call_out (g : Gd c st tm h ρ G) {f : FuncId} {xs : List Operand} {ss : List SV} {KS : SV → Prop} (ha : argsT st.ob st.tm xs = some ss) (hn : needA st.ob st.tm (Cl P f ss (ownA st.tm xs) KS) xs) :
    ∃ vs, ArgsL tm xs vs ∧ ∀ w, Hp h w → FnOk P f ∧ Calls P f vs.toArray w fun e w' => ∃ v h', e = .returned v ∧ Hp h' w' ∧ ∃ s G', KS s ∧ DenS ρ ⟨G', h'.w0⟩ s v ∧ Gd c st tm h' ρ G' ∧ ∀ w, Hp h' w → Hp h w := by
  obtain ⟨vs, a1, a2, a3⟩ := argsT_ev (ρ' := ρ) g ha
  refine ⟨vs, a1, fun w hw => ?_⟩
  obtain ⟨cl, a4, a5⟩ := a3 w hw _ hn
  refine ⟨cl.out.fn, ?_⟩
  have hF : ∀ b, Bl h.hp b → ¬ h.F b := fun b ⟨x, hx⟩ => hw.out b x hx
  have hin : ∀ b, h.F b ∨ Bl h.hp b → b < w.heap.size := fun b hb => by
    rcases hb with hb | ⟨x, hx⟩
    · exact hw.Flt hb
    · exact (hw.blk b x hx).lt
  have key : ∀ Gc : Nat → Prop, (∀ b, Gc b → h.F b ∨ Bl h.hp b) → (∀ (j : Nat) s v, ss[j]? = some s → vs[j]? = some v → DenS ρ ⟨Gc, w⟩ s v) →
      Calls P f vs.toArray w fun e w' => ∃ v h' s G', e = .returned v ∧ Hp h' w' ∧ (∀ w, Hp h' w → Hp h w) ∧ Gd c st tm h' ρ G ∧ (∀ b, G' b → Gc b ∨ ¬ (h.F b ∨ Bl h.hp b)) ∧ (∀ b, G' b → ¬ Bl h.hp b → h'.F b) ∧ DenS ρ ⟨G', h'.w0⟩ s v ∧ (ownA st.tm xs = true → flatS s = true) ∧ KS s := by
    intro Gc hGc hden
    have hp0 : Hp ⟨fun b => h.F b ∨ Bl h.hp b, w, []⟩ w := ⟨Same.refl _ _, hin, fun _ _ h => (by cases h), by simp, fun _ _ h => (by cases h)⟩
    refine (cl.out.out ⟨fun b => h.F b ∨ Bl h.hp b, w, Gc⟩ ρ [] vs w hp0 a2 ⟨fun _ hb => hb, Same.refl _ _, hGc, fun _ hb => .inl hb, fun k s hk => ?_, rfl⟩).mono ?_
    · obtain ⟨h1, h2⟩ := lk_slT hk
      have hlt : k - 0 < vs.length := by rw [a2]; exact (List.getElem?_eq_some_iff.1 h2).1
      exact ⟨vs[k - 0], lk_slots h1 (List.getElem?_eq_getElem hlt), hden _ s _ h2 (List.getElem?_eq_getElem hlt)⟩
    · rintro e w' ⟨v, h', s, ob', ρ', G', rfl, hw', g', rfl, hpu, hfl, hk⟩
      have hhp : h'.hp = [] := g'.ob
      obtain ⟨v', e1, e2⟩ := g'.tm 0 s rfl
      simp only [lk, Nat.beq_refl, cond_true, Option.some.injEq] at e1
      subst e1
      have hkeep : ∀ b, h.F b ∨ Bl h.hp b → w'.heap[b]? = w.heap[b]? := fun b hb => (hw'.same.block b (g'.fF b hb)).trans (g'.fw.block b hb)
      refine ⟨v, ⟨fun b => h'.F b ∧ ¬ Bl h.hp b, h'.w0, h.hp⟩, s, G', rfl, ⟨hw'.same.mono fun _ hb => hb.1, fun b hb => hw'.inF b hb.1, fun b x hx => (hw.blk b x hx).of_block (hkeep b (.inr ⟨x, hx⟩)), hw.nd, fun b x hx hb => hb.2 ⟨x, hx⟩⟩, fun w2 hw2 => ?_, ?_, g'.gx, fun b hb hnb => ⟨g'.gF b hb, hnb⟩, e2.pure hpu, hfl, hk⟩
      · refine ⟨(hw.same.trans (g'.fw.mono fun b hb => .inl hb)).trans (hw2.same.mono fun b hb => ⟨g'.fF b (.inl hb), fun hbl => hF b hbl hb⟩), hw.inF, hw2.blk, hw2.nd, fun b x hx hb => hF b ⟨x, hx⟩ hb⟩
      have hm : Mz ⟨G, h.w0⟩ ⟨G, h'.w0⟩ := ⟨fun _ hb => hb, fun b hb => (g'.fw.block b (.inl (g.gF b hb))).trans (hw.same.block b (g.gF b hb))⟩
      refine ⟨fun b hb => ⟨g'.fF b (.inl (g.fF b hb)), fun hbl => hF b hbl (g.fF b hb)⟩, ?_, fun b hb => ⟨g'.fF b (.inl (g.gF b hb)), fun hbl => hF b hbl (g.gF b hb)⟩, g.gx, fun k s hk => ?_, g.ob.mono hm .refl⟩
      · exact (g.fw.trans (hw.same.mono g.fF)).trans (g'.fw.mono fun b hb => .inl (g.fF b hb))
      · obtain ⟨u, h1, h2⟩ := g.tm k s hk
        exact ⟨u, h1, h2.mono hm .refl⟩
  cases ho : ownA st.tm xs
  · refine (key G (fun b hb => .inl (g.gF b hb)) (a5 ho)).mono ?_
    rintro e w' ⟨v, h', s, G', rfl, hw', hkp, g', hg1, hg2, hd, _, hk⟩
    refine ⟨v, h', rfl, hw', s, fun b => G b ∨ G' b, hk, DenS.mono (z := ⟨G', h'.w0⟩) (z' := ⟨fun b => G b ∨ G' b, h'.w0⟩) ⟨fun _ hb => Or.inr hb, fun _ _ => rfl⟩ .refl hd, ?_⟩
    have hm : Mz ⟨G, h'.w0⟩ ⟨fun b => G b ∨ G' b, h'.w0⟩ := ⟨fun _ hb => Or.inl hb, fun _ _ => rfl⟩
    have hnb : ∀ b, G' b → ¬ Bl h.hp b := fun b hb hbl => by
      rcases hg1 b hb with h1 | h1
      · exact hF b hbl (g.gF b h1)
      · exact h1 (.inr hbl)
    refine ⟨⟨g'.fF, g'.fw, fun b hb => ?_, fun b hb => ?_, fun k s hk => ?_, g'.ob.mono hm .refl⟩, hkp⟩
    · rcases hb with hb | hb
      · exact g'.gF b hb
      · exact hg2 b hb (hnb b hb)
    · rcases hb with hb | hb
      · exact g.gx b hb
      · rcases hg1 b hb with h1 | h1
        · exact g.gx b h1
        · exact .inr fun h2 => h1 (.inl (g.fF b h2))
    · obtain ⟨u, h1, h2⟩ := g'.tm k s hk
      exact ⟨u, h1, h2.mono hm .refl⟩
  · refine (key (fun b => G b ∨ Bl h.hp b) (fun b hb => hb.imp (g.gF b) id) a4).mono ?_
    rintro e w' ⟨v, h', s, G', rfl, hw', hkp, g', hg1, hg2, hd, hfl, hk⟩
    exact ⟨v, h', rfl, hw', s, G, hk, hd.flat (hfl ho), g', hkp⟩
theorem call_keep {f : FuncId} {xs : Array Operand} {ts : Array TypeId} {d : Option Tmp} (g : Gd c st tm h ρ G) (k : vcM P T nt ⟨d, .call ⟨.value (.func f), xs, ts⟩, ty, pos, af, gd⟩ st.tm st.ob K) : OpS P nt Q ⟨d, .call ⟨.value (.func f), xs, ts⟩, ty, pos, af, gd⟩ tm h (Kk h c K) := by
  simp only [vcM] at k
  cases ha : argsT st.ob st.tm xs.toList with
  | none => simp only [ha] at k; exact k.out Q c tm h ρ G g
  | some ss =>
    simp only [ha] at k
    have hxs : xs = xs.toList.toArray := by simp
    cases d with
    | some d =>
      simp only at k
      cases hd : Nat.blt d nt
      · rw [hd] at k; exact k.elim
      · rw [hd] at k
        simp only [cond_true] at k
        have key : ∀ (st' : St) (h' : Hs) (G' : Nat → Prop) (ss' : List SV) (own : Bool), Gd c st' tm h' ρ G' → argsT st'.ob st'.tm xs.toList = some ss' → ownA st'.tm xs.toList = own → needA st'.ob st'.tm (Cl P f ss' own fun s => K ((d, s) :: st'.tm) st'.ob) xs.toList → (∀ w, Hp h' w → Hp h w) →
            ∀ (a : Act) (w : World), Slt nt tm a → Hp h' w → Oper.wp P ⟨some d, .call ⟨.value (.func f), xs, ts⟩, ty, pos, af, gd⟩ a w (fun a w => ∃ tm' h', Slt nt tm' a ∧ Hp h' w ∧ Kk h c K tm' h') Q := by
          intro st' h' G' ss' own g' ha' ho' k' hkp' a w sl hw
          subst ho'
          obtain ⟨vs, a1, a2⟩ := call_out g' ha' k'
          obtain ⟨⟨fn, cd, f1, f2, f3⟩, -⟩ := a2 w hw
          rw [hxs]
          refine (OpS.call (P := P) (nt := nt) (Q := Q) (h := h') (fun v h2 => Kk h c K ((d, v) :: tm) h2) f1 f2 f3 a1 hd (fun w hw => (a2 w hw).2.mono ?_) fun _ _ hk => hk).out a w sl hw
          rintro e w' ⟨v, h2, rfl, hw2, s, G2, hk, hs, g2, hkp⟩
          exact ⟨v, h2, rfl, hw2, .of (fun w hw => hkp' w (hkp w hw)) (g2.put hs) hk⟩
        refine ⟨fun a w sl hw => ?_⟩
        cases ho : ownA st.tm xs.toList
        · simp only [ho] at k
          exact key st h G ss false g ha ho k (fun _ h => h) a w sl hw
        · simp only [ho] at k
          rcases k.out with k | k
          · exact key st h G ss true g ha ho k (fun _ h => h) a w sl hw
          · obtain ⟨st2, h2, G2, r1, r2, r3, r4⟩ := frAll_out g hw k
            split at r4
            · rename_i ss2 ha2
              split at r4
              · rename_i ho2
                exact key st2 h2 G2 ss2 false r1 ha2 ho2 r4 r3 a w sl r2
              · exact r4.elim
            · exact r4.elim
    | none =>
      simp only at k
      obtain ⟨vs, a1, a2⟩ := call_out g ha k
      refine ⟨fun a w sl hw => ?_⟩
      obtain ⟨⟨fn, cd, f1, f2, f3⟩, -⟩ := a2 w hw
      rw [hxs]
      refine (OpS.call0 (P := P) (nt := nt) (Q := Q) (h := h) (fun v h' => Kk h c K tm h') f1 f2 f3 a1 (fun w hw => (a2 w hw).2.mono ?_) fun _ _ hk => hk).out a w sl hw
      rintro e w' ⟨v, h', rfl, hw', s, G', hk, hs, g', hkp⟩
      exact ⟨v, h', rfl, hw', .of hkp g' hk⟩
end
end Go.Proofs.Ytgiebofmfkacgaa

/-
  The layer of trees: code; entering and leaving.
-/
namespace Go.Proofs.Ytgiebofmfkacgaa
open Go.RowKit

section
variable {P : Program} {T : List (Nat × Ty)} [hT : Tys P T] {nt : Nat} {Q : Exit → Act → World → Prop} {c : Cx} {st : St} {tm : List (Nat × Value)} {h : Hs} {ρ : Rho} {G : Nat → Prop} {ty : TypeId} {pos : String} {af : Array Edge} {gd : Option (Nat × Bool)} {K : Kt}
/-- Operations that leave all that was there. -/
def keepT : Op → Bool
  | .alloc _ | .box _ _ | .buildSlice _ _ _ => true
  | .call ⟨.value (.func _), _, _⟩ => true
  | _ => false
theorem vcM_keep {op : Op} {d : Option Tmp} (ho : keepT op = true) (g : Gd c st tm h ρ G) (k : vcM P T nt ⟨d, op, ty, pos, af, gd⟩ st.tm st.ob K) : OpS P nt Q ⟨d, op, ty, pos, af, gd⟩ tm h (Kk h c K) := by
  cases op with
  | alloc t => exact alloc_keep g k
  | box t x => exact box_keep (T := T) g k
  | buildSlice t n ps => exact buildSlice_keep g k
  | call cl =>
    obtain ⟨cal, xs, ts⟩ := cl
    cases cal with
    | builtin b => cases ho
    | value f =>
      cases f with
      | func f => exact call_keep (T := T) g k
      | _ => cases ho
    | invoke r m => cases ho
  | _ => cases ho
theorem vcM_sound {op : Op} {d : Option Tmp} (g : Gd c st tm h ρ G) (k : vcM P T nt ⟨d, op, ty, pos, af, gd⟩ st.tm st.ob K) : OpS P nt Q ⟨d, op, ty, pos, af, gd⟩ tm h (Kd c K) := by
  cases op with
  | alloc t => exact (alloc_keep g k).mono fun _ _ h => h.kd
  | box t x => exact (box_keep (T := T) g k).mono fun _ _ h => h.kd
  | store t x y => exact store_sound g k
  | buildSlice t n ps => exact (buildSlice_keep g k).mono fun _ _ h => h.kd
  | call cl =>
    obtain ⟨cal, xs, ts⟩ := cl
    cases cal with
    | builtin b =>
      cases b with
      | append => exact append_sound g k
      | _ => exact Raw.out k Q c tm h ρ G g
    | value f =>
      cases f with
      | func f => exact (call_keep (T := T) g k).mono fun _ _ h => h.kd
      | _ => exact Raw.out k Q c tm h ρ G g
    | invoke r m => exact Raw.out k Q c tm h ρ G g
  | _ => exact Raw.out k Q c tm h ρ G g
theorem vcOp_sound {o : Oper} (g : Gd c st tm h ρ G) (k : vcOp P T nt o st.tm st.ob K) : OpS P nt Q o tm h (Kd c K) := by
  obtain ⟨d, op, ty, pos, af, gd⟩ := o
  simp only [vcOp] at k
  cases hy : vcY P T op st.tm st.ob (fun s => putT nt d s st.tm st.ob K) with
  | none => simp only [hy] at k; exact vcM_sound g k
  | some p =>
    simp only [hy] at k
    obtain ⟨s, v, q1, q2, q3⟩ := vcY_sound g hy k (P := P) (nt := nt) (ty := ty) (pos := pos) (af := af) (gd := gd) (d := d)
    exact putT_sound g q1 q2 q3
theorem AWl.wk {ops : Array Oper} {l : List Oper} {h' : Hs} (hh : ∀ w, Hp h w → Hp h' w) (k : AWl P nt ops Q l tm h') : AWl P nt ops Q l tm h := ⟨fun a w ha hw => k.out a w ha (hh w hw)⟩
theorem AWl_of_Kd {ops : Array Oper} {l : List Oper} (hK : ∀ st tm h ρ G, Gd c st tm h ρ G → K st.tm st.ob → AWl P nt ops Q l tm h) : ∀ tm h, Kd c K tm h → AWl P nt ops Q l tm h :=
  fun _ _ ⟨_, _, _, _, hh, g, k⟩ => (hK _ _ _ _ _ g k).wk hh
theorem gdT_eq {ops : Array Oper} {j t : Nat} (h : gdT ops j = some t) : (ops[j]?).bind (·.dst) = some t := by
  unfold gdT at h
  rw [nth_eq] at h
  simp only [Array.getElem?_toList] at h
  cases ho : ops[j]? with
  | none => rw [ho] at h; cases h
  | some o => rw [ho] at h; simpa using h
theorem evT_undef (g : Gd c st tm h ρ G) {x : Operand} (hx : evT st.tm x = some (.t [])) : ev tm x = some undef := by
  obtain ⟨v, h1, h2⟩ := g.ev hx
  cases h2 with | @t _ vs hl _ =>
  have : vs = [] := List.eq_nil_of_length_eq_zero (by simpa using hl)
  subst this
  exact h1
omit hT in
theorem yielded_undef {ops : Array Oper} {j t : Nat} {a : Act} (ha : Slt nt tm a) (hj : (ops[j]?).bind (·.dst) = some t) (hb : lk t tm = some undef) : yielded ops a.tmps j = none := by
  simp [yielded, hj, ha.tm t _ hb, undef]
omit hT in
theorem AWl.stepU {ops : Array Oper} {d : Tmp} {op : Op} {rest : List Oper} {j t : Nat} {want : Bool} (hj : (ops[j]?).bind (·.dst) = some t) (hb : lk t tm = some undef) (hd : Nat.blt d nt = true) (k : AWl P nt ops Q rest ((d, undef) :: tm) h) : AWl P nt ops Q (⟨some d, op, ty, pos, af, some (j, want)⟩ :: rest) tm h :=
  ⟨fun a w ha hw' => wpList_step fun K hK => by
    have : ¬ Region.wanted ⟨some d, op, ty, pos, af, some (j, want)⟩ (yielded ops a.tmps) = true := by
      simp [Region.wanted, yielded_undef ha hj hb]
    rw [if_neg this]
    exact hK _ _ (k.out _ w (ha.put (by simpa using hd) _) hw')⟩
omit hT in
theorem AWl.stepU' {ops : Array Oper} {op : Op} {rest : List Oper} {j t : Nat} {want : Bool} (hj : (ops[j]?).bind (·.dst) = some t) (hb : lk t tm = some undef) (k : AWl P nt ops Q rest tm h) : AWl P nt ops Q (⟨none, op, ty, pos, af, some (j, want)⟩ :: rest) tm h :=
  ⟨fun a w ha hw' => wpList_step fun K hK => by
    have : ¬ Region.wanted ⟨none, op, ty, pos, af, some (j, want)⟩ (yielded ops a.tmps) = true := by
      simp [Region.wanted, yielded_undef ha hj hb]
    rw [if_neg this]
    exact hK _ _ (k.out _ w ha hw')⟩
theorem vcL_sound {ops : Array Oper} (hK : ∀ st tm h ρ G, Gd c st tm h ρ G → K st.tm st.ob → AWq nt Q .normal tm h) : ∀ (l : List Oper) (st : St) (tm : List (Nat × Value)) (h : Hs) (ρ : Rho) (G : Nat → Prop), Gd c st tm h ρ G → vcL P T nt ops K l st.tm st.ob → AWl P nt ops Q l tm h
  | [], st, tm, h, ρ, G, g, k => .nil (hK st tm h ρ G g k)
  | ⟨d, op, ty, pos, af, gu⟩ :: r, st, tm, h, ρ, G, g, k => by
    have ih := vcL_sound (ops := ops) hK r
    simp only [vcL] at k
    cases gu with
    | none => exact AWl.step ((vcOp_sound g k).mono (AWl_of_Kd ih))
    | some p =>
      obtain ⟨j, want⟩ := p
      simp only at k
      cases hj : gdT ops j with
      | none => simp only [hj] at k
      | some t =>
        simp only [hj] at k
        split at k
        · rename_i b hb
          have eb := evT_bool g (x := .tmp t) hb
          have ej := gdT_eq hj
          have hskip : skipT nt d st.tm st.ob (vcL P T nt ops K r) → b = !want → AWl P nt ops Q (⟨d, op, ty, pos, af, some (j, want)⟩ :: r) tm h := fun hs hw => by
            cases d with
            | none => exact AWl.stepF' ej eb hw (ih _ _ _ _ _ g hs)
            | some d =>
              simp only [skipT] at hs
              cases hd : Nat.blt d nt
              · rw [hd] at hs; exact hs.elim
              · rw [hd] at hs
                exact AWl.stepF ej eb hw hd (ih _ _ _ _ _ (g.put (.t (vs := []) rfl (by simp))) hs)
          cases want
          · simp only at k
            cases b
            · exact AWl.stepT ej eb rfl ((vcOp_sound g (k.f rfl)).mono (AWl_of_Kd ih))
            · exact hskip (k.t rfl) rfl
          · simp only at k
            cases b
            · exact hskip (k.f rfl) rfl
            · exact AWl.stepT ej eb rfl ((vcOp_sound g (k.t rfl)).mono (AWl_of_Kd ih))
        · rename_i hb
          have eb := evT_undef g (x := .tmp t) hb
          have ej := gdT_eq hj
          cases d with
          | none => exact AWl.stepU' ej eb (ih _ _ _ _ _ g k)
          | some d =>
            simp only [skipT] at k
            cases hd : Nat.blt d nt
            · rw [hd] at k; exact k.elim
            · rw [hd] at k
              exact AWl.stepU ej eb hd (ih _ _ _ _ _ (g.put (.t (vs := []) rfl (by simp))) k)
        · exact k.elim
end
end Go.Proofs.Ytgiebofmfkacgaa

/-
  The layer of trees: a state seen as another one; code; leaving a function.
-/
namespace Go.Proofs.Ytgiebofmfkacgaa
open Go.RowKit

/-- Where an own object of the new state comes from: an object of the old one; a nil slice (rows of this size). -/
inductive So where
  | k (k : Nat)
  | n (sz : Nat)
abbrev Src := List (Nat × So)
inductive LeN (src : Src) : List Nat → List Nat → Prop
  | nil : LeN src [] []
  | cons {k K : Nat} {r R : List Nat} : lk K src = some (.k k) → LeN src r R → LeN src (k :: r) (K :: R)
inductive LeD (src : Src) : D → D → Prop
  | u {x y : V} : x = y → LeD src (.u x) (.u y)
  | no {K sz n : Nat} : lk K src = some (.n sz) → n = 0 → LeD src (.u .nl) (.ow K n)
  | nl {sz : Nat} {rs : List (List V)} : rs = [] → LeD src (.u .nl) (.u (.sl sz rs))
  | ow {k K n m : Nat} : lk K src = some (.k k) → n = m → LeD src (.ow k n) (.ow K m)
  | p {k K o : Nat} : lk K src = some (.k k) → LeD src (.p k o) (.p K o)
  | e {k K i j o : Nat} : lk K src = some (.k k) → i = j → LeD src (.e k i o) (.e K j o)
  | q {cs ds : List V} {o : Nat} : cs = ds → LeD src (.q cs o) (.q ds o)
  | fn {f : FuncId} {ks Ks : List Nat} : LeN src ks Ks → LeD src (.fn f ks) (.fn f Ks)
  | mp {k K : Nat} : lk K src = some (.k k) → LeD src (.mp k) (.mp K)
inductive LeL (src : Src) : List D → List D → Prop
  | nil : LeL src [] []
  | cons {x y : D} {r s : List D} : LeD src x y → LeL src r s → LeL src (x :: r) (y :: s)
inductive LeS (src : Src) : SV → SV → Prop
  | d {x y : D} : LeD src x y → LeS src (.d x) (.d y)
  | a {xs ys : List D} : LeL src xs ys → LeS src (.a xs) (.a ys)
  | t {vs ws : List SC} : pureC vs = true → vs = ws → LeS src (.t vs) (.t ws)
inductive LeT (src : Src) (tm : List (Nat × SV)) : List (Nat × SV) → Prop
  | nil : LeT src tm []
  | cons {k : Nat} {s t : SV} {r : List (Nat × SV)} : lk k tm = some s → LeS src s t → LeT src tm r → LeT src tm ((k, t) :: r)
inductive LeO (src : Src) : List (Nat × Ob) → List (Nat × Ob) → Prop
  | nil {ob : List (Nat × Ob)} : LeO src ob []
  | bx {k K : Nat} {t : TypeId} {cs ds : List D} {ob r : List (Nat × Ob)} : lk K src = some (.k k) → lk k ob = some (.bx t cs) → LeL src cs ds → LeO src (obr k ob) r → LeO src ob ((K, .bx t ds) :: r)
  | ar {k K : Nat} {t : TypeId} {sz : Nat} {rs ss : List (List V)} {ob r : List (Nat × Ob)} : lk K src = some (.k k) → lk k ob = some (.ar t sz rs) → rs = ss → LeO src (obr k ob) r → LeO src ob ((K, .ar t sz ss) :: r)
  | no {K : Nat} {t : TypeId} {sz : Nat} {ss : List (List V)} {ob r : List (Nat × Ob)} : lk K src = some (.n sz) → ss = [] → LeO src ob r → LeO src ob ((K, .ar t sz ss) :: r)
structure LeSt (src : Src) (st S : St) : Prop where
  tm : LeT src st.tm S.tm
  ob : LeO src st.ob S.ob
section
variable {src : Src} {ρ : Rho} {z : Fz}
def srcR (src : Src) (ρ : Rho) : Rho := fun K => match lk K src with
  | some (.k k) => ρ k
  | some (.n sz) => some ⟨none, 0, sz⟩
  | none => none
theorem srcR_k {k K : Nat} (h : lk K src = some (.k k)) : srcR src ρ K = ρ k := by simp [srcR, h]
theorem srcR_n {sz K : Nat} (h : lk K src = some (.n sz)) : srcR src ρ K = some ⟨none, 0, sz⟩ := by simp [srcR, h]
theorem LeN.len {ks Ks : List Nat} (h : LeN src ks Ks) : ks.length = Ks.length := by
  induction h with
  | nil => rfl
  | cons _ _ ih => simp [ih]
theorem LeN.get {ks Ks : List Nat} (h : LeN src ks Ks) : ∀ (j : Nat) K, Ks[j]? = some K → ∃ k, ks[j]? = some k ∧ lk K src = some (.k k) := by
  induction h with
  | nil => intro j K h; simp at h
  | cons h0 _ ih =>
    intro j K hj
    cases j with
    | zero => simp at hj; subst hj; exact ⟨_, rfl, h0⟩
    | succ j => exact ih j K (by simpa using hj)
theorem LeD.den {d d' : D} {v : Value} (l : LeD src d d') (h : Den ρ z d v) : Den (srcR src ρ) z d' v := by
  cases l with
  | u e => subst e; cases h with | u h => exact .u h
  | no h0 e =>
    subst e
    cases h with | u h => cases h with | nl => exact .ow (l := ⟨none, 0, _⟩) (srcR_n h0) (fun _ => rfl) (Nat.le_refl _)
  | nl e =>
    subst e
    cases h with | u h => cases h with | nl => exact .u (.sl (b := 0) (o := 0) [] rfl (Nat.le_refl _) (Nat.zero_le _) (by simp) (fun h => absurd rfl h) (by simp) (fun j u h => by simp at h) rfl (fun j d u h => by simp at h))
  | ow h0 e => subst e; cases h with | ow h hA hc => exact .ow (by rw [srcR_k h0]; exact h) hA hc
  | p h0 => cases h with | p h => exact .p (by rw [srcR_k h0]; exact h)
  | e h0 e => subst e; cases h with | e h => exact .e (by rw [srcR_k h0]; exact h)
  | q e => subst e; cases h with | q hb hu hd => exact .q hb hu hd
  | fn hk =>
    cases h with | fn us hl hd =>
    refine .fn us (by rw [hl, hk.len]) fun j K u h1 h2 => ?_
    obtain ⟨k, h3, h4⟩ := hk.get j K h1
    obtain ⟨b, c, sz, h5, h6⟩ := hd j k u h3 h2
    exact ⟨b, c, sz, by rw [srcR_k h4]; exact h5, h6⟩
  | mp h0 => cases h with | mp h hA => exact .mp (by rw [srcR_k h0]; exact h) hA
theorem LeL.len {xs ys : List D} (l : LeL src xs ys) : xs.length = ys.length := by
  induction l with
  | nil => rfl
  | cons _ _ ih => simp [ih]
theorem LeL.get {xs ys : List D} (l : LeL src xs ys) : ∀ (j : Nat) y, ys[j]? = some y → ∃ x, xs[j]? = some x ∧ LeD src x y := by
  induction l with
  | nil => intro j K h; simp at h
  | cons h0 _ ih =>
    intro j K hj
    cases j with
    | zero => simp at hj; subst hj; exact ⟨_, rfl, h0⟩
    | succ j => exact ih j K (by simpa using hj)
theorem LeL.den {xs ys : List D} {us : List Value} (l : LeL src xs ys) (h : DenL ρ z xs us) : DenL (srcR src ρ) z ys us := ⟨by rw [h.len, l.len], h.one, fun j d u h1 h2 => by
  obtain ⟨x, h3, h4⟩ := l.get j d h1
  exact h4.den (h.den j x u h3 h2)⟩
theorem LeS.den {s s' : SV} {v : Value} (l : LeS src s s') (h : DenS ρ z s v) : DenS (srcR src ρ) z s' v := by
  cases l with
  | d l => cases h with | d h => exact .d (l.den h)
  | a l => cases h with | a h => exact .a (l.den h)
  | t hp e => subst e; exact h.pure hp
theorem LeT.den {tm tm' : List (Nat × SV)} (l : LeT src tm tm') : ∀ k s, lk k tm' = some s → ∃ s0, lk k tm = some s0 ∧ LeS src s0 s := by
  induction l with
  | nil => intro k s h; simp [lk] at h
  | @cons j s t r h0 h1 _ ih =>
    intro k u hk
    simp only [lk] at hk
    cases hb : Nat.beq k j
    · rw [hb] at hk; exact ih k u hk
    · rw [hb] at hk
      simp only [cond_true, Option.some.injEq] at hk
      subst hk
      rw [Nat.eq_of_beq_eq_true hb]
      exact ⟨s, h0, h1⟩
theorem LeO.den {ob S : List (Nat × Ob)} (l : LeO src ob S) : ∀ {hp : List (Nat × Hb)}, ObsOk ρ z ob hp → ∃ hp' rest, ObsOk (srcR src ρ) z S hp' ∧ hp.Perm (hp' ++ rest) := by
  induction l with
  | nil => intro hp h; exact ⟨[], hp, rfl, .refl _⟩
  | @bx k K t cs ds ob r h0 h1 h2 _ ih =>
    intro hp h
    obtain ⟨X, f, ⟨b, us, rfl, g2, g3⟩, g4, _, g6⟩ := h.set h1
    obtain ⟨hp', rest, i1, i2⟩ := ih g6
    refine ⟨[(b, ⟨t, us, cs.length⟩)] ++ hp', rest, ⟨_, hp', rfl, ⟨b, us, by rw [h2.len], by rw [srcR_k h0, ← h2.len]; exact g2, h2.den g3⟩, i1⟩, ?_⟩
    have := g4.perm [(b, ⟨t, us, cs.length⟩)]
    rw [g4.eq] at this
    rw [List.append_assoc]
    exact this.trans (i2.append_left _)
  | @ar k K t sz rs ss ob r h0 h1 h2 _ ih =>
    intro hp h
    subst h2
    obtain ⟨X, f, ⟨A, c, us, rfl, g2, g3⟩, g4, _, g6⟩ := h.set h1
    obtain ⟨hp', rest, i1, i2⟩ := ih g6
    refine ⟨hbA A t us c sz ++ hp', rest, ⟨_, hp', rfl, ⟨A, c, us, rfl, by rw [srcR_k h0]; exact g2, g3⟩, i1⟩, ?_⟩
    have := g4.perm (hbA A t us c sz)
    rw [g4.eq] at this
    rw [List.append_assoc]
    exact this.trans (i2.append_left _)
  | @no K t sz ss ob r h0 h1 _ ih =>
    intro hp h
    subst h1
    obtain ⟨hp', rest, i1, i2⟩ := ih h
    exact ⟨hp', rest, ⟨[], hp', rfl, ⟨none, 0, [], rfl, srcR_n h0, OkA.nil sz, .nil, by simp⟩, i1⟩, i2⟩
theorem Gd.le {c : Cx} {st S : St} {tm : List (Nat × Value)} {h : Hs} {G : Nat → Prop} (g : Gd c st tm h ρ G) (l : LeSt src st S) : ∃ h', (∀ w, Hp h w → Hp h' w) ∧ Gd c S tm h' (srcR src ρ) G := by
  obtain ⟨F, w0, hp⟩ := h
  obtain ⟨hp', rest, i1, i2⟩ := l.ob.den g.ob
  refine ⟨⟨F, w0, hp'⟩, fun w hw => (hw.perm i2).sub (List.sublist_append_left _ _), g.fF, g.fw, g.gF, g.gx, fun k s hk => ?_, i1⟩
  obtain ⟨s0, h1, h2⟩ := l.tm.den k s hk
  obtain ⟨v, h3, h4⟩ := g.tm k s0 h1
  exact ⟨v, h3, h2.den h4⟩
end
/-- A region that draws its order. -/
structure Drw (P : Program) (nt : Nat) (i : Nat) (ops : Array Oper) (K : Kt) (tmT : List (Nat × SV)) (ob : List (Nat × Ob)) : Prop where
  out : ∀ (c : Cx) (tm : List (Nat × Value)) (h : Hs) (ρ : Rho) (G : Nat → Prop), Gd c ⟨tmT, ob⟩ tm h ρ G → ∀ (Q : Exit → Act → World → Prop) [PanicOk Q], (∀ st tm h ρ G, Gd c st tm h ρ G → K st.tm st.ob → AWq nt Q .normal tm h) → AWc P nt Q (.region i ops true) tm h
/-- A loop. -/
structure Lp (body : Kt → Kt) (tm : List (Nat × SV)) (ob : List (Nat × Ob)) : Prop where
  out : ∃ (ι : Type) (Φ : ι → Prop) (m : ι → Nat) (S : ι → St) (x0 : ι), Φ x0 ∧ (∃ src, LeSt src ⟨tm, ob⟩ (S x0)) ∧ ∀ x, Φ x → body (fun tm ob => ∃ y, Φ y ∧ m y < m x ∧ ∃ src, LeSt src ⟨tm, ob⟩ (S y)) (S x).tm (S x).ob
/-- A nil slice is a slice without elements. -/
inductive NlV : V → V → Prop
  | refl {x : V} : NlV x x
  | nl {sz : Nat} {rs : List (List V)} : rs = [] → NlV .nl (.sl sz rs)
inductive NlD : D → D → Prop
  | refl {x : D} : NlD x x
  | u {x y : V} : NlV x y → NlD (.u x) (.u y)
inductive NlL : List D → List D → Prop
  | nil : NlL [] []
  | cons {x y : D} {r s : List D} : NlD x y → NlL r s → NlL (x :: r) (y :: s)
inductive NlC : SC → SC → Prop
  | d {x y : D} : NlD x y → NlC (.d x) (.d y)
  | a {xs ys : List D} : NlL xs ys → NlC (.a xs) (.a ys)
inductive NlCs : List SC → List SC → Prop
  | nil : NlCs [] []
  | cons {x y : SC} {r s : List SC} : NlC x y → NlCs r s → NlCs (x :: r) (y :: s)
inductive NlS : SV → SV → Prop
  | refl {s : SV} : NlS s s
  | d {x y : D} : NlD x y → NlS (.d x) (.d y)
  | a {xs ys : List D} : NlL xs ys → NlS (.a xs) (.a ys)
  | t {xs ys : List SC} : NlCs xs ys → NlS (.t xs) (.t ys)
inductive NlSs : List SV → List SV → Prop
  | nil : NlSs [] []
  | cons {x y : SV} {r s : List SV} : NlS x y → NlSs r s → NlSs (x :: r) (y :: s)
section
variable {ρ : Rho} {z : Fz}
theorem NlV.den {x y : V} {v : Value} (l : NlV x y) (h : DenV z x v) : DenV z y v := by
  cases l with
  | refl => exact h
  | nl e =>
    subst e
    cases h with | nl => exact .sl (b := 0) (o := 0) [] rfl (Nat.le_refl _) (Nat.zero_le _) (by simp) (fun h => absurd rfl h) (by simp) (fun j u h => by simp at h) rfl (fun j d u h => by simp at h)
theorem NlD.den {x y : D} {v : Value} (l : NlD x y) (h : Den ρ z x v) : Den ρ z y v := by
  cases l with
  | refl => exact h
  | u l => cases h with | u h => exact .u (l.den h)
theorem NlL.den {xs ys : List D} (l : NlL xs ys) : ∀ {us : List Value}, DenL ρ z xs us → DenL ρ z ys us := by
  induction l with
  | nil => intro us h; exact h
  | cons l0 _ ih =>
    intro us h
    have hl := h.len
    cases us with
    | nil => simp at hl
    | cons u us => exact (ih ⟨by simpa using hl, by have := h.one; simp at this; simpa using this.2, fun j d v e1 e2 => h.den (j + 1) d v (by simpa using e1) (by simpa using e2)⟩).cons (l0.den (h.den 0 _ u rfl rfl))
theorem NlC.den {x y : SC} {v : Value} (l : NlC x y) (h : DenC ρ z x v) : DenC ρ z y v := by
  cases l with
  | d l => cases h with | d h => exact .d (l.den h)
  | a l => cases h with | a h => exact .a (l.den h)
theorem NlCs.get {xs ys : List SC} (l : NlCs xs ys) : xs.length = ys.length ∧ ∀ (j : Nat) y, ys[j]? = some y → ∃ x, xs[j]? = some x ∧ NlC x y := by
  induction l with
  | nil => exact ⟨rfl, fun j y h => by simp at h⟩
  | cons l0 _ ih =>
    refine ⟨by simp [ih.1], fun j y h => ?_⟩
    cases j with
    | zero => simp at h; subst h; exact ⟨_, rfl, l0⟩
    | succ j => exact ih.2 j y (by simpa using h)
theorem NlS.den {x y : SV} {v : Value} (l : NlS x y) (h : DenS ρ z x v) : DenS ρ z y v := by
  cases l with
  | refl => exact h
  | d l => cases h with | d h => exact .d (l.den h)
  | a l => cases h with | a h => exact .a (l.den h)
  | t l =>
    cases h with | t hl hd =>
    refine .t (by rw [hl, l.get.1]) fun j s v h1 h2 => ?_
    obtain ⟨x, h3, h4⟩ := l.get.2 j s h1
    exact h4.den (hd j x v h3 h2)
theorem NlSs.get {xs ys : List SV} (l : NlSs xs ys) : xs.length = ys.length ∧ ∀ (j : Nat) y, ys[j]? = some y → ∃ x, xs[j]? = some x ∧ NlS x y := by
  induction l with
  | nil => exact ⟨rfl, fun j y h => by simp at h⟩
  | cons l0 _ ih =>
    refine ⟨by simp [ih.1], fun j y h => ?_⟩
    cases j with
    | zero => simp at h; subst h; exact ⟨_, rfl, l0⟩
    | succ j => exact ih.2 j y (by simpa using h)
end
/-- Leaving. -/
structure Ret (Q : SV → List (Nat × Ob) → Prop) (s : SV) : Prop where
  out : ∃ s', NlS s s' ∧ Q s' []
section
variable (P : Program) (T : List (Nat × Ty)) (nt : Nat)
/-- Code: Kn: behind it; Ke: at an exit; Kr: at a return. -/
def vcC (Kr : Kt) : Code → Kt → (Nat → Kt) → Kt
  | .skip, Kn, _, tm, ob => Kn tm ob
  | .label _, Kn, _, tm, ob => Kn tm ob
  | .region i ops draw, Kn, _, tm, ob => match draw with
    | true => Drw P nt i ops Kn tm ob
    | false => vcL P T nt ops Kn ops.toList tm ob
  | .seq a b, Kn, Ke, tm, ob => vcC Kr a (vcC Kr b Kn Ke) Ke tm ob
  | .cond c x y, Kn, Ke, tm, ob => match evT tm c with
    | some (.d (.u (.bool b))) => Brn b (vcC Kr x Kn Ke tm ob) (vcC Kr y Kn Ke tm ob)
    | _ => False
  | .block i c, Kn, Ke, tm, ob => vcC Kr c Kn (fun j tm ob => bif Nat.beq j i then Kn tm ob else Ke j tm ob) tm ob
  | .loop c, _, Ke, tm, ob => Lp (fun Kn => vcC Kr c Kn Ke) tm ob
  | .exit i, _, Ke, tm, ob => Ke i tm ob
  | .ret, _, _, tm, ob => Kr tm ob
  | _, _, _, _, _ => False
/-- The values of results. -/
def resT (tm : List (Nat × SV)) (ob : List (Nat × Ob)) : ResultVar → Option SV
  | .tmp t => lk t tm
  | .cell c t => yT T tm ob (.load t (.tmp c))
def resLT (tm : List (Nat × SV)) (ob : List (Nat × Ob)) : List ResultVar → Option (List SV)
  | [] => some []
  | r :: l => match resT T tm ob r with
    | none => none
    | some s => match resLT tm ob l with
      | none => none
      | some vs => some (s :: vs)
def frzL (ob : List (Nat × Ob)) : List SV → Option (List SC)
  | [] => some []
  | s :: r => match borS ob s with
    | some (.d x) => match frzL ob r with
      | some l => some (.d x :: l)
      | none => none
    | some (.a xs) => match frzL ob r with
      | some l => some (.a xs :: l)
      | none => none
    | _ => none
def needR (ob : List (Nat × Ob)) (X : Prop) : List SV → Prop
  | [] => X
  | s :: r => needS ob (needR ob X r) s
def tupT : List SC → SV
  | [x] => x.up
  | l => .t l
def RetK (rs : List ResultVar) (Q : SV → List (Nat × Ob) → Prop) : Kt := fun tm ob => match resLT T tm ob rs with
  | none => False
  | some ss => match frzL ob ss with
    | none => False
    | some l => needR ob (Ret Q (tupT l)) ss
end
end Go.Proofs.Ytgiebofmfkacgaa

/-
  The layer of trees: code is sound; a contract by its code.
-/
namespace Go.Proofs.Ytgiebofmfkacgaa
open Go.RowKit

section
variable {P : Program} {T : List (Nat × Ty)} [hT : Tys P T] {nt : Nat} {c : Cx} {st : St} {tm : List (Nat × Value)} {h : Hs} {ρ : Rho} {G : Nat → Prop}
theorem subT_refl (tm : List (Nat × Value)) : ∃ tm', SubT tm tm' ∧ ∀ k v, lk k tm = some v → lk k tm' = some v := by
  suffices ∀ l : List (Nat × Value), ∃ l', SubT tm l' ∧ ∀ k v, lk k l = some v → lk k tm = some v → lk k l' = some v by
    obtain ⟨l', h1, h2⟩ := this tm
    exact ⟨l', h1, fun k v h => h2 k v h h⟩
  intro l
  induction l with
  | nil => exact ⟨[], .nil, fun k v h => by simp [lk] at h⟩
  | cons p r ih =>
    obtain ⟨l', h1, h2⟩ := ih
    obtain ⟨j, u⟩ := p
    cases hj : lk j tm with
    | none =>
      refine ⟨l', h1, fun k v hk hk' => ?_⟩
      simp only [lk] at hk
      cases hb : Nat.beq k j
      · rw [hb] at hk; exact h2 k v hk hk'
      · rw [Nat.eq_of_beq_eq_true hb, hj] at hk'; cases hk'
    | some v0 =>
      refine ⟨(j, v0) :: l', .cons hj h1, fun k v hk hk' => ?_⟩
      simp only [lk] at hk ⊢
      cases hb : Nat.beq k j
      · rw [hb] at hk; exact h2 k v hk hk'
      · rw [Nat.eq_of_beq_eq_true hb, hj] at hk'
        simpa using hk'
theorem AWc.wk {Q : Exit → Act → World → Prop} {cd : Code} {h' : Hs} (hh : ∀ w, Hp h w → Hp h' w) (k : AWc P nt Q cd tm h') : AWc P nt Q cd tm h := ⟨fun a w ha hw => k.out a w ha (hh w hw)⟩
theorem AWq.wk {Q : Exit → Act → World → Prop} {e : Exit} {h' : Hs} (hh : ∀ w, Hp h w → Hp h' w) (k : AWq nt Q e tm h') : AWq nt Q e tm h := ⟨fun a w ha hw => k.out a w ha (hh w hw)⟩
theorem vcC_sound {Kr : Kt} : ∀ (cd : Code) (Kn : Kt) (Ke : Nat → Kt) (st : St) (tm : List (Nat × Value)) (h : Hs) (ρ : Rho) (G : Nat → Prop) (Q : Exit → Act → World → Prop) [PanicOk Q],
    (∀ st tm h ρ G, Gd c st tm h ρ G → Kn st.tm st.ob → AWq nt Q .normal tm h) → (∀ i st tm h ρ G, Gd c st tm h ρ G → Ke i st.tm st.ob → AWq nt Q (.exit i) tm h) → (∀ st tm h ρ G, Gd c st tm h ρ G → Kr st.tm st.ob → AWq nt Q .ret tm h) →
    Gd c st tm h ρ G → vcC P T nt Kr cd Kn Ke st.tm st.ob → AWc P nt Q cd tm h
  | .skip, Kn, Ke, st, tm, h, ρ, G, Q, _, hn, he, hr, g, k => .skip (hn _ _ _ _ _ g k)
  | .label _, Kn, Ke, st, tm, h, ρ, G, Q, _, hn, he, hr, g, k => .label (hn _ _ _ _ _ g k)
  | .region i ops draw, Kn, Ke, st, tm, h, ρ, G, Q, _, hn, he, hr, g, k => by
    cases draw with
    | true => exact k.out c tm h ρ G g Q hn
    | false =>
      have := AWc.region (P := P) (nt := nt) (Q := Q) (i := i) (l := ops.toList) (tm := tm) (h := h) (by simpa using vcL_sound hn ops.toList st tm h ρ G g k)
      simpa using this
  | .seq a b, Kn, Ke, st, tm, h, ρ, G, Q, _, hn, he, hr, g, k => by
    refine AWc.seq (vcC_sound a _ Ke st tm h ρ G _ (fun st tm h ρ G g k => ?_) (fun i st tm h ρ G g k => AWq.pass_exit (he i st tm h ρ G g k)) (fun st tm h ρ G g k => AWq.pass_ret (hr st tm h ρ G g k)) g k)
    exact AWq.then_ (vcC_sound b Kn Ke st tm h ρ G Q hn he hr g k)
  | .cond cn x y, Kn, Ke, st, tm, h, ρ, G, Q, _, hn, he, hr, g, k => by
    simp only [vcC] at k
    split at k
    · rename_i b hc
      exact AWc.cond (evT_bool g hc) (fun e => vcC_sound x Kn Ke st tm h ρ G Q hn he hr g (k.t e)) (fun e => vcC_sound y Kn Ke st tm h ρ G Q hn he hr g (k.f e))
    · exact k.elim
  | .block i cd, Kn, Ke, st, tm, h, ρ, G, Q, _, hn, he, hr, g, k => by
    refine AWc.block (vcC_sound cd Kn _ st tm h ρ G _ (fun st tm h ρ G g k => AWq.blk (hn st tm h ρ G g k)) (fun j st2 tm2 h2 ρ2 G2 g2 k2 => ?_) (fun st tm h ρ G g k => AWq.blk_ret (hr st tm h ρ G g k)) g k)
    cases hb : Nat.beq j i
    · simp only [hb, cond_false] at k2
      exact AWq.blk_miss hb (he j st2 tm2 h2 ρ2 G2 g2 k2)
    · simp only [hb, cond_true] at k2
      have := Nat.eq_of_beq_eq_true hb
      subst this
      exact AWq.blk_hit (hn st2 tm2 h2 ρ2 G2 g2 k2)
  | .loop cd, Kn, Ke, st, tm, h, ρ, G, Q, _, hn, he, hr, g, k => by
    obtain ⟨ι, Φ, m, S, x0, h0, ⟨src, hs⟩, hk⟩ := k.out
    obtain ⟨h', hh, g'⟩ := g.le hs
    obtain ⟨tm', s1, s2⟩ := subT_refl tm
    have gw : ∀ {S : St} {tm h ρ} {tm' : List (Nat × Value)}, (∀ k v, lk k tm = some v → lk k tm' = some v) → Gd c S tm h ρ G → Gd c S tm' h ρ G := fun hl g => ⟨g.fF, g.fw, g.gF, g.gx, fun k s hk => by
      obtain ⟨v, h1, h2⟩ := g.tm k s hk
      exact ⟨v, hl k v h1, h2⟩, g.ob⟩
    refine AWc.loopS (Q := Q) (ι := ι × List (Nat × Value) × Hs × Rho × (Nat → Prop)) (fun x => Φ x.1 ∧ Gd c (S x.1) x.2.1 x.2.2.1 x.2.2.2.1 x.2.2.2.2) (fun x => m x.1) (fun x => x.2.1) (fun x => x.2.2.1) (x0, tm', h', srcR src ρ, G) ⟨h0, gw s2 g'⟩ s1 hh fun x hx => ?_
    obtain ⟨x, tmx, hx', ρx, Gx⟩ := x
    refine vcC_sound cd _ Ke (S x) tmx hx' ρx Gx _ (fun st tm h ρ G g k => ?_) (fun i st tm h ρ G g k => AWq.pass_exit (he i st tm h ρ G g k)) (fun st tm h ρ G g k => AWq.pass_ret (hr st tm h ρ G g k)) hx.2 (hk x hx.1)
    obtain ⟨y, hy, hm, src', hs'⟩ := k
    obtain ⟨h2, hh2, g2⟩ := g.le hs'
    obtain ⟨tm2, t1, t2⟩ := subT_refl tm
    refine AWq.round (y, tm2, h2, srcR src' ρ, G) ⟨hy, ⟨g2.fF, g2.fw, g2.gF, g2.gx, fun k s hk => ?_, g2.ob⟩⟩ hm t1 hh2
    obtain ⟨v, q1, q2⟩ := g2.tm k s hk
    exact ⟨v, t2 k v q1, q2⟩
  | .exit i, Kn, Ke, st, tm, h, ρ, G, Q, _, hn, he, hr, g, k => .exit (he i _ _ _ _ _ g k)
  | .ret, Kn, Ke, st, tm, h, ρ, G, Q, _, hn, he, hr, g, k => .ret (hr _ _ _ _ _ g k)
  | .rangeFunc .., Kn, Ke, st, tm, h, ρ, G, Q, _, hn, he, hr, g, k => False.elim k
  | .scope _, Kn, Ke, st, tm, h, ρ, G, Q, _, hn, he, hr, g, k => False.elim k
  | .goto _, Kn, Ke, st, tm, h, ρ, G, Q, _, hn, he, hr, g, k => False.elim k
  | .refuse _, Kn, Ke, st, tm, h, ρ, G, Q, _, hn, he, hr, g, k => False.elim k

theorem resT_ok (g : Gd c st tm h ρ G) {r : ResultVar} {s : SV} (hr : resT T st.tm st.ob r = some s) : ∃ v, Res P nt tm h r v ∧ DenS ρ ⟨G, h.w0⟩ s v := by
  cases r with
  | tmp t =>
    obtain ⟨v, h1, h2⟩ := g.tm t s hr
    exact ⟨v, .tmp h1, h2⟩
  | cell cc t =>
    simp only [resT, yT, evT] at hr
    cases hx : lk cc st.tm with
    | none => simp [hx] at hr
    | some q =>
      simp only [hx] at hr
      cases hc : cellsT st.ob q with
      | none => simp [hc] at hr
      | some p =>
        obtain ⟨cs, o⟩ := p
        simp only [hc] at hr
        obtain ⟨v, hv, hq⟩ := g.tm cc q hx
        obtain ⟨b, o', us, rfl, hd, hcell⟩ := g.cells hq hc
        cases ht : lk t T with
        | none => simp [ht] at hr
        | some i =>
          simp only [ht] at hr
          cases hk : i.k.agg
          · simp only [hk] at hr
            cases hn : nth cs o with
            | none => simp [hn] at hr
            | some e =>
              simp only [hn, Option.some.injEq] at hr
              subst hr
              rw [nth_eq] at hn
              obtain ⟨u, hu, hdu⟩ := hd.get hn
              exact ⟨u, Res.cell1 hv ht hk ⟨fun w hw => hcell w hw o u hu⟩, .d hdu⟩
          · simp only [hk] at hr
            cases hl : cutT cs o i.size with
            | none => simp [hl] at hr
            | some l =>
              simp only [hl, Option.some.injEq] at hr
              subst hr
              obtain ⟨h1, h2⟩ := cutT_get hl
              obtain ⟨vs, q1, q2⟩ := hd.part (o := o) h2
              refine ⟨_, Res.cell (vs := vs) hv ht hk ⟨fun w hw j u hu => ?_⟩ (by rw [q1.len, h1]), .a q1⟩
              rw [Nat.add_assoc]
              exact hcell w hw (o + j) u (q2 j u hu)
theorem resLT_ok (g : Gd c st tm h ρ G) : ∀ {rs : List ResultVar} {ss : List SV}, resLT T st.tm st.ob rs = some ss → ∃ vs, vs.length = ss.length ∧ (∀ (j : Nat) s v, ss[j]? = some s → vs[j]? = some v → DenS ρ ⟨G, h.w0⟩ s v) ∧ ∀ (a : Act) w, Slt nt tm a → Hp h w → (rs.mapM (resRun a.tmps)).run P w = .ok vs w
  | [], ss, hr => by simp [resLT] at hr; subst hr; exact ⟨[], rfl, by simp, fun a w _ _ => by simp⟩
  | r :: l, ss, hr => by
    simp only [resLT] at hr
    cases h1 : resT T st.tm st.ob r with
    | none => simp [h1] at hr
    | some s =>
      cases h2 : resLT T st.tm st.ob l with
      | none => simp [h1, h2] at hr
      | some ss' =>
        simp only [h1, h2, Option.some.injEq] at hr
        subst hr
        obtain ⟨v, q1, q2⟩ := resT_ok g h1 (P := P) (nt := nt)
        obtain ⟨vs, r1, r2, r3⟩ := resLT_ok g h2
        refine ⟨v :: vs, by simp [r1], fun j s0 v0 e1 e2 => ?_, fun a w ha hw => ?_⟩
        · cases j with
          | zero => simp at e1 e2; subst e1 e2; exact q2
          | succ j => exact r2 j s0 v0 (by simpa using e1) (by simpa using e2)
        · rw [List.mapM_cons]
          simp only [Sem.run_bind, q1.out a w ha hw, Result.andThen_ok, r3 a w ha hw, Sem.run_pure]
omit hT in
theorem frzL_den (g : Gd c st tm h ρ G) {w : World} (hw : Hp h w) {X : Prop} : ∀ {ss : List SV} {l : List SC} {vs : List Value}, frzL st.ob ss = some l → vs.length = ss.length → (∀ (j : Nat) s v, ss[j]? = some s → vs[j]? = some v → DenS ρ ⟨G, h.w0⟩ s v) → needR st.ob X ss →
    X ∧ vs.length = l.length ∧ ∀ (j : Nat) s v, l[j]? = some s → vs[j]? = some v → DenC ρ ⟨fun b => G b ∨ Bl h.hp b, w⟩ s v
  | [], l, vs, hf, hl, hd, hn => by
    simp [frzL] at hf
    subst hf
    exact ⟨hn, by simpa using hl, by simp⟩
  | s :: r, l, vs, hf, hl, hd, hn => by
    cases vs with
    | nil => simp at hl
    | cons v vs =>
      simp only [needR] at hn
      have hd' : ∀ (j : Nat) s v, r[j]? = some s → vs[j]? = some v → DenS ρ ⟨G, h.w0⟩ s v := fun j s0 v0 e1 e2 => hd (j + 1) s0 v0 (by simpa using e1) (by simpa using e2)
      simp only [frzL] at hf
      split at hf
      · rename_i x hb
        split at hf
        · rename_i l' hl'
          injection hf with hf; subst hf
          obtain ⟨q1, q2, _⟩ := borS_den (ρ' := ρ) g hw hb hn (hd 0 s v rfl rfl)
          obtain ⟨r1, r2, r3⟩ := frzL_den g hw hl' (by simpa using hl) hd' q2
          refine ⟨r1, by simp [r2], fun j s0 v0 e1 e2 => ?_⟩
          cases j with
          | zero => simp at e1 e2; subst e1 e2; cases q1 with | d q1 => exact .d q1
          | succ j => exact r3 j s0 v0 (by simpa using e1) (by simpa using e2)
        · cases hf
      · rename_i x hb
        split at hf
        · rename_i l' hl'
          injection hf with hf; subst hf
          obtain ⟨q1, q2, _⟩ := borS_den (ρ' := ρ) g hw hb hn (hd 0 s v rfl rfl)
          obtain ⟨r1, r2, r3⟩ := frzL_den g hw hl' (by simpa using hl) hd' q2
          refine ⟨r1, by simp [r2], fun j s0 v0 e1 e2 => ?_⟩
          cases j with
          | zero => simp at e1 e2; subst e1 e2; cases q1 with | a q1 => exact .a q1
          | succ j => exact r3 j s0 v0 (by simpa using e1) (by simpa using e2)
        · cases hf
      · cases hf
def tupV : List Value → Value
  | [v] => v
  | vs => .tuple vs.toArray
theorem slT_lk {s : SV} : ∀ {ss : List SV} {n k : Nat}, n ≤ k → ss[k - n]? = some s → lk k (slT n ss) = some s
  | [], n, k, _, h => by simp at h
  | x :: r, n, k, hk, h => by
    simp only [slT, lk]
    cases hb : Nat.beq k n
    · have hne : k ≠ n := fun e => by rw [e, Nat.beq_refl] at hb; cases hb
      exact slT_lk (by omega) (by rw [show k - n = (k - (n + 1)) + 1 by omega] at h; simpa using h)
    · have := Nat.eq_of_beq_eq_true hb
      subst this
      simpa using h
/-- What is asked of an answer. -/
def Ans (c : Cx) (Q : SV → List (Nat × Ob) → Prop) (e : Ending) (w' : World) : Prop := ∃ v h' s ob' ρ' G', e = .returned v ∧ Hp h' w' ∧ Gd c ⟨[(0, s)], ob'⟩ [(0, v)] h' ρ' G' ∧ Q s ob'
theorem RetK_ok {Q : SV → List (Nat × Ob) → Prop} (g : Gd c st tm h ρ G) {fn : Func} (k : RetK T fn.results.toList Q st.tm st.ob) : ∀ (a : Act) w, Slt nt tm a → Hp h w → a.defers = [] ∧ ∃ v, (results fn a.tmps).run P w = .ok v w ∧ Ans c Q (.returned v) w := by
  intro a w ha hw
  refine ⟨ha.df, ?_⟩
  simp only [RetK] at k
  cases hr : resLT T st.tm st.ob fn.results.toList with
  | none => simp only [hr] at k
  | some ss =>
    simp only [hr] at k
    cases hf : frzL st.ob ss with
    | none => simp only [hf] at k
    | some l =>
      simp only [hf] at k
      obtain ⟨vs, r1, r2, r3⟩ := resLT_ok g hr (P := P) (nt := nt)
      obtain ⟨hX, f1, f2⟩ := frzL_den g hw hf r1 r2 k
      have hm := r3 a w ha hw
      have h2 : (fn.results.mapM (resRun a.tmps)).run P w = .ok vs.toArray w := by
        rw [Array.mapM_eq_mapM_toList]
        simp only [map_eq_pure_bind, Sem.run_bind, hm, Result.andThen_ok, Sem.run_pure]
      have h3 : (results fn a.tmps).run P w = .ok (tupV vs) w := by
        rw [results_eq]
        simp only [Sem.run_bind, h2, Result.andThen_ok, Sem.run_pure]
        rcases vs with _ | ⟨v, _ | ⟨u, l⟩⟩ <;> simp [tupV]
      have hden : DenS ρ ⟨fun b => G b ∨ Bl h.hp b, w⟩ (tupT l) (tupV vs) := by
        rcases vs with _ | ⟨v, _ | ⟨u, vs⟩⟩
        · have : l = [] := List.eq_nil_of_length_eq_zero (by simpa using f1.symm)
          subst this
          exact .t rfl f2
        · match l, f1 with
          | [x], _ => exact (f2 0 x v rfl rfl).up
        · match l, f1 with
          | x :: y :: l', f1 => exact .t f1 f2
      obtain ⟨s', hnl, hq⟩ := hX.out
      refine ⟨_, h3, _, ⟨fun b => h.F b ∨ Bl h.hp b, w, []⟩, s', [], ρ, fun b => G b ∨ Bl h.hp b, rfl, ⟨Same.refl _ _, fun b hb => ?_, fun _ _ h => (by cases h), by simp, fun _ _ h => (by cases h)⟩, ⟨fun b hb => .inl (g.fF b hb), g.fw.trans (hw.same.mono g.fF), fun b hb => hb.imp (g.gF b) id, fun b hb => ?_, fun k s hk => ?_, rfl⟩, hq⟩
      · rcases hb with hb | ⟨x, hx⟩
        · exact hw.Flt hb
        · exact (hw.blk b x hx).lt
      · rcases hb with hb | ⟨x, hx⟩
        · exact g.gx b hb
        · exact .inr fun h0 => hw.out b x hx (g.fF b h0)
      · simp only [lk] at hk ⊢
        cases hb : Nat.beq k 0
        · rw [hb] at hk; cases hk
        · rw [hb] at hk
          simp only [cond_true, Option.some.injEq] at hk
          subst hk
          exact ⟨_, rfl, hnl.den hden⟩
/-- A contract: the function's code is reckoned. -/
theorem callsA_of_vc {f : FuncId} {fn : Func} {cd : Code} {ss : List SV} {ob : List (Nat × Ob)} {Q : SV → List (Nat × Ob) → Prop} {rs : List ResultVar} (hf : P.funcs[f]? = some fn) (hb : fn.body = some cd) (hnm : (fn.name == "runtime.NumGoroutine") = false) (hn : fn.ntmps = nt) (hrs : fn.results.toList = rs) (hv : Nat.ble ss.length nt = true)
    (k : vcC P T nt (RetK T rs Q) cd (RetK T rs Q) (fun _ _ _ => False) (slT 0 ss) ob) : CallsA P f ss ob Q := by
  subst hrs
  refine ⟨⟨fn, cd, hf, hb, hnm⟩, fun c ρ hp vs w hw hl g => ?_⟩
  refine calls_of_AW hf hb hn (by rw [hl]; exact hv) hw ?_
  refine vcC_sound (c := c) cd _ _ _ _ _ ρ c.G (bodyPost P fn (Ans c Q)) (fun st tm h ρ G g k => ⟨RetK_ok g k⟩) (fun _ _ _ _ _ _ _ k => k.elim) (fun st tm h ρ G g k => ⟨RetK_ok g k⟩) g k
theorem CallsA.mono {f : FuncId} {ss : List SV} {ob : List (Nat × Ob)} {Q Q' : SV → List (Nat × Ob) → Prop} (k : CallsA P f ss ob Q) (hq : ∀ s ob, Q s ob → Q' s ob) : CallsA P f ss ob Q' :=
  ⟨k.fn, fun c ρ hp vs w hw hl g => (k.out c ρ hp vs w hw hl g).mono fun _ _ ⟨v, h', s, ob', ρ', G', h1, h2, h3, h4⟩ => ⟨v, h', s, ob', ρ', G', h1, h2, h3, hq s ob' h4⟩⟩
/-- Arguments that are nil. -/
theorem CallsA.nl {f : FuncId} {ss ss' : List SV} {ob : List (Nat × Ob)} {Q : SV → List (Nat × Ob) → Prop} (l : NlSs ss ss') (k : CallsA P f ss' ob Q) : CallsA P f ss ob Q :=
  ⟨k.fn, fun c ρ hp vs w hw hl g => k.out c ρ hp vs w hw (by rw [hl, l.get.1]) ⟨g.fF, g.fw, g.gF, g.gx, fun j s hj => by
    obtain ⟨h1, h2⟩ := lk_slT hj
    obtain ⟨x, h3, h4⟩ := l.get.2 _ s h2
    have hx : lk j (slT 0 ss) = some x := slT_lk h1 h3
    obtain ⟨v, q1, q2⟩ := g.tm j x hx
    exact ⟨v, q1, h4.den q2⟩, g.ob⟩⟩
end
end Go.Proofs.Ytgiebofmfkacgaa

/-
  The layer of trees: rules for a walk.
-/
namespace Go.Proofs.Ytgiebofmfkacgaa
open Go.RowKit

theorem Brn.T {b : Bool} {X Y : Prop} (h : b = true) (k : X) : Brn b X Y := ⟨fun _ => k, fun e => (by rw [e] at h; cases h)⟩
theorem Brn.F {b : Bool} {X Y : Prop} (h : b = false) (k : Y) : Brn b X Y := ⟨fun e => (by rw [e] at h; cases h), fun _ => k⟩
theorem Ix.map {α : Type} {xs : List α} {f : α → List V} {i : Int} {m : Nat} {K : List V → Prop} (hi : i = (m : Int)) (h : m < xs.length) (k : K (f (xs[m]'h))) : Ix (xs.map f) i K := ⟨m, _, hi, by rw [List.getElem?_map, List.getElem?_eq_getElem h]; rfl, k⟩
theorem Ix.lit {rs : List (List V)} {i : Int} {m : Nat} {row : List V} {K : List V → Prop} (hi : i = (m : Int)) (h : nth rs m = some row) (k : K row) : Ix rs i K := ⟨m, row, hi, by rw [← nth_eq]; exact h, k⟩
theorem Rw.map {α : Type} {xs : List α} {f : α → List V} {m : Nat} {K : List V → Prop} (h : m < xs.length) (k : K (f (xs[m]'h))) : Rw (xs.map f) m K := ⟨_, by rw [List.getElem?_map, List.getElem?_eq_getElem h]; rfl, k⟩
/-- How tests are told; one name for all. -/
theorem smT : (∀ a b : Bool, ((a && b) = true) = (a = true ∧ b = true)) ∧ (∀ a b : Bool, ((a && b) = false) = (a = false ∨ b = false)) ∧ (∀ a b : Bool, ((a || b) = true) = (a = true ∨ b = true)) ∧ (∀ a b : Bool, ((a || b) = false) = (a = false ∧ b = false)) ∧
    (∀ (p : Prop) [Decidable p], (decide p = true) = p) ∧ (∀ (p : Prop) [Decidable p], (decide p = false) = ¬ p) ∧ (∀ a b : Int, (¬ a < b) = (b ≤ a)) ∧ (∀ a b : Int, (¬ a ≤ b) = (b < a)) ∧
    (∀ a b : Int, ((a == b) = true) = (a = b)) ∧ (∀ a b : Int, ((a == b) = false) = ¬ (a = b)) ∧ (∀ a b : Int, ((a != b) = true) = ¬ (a = b)) ∧ (∀ a b : Int, ((a != b) = false) = (a = b)) ∧ (∀ p : Prop, (¬ ¬ p) = p) ∧
    (∀ b : Bool, (¬ b = true) = (b = false)) ∧ (∀ b : Bool, (¬ b = false) = (b = true)) ∧ (∀ b : Bool, ((!b) = true) = (b = false)) ∧ (∀ b : Bool, ((!b) = false) = (b = true)) ∧ ((true = false) = False) ∧ ((false = true) = False) ∧
    (∀ {α β : Type} (f : α → β) (l : List α), (l.map f).length = l.length) ∧ (∀ {α : Type} (l m : List α), (l ++ m).length = l.length + m.length) ∧ (∀ {α : Type} (a : α) (l : List α), (a :: l).length = l.length + 1) ∧ (∀ {α : Type}, ([] : List α).length = 0) ∧
    (∀ {α : Type} (n : Nat) (l : List α), (l.take n).length = min n l.length) ∧ (∀ {α : Type} (n : Nat) (l : List α), (l.drop n).length = l.length - n) ∧ (maxLen = 9223372036854775807) := by
  refine ⟨?_, ?_, ?_, ?_, ?_, ?_, ?_, ?_, ?_, ?_, ?_, ?_, ?_, ?_, ?_, ?_, ?_, ?_, ?_, ?_, ?_, ?_, ?_, ?_, ?_, ?_⟩ <;> first | (intros; simp; done) | (intro a b; cases a <;> cases b <;> simp; done) | (intros; simp; omega) | rfl
/-- A contract that says what the answer is. -/
abbrev Is (s0 : SV) (s : SV) (ob : List (Nat × Ob)) : Prop := s = s0 ∧ ob = []
theorem Cl.is {P : Program} {f : FuncId} {ss : List SV} {own : Bool} {K : SV → Prop} {s0 : SV} (h : CallsA P f ss [] (Is s0)) (hp : pureS s0 = true) (hf : own = true → flatS s0 = true) (k : K s0) : Cl P f ss own K :=
  ⟨h.mono fun s ob ⟨e1, e2⟩ => by subst e1 e2; exact ⟨rfl, hp, hf, k⟩⟩
theorem Ret.is {s s0 : SV} (h : s = s0) : Ret (Is s0) s := ⟨s0, h ▸ .refl, rfl, rfl⟩
theorem Ret.nl {s s0 : SV} (h : NlS s s0) : Ret (Is s0) s := ⟨s0, h, rfl, rfl⟩
theorem Cl.nl {P : Program} {f : FuncId} {ss ss' : List SV} {own : Bool} {K : SV → Prop} {s0 : SV} (l : NlSs ss ss') (h : CallsA P f ss' [] (Is s0)) (hp : pureS s0 = true) (hf : own = true → flatS s0 = true) (k : K s0) : Cl P f ss own K := .is (h.nl l) hp hf k
end Go.Proofs.Ytgiebofmfkacgaa

/-
  The layer of trees: regions that draw their order.
-/
namespace Go.Proofs.Ytgiebofmfkacgaa
open Go.RowKit

section
variable {P : Program} {ops : Array Oper} {Q : Exit → Act → World → Prop} {md : Region.Mode} {S S' : World → Prop} {late : List Nat}
theorem wpAnyG_mono (hS : ∀ w, S' w → S w) : ∀ (fuel : Nat) (listed : Array Bool) (a : Act) (w : World), wpAnyG P md ops Q S' late fuel listed a w → wpAnyG P md ops Q S late fuel listed a w
  | 0, _, _, _, h => h
  | fuel + 1, _, _, _, h => ⟨h.1, fun i hi => wpOp_mono (fun a' w' h' => ⟨fun hl => hS w' (h'.1 hl), wpAnyG_mono hS fuel _ a' w' h'.2⟩) (h.2 i hi)⟩
/-- Only late operations are left. -/
theorem wpAnyG_late : ∀ (fuel : Nat) (listed : Array Bool) (a : Act) (w : World), (∀ j, listed.getD j true = false → late.contains j = true) → wpAny P md ops Q fuel listed a w → wpAnyG P md ops Q S late fuel listed a w
  | 0, _, _, _, _, h => h
  | fuel + 1, listed, _, _, hl, h => ⟨h.1, fun i hi => wpOp_mono (fun a' w' h' => ⟨fun hn => (by
      rw [hl i (mem_ready.1 hi).1] at hn; cases hn), wpAnyG_late fuel _ a' w' (fun j hj => hl j (by
      by_cases hij : i = j
      · subst hij
        exact (mem_ready.1 hi).1
      · rw [getD_set_ne true hij] at hj; exact hj)) h'⟩) (h.2 i hi)⟩
end
section
variable (P : Program) (T : List (Nat × Ty)) (nt : Nat)
def vcYP (o : Oper) (tm : List (Nat × SV)) (ob : List (Nat × Ob)) (K : Kt) : Prop := match vcY P T o.op tm ob (fun s => putT nt o.dst s tm ob K) with
  | some p => p
  | none => False
/-- The operations of a region in a given order; true: it only yields. -/
def vcR (ops : Array Oper) (K : Kt) : List (Nat × Bool) → Kt
  | [], tm, ob => K tm ob
  | (i, y) :: r, tm, ob => match nth ops.toList i with
    | none => False
    | some o => match o.guard with
      | none => match y with
        | true => vcYP P T nt o tm ob (vcR ops K r)
        | false => vcM P T nt o tm ob (vcR ops K r)
      | some (j, want) => match gdT ops j with
        | none => False
        | some t => match lk t tm with
          | some (.d (.u (.bool b))) => match y with
            | true => match want with
              | true => Brn b (vcYP P T nt o tm ob (vcR ops K r)) (skipT nt o.dst tm ob (vcR ops K r))
              | false => Brn b (skipT nt o.dst tm ob (vcR ops K r)) (vcYP P T nt o tm ob (vcR ops K r))
            | false => match want with
              | true => Brn b (vcM P T nt o tm ob (vcR ops K r)) (skipT nt o.dst tm ob (vcR ops K r))
              | false => Brn b (skipT nt o.dst tm ob (vcR ops K r)) (vcM P T nt o tm ob (vcR ops K r))
          | some (.t []) => skipT nt o.dst tm ob (vcR ops K r)
          | _ => False
end
def allLate (late : List Nat) : List (Nat × Bool) → Bool
  | [] => true
  | (i, y) :: r => !y && late.contains i && allLate late r
def keepAt (ops : Array Oper) (i : Nat) : Bool := match ops[i]? with
  | some o => keepT o.op
  | none => false
def dstAt (ops : Array Oper) (i : Nat) : Bool := match ops[i]? with
  | some o => o.dst.isSome
  | none => false
def ordOk (ops : Array Oper) (late : List Nat) : Array Bool → List (Nat × Bool) → Bool
  | listed, [] => Region.ready .any ops listed == []
  | listed, (i, true) :: r => regOk ops listed late i && (dstAt ops i && ordOk ops late (listed.setIfInBounds i true) r)
  | listed, (i, false) :: r => (Region.ready .any ops listed == [i]) && ((bif late.contains i then allLate late r && (List.range ops.size).all (fun j => listed.getD j true || late.contains j) else keepAt ops i) && ordOk ops late (listed.setIfInBounds i true) r)

section
variable {P : Program} {T : List (Nat × Ty)} [hT : Tys P T] {nt : Nat} {ops : Array Oper} {Q : Exit → Act → World → Prop} {late : List Nat} {c : Cx} {K : Kt}
/-- A guarded operation at a known test. -/
theorem vcR_guard {o : Oper} {i : Nat} {X : Kt} {Y : Prop} {st : St} {tm : List (Nat × Value)} {h : Hs} {ρ : Rho} {G : Nat → Prop} (g : Gd c st tm h ρ G) (a : Act) (ha : Slt nt tm a)
    (k : (match o.guard with
      | none => Y
      | some (j, want) => match gdT ops j with
        | none => False
        | some t => match lk t st.tm with
          | some (.d (.u (.bool b))) => match want with
            | true => Brn b Y (skipT nt o.dst st.tm st.ob X)
            | false => Brn b (skipT nt o.dst st.tm st.ob X) Y
          | some (.t []) => skipT nt o.dst st.tm st.ob X
          | _ => False)) : (Region.wanted o (yielded ops a.tmps) = true ∧ Y) ∨ (Region.wanted o (yielded ops a.tmps) = false ∧ skipT nt o.dst st.tm st.ob X) := by
  cases hg : o.guard with
  | none => simp only [hg] at k; exact .inl ⟨by simp [Region.wanted, hg], k⟩
  | some p =>
    obtain ⟨j, want⟩ := p
    simp only [hg] at k
    cases hj : gdT ops j with
    | none => simp only [hj] at k
    | some t =>
      simp only [hj] at k
      split at k
      · rename_i b hb
        have eb := evT_bool g (x := .tmp t) hb
        have hy := yielded_of ha (gdT_eq hj) eb
        have hw : Region.wanted o (yielded ops a.tmps) = (b == want) := by
          simp only [Region.wanted, hg, hy]
          cases b <;> cases want <;> rfl
        cases want <;> cases b
        · exact .inl ⟨by rw [hw]; rfl, k.f rfl⟩
        · exact .inr ⟨by rw [hw]; rfl, k.t rfl⟩
        · exact .inr ⟨by rw [hw]; rfl, k.f rfl⟩
        · exact .inl ⟨by rw [hw]; rfl, k.t rfl⟩
      · rename_i hb
        exact .inr ⟨by simp [Region.wanted, hg, yielded_undef ha (gdT_eq hj) (evT_undef g (x := .tmp t) hb)], k⟩
      · exact k.elim
omit hT in
theorem vcR_split {i : Nat} {y : Bool} {r : List (Nat × Bool)} {o : Oper} {tm : List (Nat × SV)} {ob : List (Nat × Ob)} (ho : ops[i]? = some o) (k : vcR P T nt ops K ((i, y) :: r) tm ob) :
    (match o.guard with
      | none => (match y with | true => vcYP P T nt o tm ob (vcR P T nt ops K r) | false => vcM P T nt o tm ob (vcR P T nt ops K r))
      | some (j, want) => match gdT ops j with
        | none => False
        | some t => match lk t tm with
          | some (.d (.u (.bool b))) => match want with
            | true => Brn b (match y with | true => vcYP P T nt o tm ob (vcR P T nt ops K r) | false => vcM P T nt o tm ob (vcR P T nt ops K r)) (skipT nt o.dst tm ob (vcR P T nt ops K r))
            | false => Brn b (skipT nt o.dst tm ob (vcR P T nt ops K r)) (match y with | true => vcYP P T nt o tm ob (vcR P T nt ops K r) | false => vcM P T nt o tm ob (vcR P T nt ops K r))
          | some (.t []) => skipT nt o.dst tm ob (vcR P T nt ops K r)
          | _ => False) := by
  have hn : nth ops.toList i = some o := by rw [nth_eq]; simpa using ho
  simp only [vcR, hn] at k
  cases y <;> exact k
/-- What is asked of the rest, when only late operations are left. -/
theorem vcR_tail (hK : ∀ st tm h ρ G, Gd c st tm h ρ G → K st.tm st.ob → AWq nt Q .normal tm h) : ∀ (r : List (Nat × Bool)) (listed : Array Bool) (fuel : Nat) (st : St) (tm : List (Nat × Value)) (h : Hs) (ρ : Rho) (G : Nat → Prop), r.length ≤ fuel → allLate late r = true → ordOk ops late listed r = true → Gd c st tm h ρ G → vcR P T nt ops K r st.tm st.ob →
    ∀ (a : Act) (w : World), Slt nt tm a → Hp h w → wpAny P .any ops Q fuel listed a w
  | [], listed, fuel, st, tm, h, ρ, G, _, _, ho, g, k, a, w, ha, hw => by
    have hr : Region.ready .any ops listed = [] := by simpa [ordOk] using ho
    have hq := (hK st tm h ρ G g k).out a w ha hw
    cases fuel with
    | zero => exact ⟨hr, hq⟩
    | succ n => exact ⟨fun _ => hq, by rw [hr]; simp⟩
  | (i, true) :: r, listed, fuel, st, tm, h, ρ, G, _, hl, ho, g, k, a, w, ha, hw => by simp [allLate] at hl
  | (i, false) :: r, listed, 0, st, tm, h, ρ, G, hf, hl, ho, g, k, a, w, ha, hw => by simp at hf
  | (i, false) :: r, listed, fuel + 1, st, tm, h, ρ, G, hf, hl, ho, g, k, a, w, ha, hw => by
    simp only [ordOk, Bool.and_eq_true] at ho
    simp only [allLate, Bool.and_eq_true] at hl
    have hr : Region.ready .any ops listed = [i] := eq_of_beq ho.1
    refine ⟨fun h' => (by rw [hr] at h'; cases h'), fun j hj => ?_⟩
    have hj' := hj
    rw [hr] at hj
    obtain rfl : j = i := by simpa using hj
    obtain ⟨_, o, hoj, _⟩ := mem_ready.1 hj'
    have ih : ∀ tm' h', Kd c (vcR P T nt ops K r) tm' h' → ∀ (a : Act) (w : World), Slt nt tm' a → Hp h' w → wpAny P .any ops Q fuel (listed.setIfInBounds j true) a w :=
      fun tm' h' ⟨st', ρ', G', h2, hh, g', k'⟩ a w ha hw => vcR_tail hK r _ fuel st' tm' h2 ρ' G' (by simp at hf; omega) hl.2 ho.2.2 g' k' a w ha (hh w hw)
    unfold wpOp
    simp only [hoj]
    obtain ⟨d, op, ty, pos, af, gu⟩ := o
    rcases vcR_guard (X := vcR P T nt ops K r) (i := j) g a ha (vcR_split hoj k) with ⟨hw1, k1⟩ | ⟨hw1, k1⟩
    · rw [if_pos hw1]
      refine .inl (Oper.wp_mono ?_ ((vcM_sound (P := P) (T := T) (Q := Q) g k1).out a w ha hw))
      rintro a' w' ⟨tm', h', h1, h2, h3⟩
      exact ih tm' h' h3 a' w' h1 h2
    · rw [if_neg (by rw [hw1]; simp)]
      cases d with
      | none => exact ih tm h (.of g k1) a w ha hw
      | some d =>
        simp only [skipT] at k1
        cases hd : Nat.blt d nt
        · rw [hd] at k1; exact k1.elim
        · rw [hd] at k1
          exact ih _ h (.of (g.put (.t (vs := []) rfl (by simp))) k1) _ w (ha.put (by simpa using hd) undef) hw
theorem vcR_sound [q : PanicOk Q] (hK : ∀ st tm h ρ G, Gd c st tm h ρ G → K st.tm st.ob → AWq nt Q .normal tm h) : ∀ (r : List (Nat × Bool)) (listed : Array Bool) (fuel : Nat) (st : St) (tm : List (Nat × Value)) (h : Hs) (ρ : Rho) (G : Nat → Prop), r.length ≤ fuel → ordOk ops late listed r = true → DC .any ops listed → listed.size = ops.size → Gd c st tm h ρ G → vcR P T nt ops K r st.tm st.ob →
    ∀ (a : Act) (w : World), Slt nt tm a → Hp h w → wpAnyG P .any ops Q (Hp h) late fuel listed a w
  | [], listed, fuel, st, tm, h, ρ, G, _, ho, _, _, g, k, a, w, ha, hw => by
    have hr : Region.ready .any ops listed = [] := by simpa [ordOk] using ho
    have hq := (hK st tm h ρ G g k).out a w ha hw
    cases fuel with
    | zero => exact ⟨hr, hq⟩
    | succ n => exact ⟨fun _ => hq, by rw [hr]; simp⟩
  | (i, y) :: r, listed, 0, st, tm, h, ρ, G, hf, ho, _, _, g, k, a, w, ha, hw => by simp at hf
  | (i, true) :: r, listed, fuel + 1, st, tm, h, ρ, G, hf, ho, hdc, hsz, g, k, a, w, ha, hw => by
    simp only [ordOk, Bool.and_eq_true] at ho
    obtain ⟨hB, hds, ho⟩ := ho
    simp only [regOk, Bool.and_eq_true] at hB
    obtain ⟨b1, b2, b3, b4⟩ := hB
    have hr' : i ∈ Region.ready .any ops listed := by simpa using b3
    obtain ⟨_, o, hoj, hdep⟩ := mem_ready.1 hr'
    have hdc' := hdc.set hoj hdep
    have hsz' : (listed.setIfInBounds i true).size = ops.size := by simp [hsz]
    have hlate : ∀ j, late.contains j = true → waits .any ops ops.size j i = true := fun j hj => List.all_eq_true.1 b4 j (by simpa using hj)
    have hdd : ∃ d, o.dst = some d := by
      simp only [dstAt, hoj] at hds
      exact Option.isSome_iff_exists.1 hds
    obtain ⟨d0, hd0⟩ := hdd
    have hf' : r.length ≤ fuel := by simp at hf; omega
    obtain ⟨d, op, ty, pos, af, gu⟩ := o
    simp only at hd0
    subst hd0
    rcases vcR_guard (X := vcR P T nt ops K r) (i := i) g a ha (vcR_split hoj k) with ⟨hw1, k1⟩ | ⟨hw1, k1⟩
    · simp only [vcYP] at k1
      cases hy : vcY P T op st.tm st.ob (fun s => putT nt (some d0) s st.tm st.ob (vcR P T nt ops K r)) with
      | none => simp only [hy] at k1
      | some p =>
        simp only [hy] at k1
        obtain ⟨s, v, q1, q2, q3⟩ := vcY_sound g hy k1 (P := P) (nt := nt) (ty := ty) (pos := pos) (af := af) (gd := gu) (d := some d0)
        simp only [putT] at q3
        cases hd : Nat.blt d0 nt
        · rw [hd] at q3; exact q3.elim
        · rw [hd] at q3
          exact wpAnyG_first hoj (Region.noSelect_spec b1) (fun c a w hq => q.ok c a _ _ w hq) (n := ops.size) hlate fuel listed a w hdc (Region.free_spec hoj b2) hr' (.inl ⟨hw1, fun w hw => q1.out a w ha hw⟩) hw
            (vcR_sound hK r _ fuel _ _ h ρ G hf' ho hdc' hsz' (g.put (d := d0) q2) q3 _ w (ha.put (by simpa using hd) v) hw)
    · simp only [skipT] at k1
      cases hd : Nat.blt d0 nt
      · rw [hd] at k1; exact k1.elim
      · rw [hd] at k1
        exact wpAnyG_first hoj (Region.noSelect_spec b1) (fun c a w hq => q.ok c a _ _ w hq) (n := ops.size) hlate fuel listed a w hdc (Region.free_spec hoj b2) hr' (.inr ⟨hw1, rfl⟩) hw
          (vcR_sound hK r _ fuel _ _ h ρ G hf' ho hdc' hsz' (g.put (d := d0) (.t (vs := []) rfl (by simp))) k1 _ w (ha.put (by simpa using hd) undef) hw)
  | (i, false) :: r, listed, fuel + 1, st, tm, h, ρ, G, hf, ho, hdc, hsz, g, k, a, w, ha, hw => by
    have ho0 := ho
    simp only [ordOk, Bool.and_eq_true] at ho
    have hr : Region.ready .any ops listed = [i] := eq_of_beq ho.1
    have hf' : r.length ≤ fuel := by simp at hf; omega
    cases hc : late.contains i
    · rw [hc] at ho
      simp only [cond_false] at ho
      refine ⟨fun h' => (by rw [hr] at h'; cases h'), fun j hj => ?_⟩
      have hj' := hj
      rw [hr] at hj
      obtain rfl : j = i := by simpa using hj
      obtain ⟨_, o, hoj, hdep⟩ := mem_ready.1 hj'
      have hkp : keepT o.op = true := by have := ho.2.1; simpa only [keepAt, hoj] using this
      have hdc' := hdc.set hoj hdep
      have hsz' : (listed.setIfInBounds j true).size = ops.size := by simp [hsz]
      unfold wpOp
      simp only [hoj]
      obtain ⟨d, op, ty, pos, af, gu⟩ := o
      rcases vcR_guard (X := vcR P T nt ops K r) (i := j) g a ha (vcR_split hoj k) with ⟨hw1, k1⟩ | ⟨hw1, k1⟩
      · rw [if_pos hw1]
        refine .inl (Oper.wp_mono ?_ ((vcM_keep (P := P) (T := T) (Q := Q) hkp g k1).out a w ha hw))
        rintro a' w' ⟨tm', h', h1, h2, st', ρ', G', h3, hh, hkeep, g', k'⟩
        exact ⟨fun _ => hkeep w' (hh w' h2), wpAnyG_mono hkeep _ _ _ _ (vcR_sound hK r _ fuel st' tm' h3 ρ' G' hf' ho.2.2 hdc' hsz' g' k' a' w' h1 (hh w' h2))⟩
      · rw [if_neg (by rw [hw1]; simp)]
        cases d with
        | none => exact ⟨fun _ => hw, vcR_sound hK r _ fuel st tm h ρ G hf' ho.2.2 hdc' hsz' g k1 a w ha hw⟩
        | some d =>
          simp only [skipT] at k1
          cases hd : Nat.blt d nt
          · rw [hd] at k1; exact k1.elim
          · rw [hd] at k1
            exact ⟨fun _ => hw, vcR_sound hK r _ fuel _ _ h ρ G hf' ho.2.2 hdc' hsz' (g.put (d := d) (.t (vs := []) rfl (by simp))) k1 _ w (ha.put (by simpa using hd) undef) hw⟩
    · rw [hc] at ho
      simp only [cond_true, Bool.and_eq_true] at ho
      refine wpAnyG_late _ _ _ _ (fun j hj => ?_) (vcR_tail hK _ listed (fuel + 1) st tm h ρ G hf (by simp only [allLate, Bool.and_eq_true]; exact ⟨⟨rfl, hc⟩, ho.2.1.1⟩) ho0 g k a w ha hw)
      have hjs : j < ops.size := by
        rcases Nat.lt_or_ge j listed.size with h' | h'
        · omega
        · simp [Array.getElem?_eq_none h'] at hj
      have := List.all_eq_true.1 ho.2.1.2 j (List.mem_range.2 hjs)
      simp only [hj, Bool.false_or] at this
      exact this
/-- A region that draws, by an order. -/
theorem Drw.of {i : Nat} {tmT : List (Nat × SV)} {ob : List (Nat × Ob)} (late : List Nat) (r : List (Nat × Bool)) (ho : (Nat.ble r.length ops.size && ordOk ops late (Array.replicate ops.size false) r) = true) (k : vcR P T nt ops K r tmT ob) : Drw P nt i ops K tmT ob :=
  ⟨fun c tm h ρ G g Q q hK => ⟨fun a w ha hw => wp_region_any hT.mo (wpAny_of_G (S := Hp h) (late := late) _ _ _ _ (by
    simp only [Bool.and_eq_true, Nat.ble_eq] at ho
    exact vcR_sound (P := P) (T := T) hK r _ _ ⟨tmT, ob⟩ tm h ρ G ho.1 ho.2 DC.start (by simp) g k a { w with drawn := w.drawn + 1 } ha (hw.drawn _)))⟩⟩
end
end Go.Proofs.Ytgiebofmfkacgaa

/-
  Elder contracts as contracts on trees; a law's contract as its row asks it. Of no program.
-/
namespace Go.Proofs.Ytgiebofmfkacgaa
open Go.RowKit

section
variable {P : Program} {f : FuncId} {ss : List SV}
/-- What the arguments are, in the world of the call. -/
def ArgsAt (ρ : Rho) (G : Nat → Prop) (w : World) (ss : List SV) (vs : List Value) : Prop := vs.length = ss.length ∧ (∀ (j : Nat) s v, ss[j]? = some s → vs[j]? = some v → DenS ρ ⟨G, w⟩ s v) ∧ ∀ b, G b → b < w.heap.size
theorem Gd.args {c : Cx} {ρ : Rho} {hp : List (Nat × Hb)} {vs : List Value} {w : World} (hw : Hp ⟨c.F, c.w, hp⟩ w) (hl : vs.length = ss.length) (g : Gd c ⟨slT 0 ss, []⟩ (slots 0 vs) ⟨c.F, c.w, hp⟩ ρ c.G) : ArgsAt ρ c.G w ss vs := by
  refine ⟨hl, fun j s v h1 h2 => ?_, fun b hb => hw.Flt (g.gF b hb)⟩
  have hk : lk j (slT 0 ss) = some s := by
    have : ∀ (l : List SV) (n j : Nat), l[j]? = some s → lk (n + j) (slT n l) = some s := by
      intro l
      induction l with
      | nil => intro n j h; simp at h
      | cons x r ih =>
        intro n j h
        cases j with
        | zero => simp at h; subst h; simp [slT, lk]
        | succ j =>
          simp only [slT, lk]
          have hne : Nat.beq (n + (j + 1)) n = false := by
            cases hb : Nat.beq (n + (j + 1)) n
            · rfl
            · have := Nat.eq_of_beq_eq_true hb; omega
          rw [hne]
          have := ih (n + 1) j (by simpa using h)
          rw [show n + (j + 1) = n + 1 + j by omega]
          exact this
    have := this ss 0 j h1
    rwa [Nat.zero_add] at this
  obtain ⟨u, q1, q2⟩ := g.tm j s hk
  have hu : lk j (slots 0 vs) = some v := lk_slots (Nat.zero_le _) (by simpa using h2)
  rw [hu] at q1
  injection q1 with q1
  subst q1
  exact DenS.mono (z := ⟨c.G, c.w⟩) (z' := ⟨c.G, w⟩) ⟨fun _ h => h, fun b hb => hw.same.block b (g.gF b hb)⟩ .refl q2
/-- A contract whose answer lies in no memory. -/
theorem callsA_flat {s : SV} {u : Value} (hf : FnOk P f) (hs : ∀ ρ z, DenS ρ z s u) (h : ∀ (ρ : Rho) (G : Nat → Prop) (w : World) (vs : List Value), ArgsAt ρ G w ss vs → Calls P f vs.toArray w fun e w' => e = .returned u ∧ Below w.heap.size w w') : CallsA P f ss [] fun s' ob => s' = s ∧ ob = [] := by
  refine ⟨hf, fun c ρ hp vs w hw hl g => ?_⟩
  refine (h ρ c.G w vs (Gd.args hw hl g)).mono ?_
  rintro e w' ⟨rfl, hb⟩
  have hhp : hp = [] := g.ob
  subst hhp
  exact ⟨u, ⟨c.F, c.w, []⟩, s, [], ρ, c.G, rfl, hw.below hb, ⟨fun _ h => h, Same.refl _ _, g.gF, fun _ h => .inl h, fun k s' hk => by
    simp only [lk] at hk ⊢
    cases hb : Nat.beq k 0 <;> rw [hb] at hk
    · cases hk
    · simp at hk; subst hk; exact ⟨u, rfl, hs _ _⟩, rfl⟩, rfl, rfl⟩
/-- A contract whose answer lies in new memory. -/
theorem callsA_fresh {s : SV} (hf : FnOk P f) (h : ∀ (ρ : Rho) (G : Nat → Prop) (w : World) (vs : List Value), ArgsAt ρ G w ss vs → Calls P f vs.toArray w fun e w' => ∃ u, e = .returned u ∧ Below w.heap.size w w' ∧ ∀ ρ, DenS ρ ⟨fun b => w.heap.size ≤ b ∧ b < w'.heap.size, w'⟩ s u) : CallsA P f ss [] fun s' ob => s' = s ∧ ob = [] := by
  refine ⟨hf, fun c ρ hp vs w hw hl g => ?_⟩
  refine (h ρ c.G w vs (Gd.args hw hl g)).mono ?_
  rintro e w' ⟨u, rfl, hb, hs⟩
  have hhp : hp = [] := g.ob
  subst hhp
  have hw' := hw.below hb
  refine ⟨u, ⟨fun b => c.F b ∨ (w.heap.size ≤ b ∧ b < w'.heap.size), w', []⟩, s, [], ρ, fun b => w.heap.size ≤ b ∧ b < w'.heap.size, rfl, ⟨Same.refl _ _, fun b hb => ?_, fun _ _ h => (by cases h), by simp, fun _ _ h => (by cases h)⟩, ⟨fun _ h => .inl h, hw'.same, fun _ h => .inr h, fun b hb => .inr fun hF => absurd (hw.Flt hF) (by omega), fun k s' hk => ?_, rfl⟩, rfl, rfl⟩
  · rcases hb with hb | hb
    · exact hw'.Flt hb
    · exact hb.2
  · simp only [lk] at hk ⊢
    cases hb : Nat.beq k 0 <;> rw [hb] at hk
    · cases hk
    · simp at hk; subst hk; exact ⟨u, rfl, hs _⟩
/-- A law's contract as its row asks it. -/
theorem calls_of_A {vs : List Value} {W : World} (h : CallsA P f ss [] fun s ob => s = .d (.u (.bool true)) ∧ ob = []) (hv : ArgsAt (fun _ => none) (· < W.heap.size) W ss vs) : Calls P f vs.toArray W fun e W' => e = .returned (.bool true) ∧ Below W.heap.size W W' := by
  refine (h.out ⟨(· < W.heap.size), W, (· < W.heap.size)⟩ (fun _ => none) [] vs W (Hp.init W) hv.1 ⟨fun _ h => h, Same.refl _ _, fun _ h => h, fun _ h => .inl h, fun k s hk => ?_, rfl⟩).mono ?_
  · obtain ⟨h1, h2⟩ := lk_slT hk
    have hlt : k - 0 < vs.length := by rw [hv.1]; exact (List.getElem?_eq_some_iff.1 h2).1
    exact ⟨vs[k - 0], lk_slots h1 (List.getElem?_eq_getElem hlt), hv.2.1 _ s _ h2 (List.getElem?_eq_getElem hlt)⟩
  · rintro e W' ⟨v, h', s, ob', ρ', G', rfl, hw', g', rfl, rfl⟩
    obtain ⟨u, e1, e2⟩ := g'.tm 0 _ rfl
    simp only [lk, Nat.beq_refl, cond_true, Option.some.injEq] at e1
    subst e1
    cases e2 with | d e2 => cases e2 with | u e2 => cases e2 with | bool =>
    exact ⟨rfl, (g'.fw.trans (hw'.same.mono g'.fF)).below⟩
end
/-- Rows that are read. -/
theorem rows_den {w : World} {ok G : Nat → Prop} {α : Type} {g : α → List V} {xs : List α} {A : Option Addr} {cs : List Value} {sz cc : Nat} (hr : RdIn w ok A cs) (hG : ∀ b, ok b → b < w.heap.size → G b) (hd : ∀ z, DenVL z (xs.map g).flatten cs) (hs : ∀ x ∈ xs, (g x).length = sz) (hpos : 0 < sz) (hc : xs.length ≤ cc) (hm : xs.length ≤ maxLen) : DenV ⟨G, w⟩ (.sl sz (xs.map g)) (.slice A xs.length cc) := by
  have hlen : ∀ r ∈ xs.map g, r.length = sz := fun r h => by
    obtain ⟨x, h1, rfl⟩ := List.mem_map.1 h
    exact hs x h1
  by_cases hx : xs = []
  · subst hx
    exact .sl (b := 0) (o := 0) [] rfl hc hm hlen (fun h => absurd rfl h) (by simp) (fun j u h => by simp at h) rfl (fun j d u h => by simp at h)
  · have hcl : 0 < cs.length := by
      rw [(hd ⟨G, w⟩).len, flat_len hlen]
      have : 0 < xs.length := List.length_pos_iff.2 hx
      simpa using Nat.mul_pos this hpos
    obtain ⟨b, o, rfl, h1, h2, h3⟩ := hr hcl
    have d := hd ⟨G, w⟩
    exact .sl (b := b) (o := o) cs (by simp) hc hm hlen (fun _ => ⟨rfl, hG b h1 h2⟩) d.len h3 d.one d.den
theorem den_rows {w : World} {G : Nat → Prop} {α : Type} {g : α → List V} {xs : List α} {v : Value} {cs : List Value} {sz : Nat} (h : DenV ⟨G, w⟩ (.sl sz (xs.map g)) v) (hG : ∀ b, G b → b < w.heap.size) (hd : ∀ z us, DenVL z (xs.map g).flatten us → us = cs) : ∃ A cc, v = .slice A xs.length cc ∧ Rd w A cs ∧ xs.length ≤ cc ∧ xs.length ≤ maxLen := by
  cases h with
  | @sl _ _ A n cc b o us hn hc hm hr hA hl hu h1 hdd =>
    have := hd _ us ⟨hl, h1, hdd⟩
    subst this
    have hn' : n = xs.length := by rw [← hn]; simp
    subst hn'
    refine ⟨A, cc, rfl, fun h0 => ?_, hc, hm⟩
    have hne : xs.map g ≠ [] := fun e => by rw [e] at hl; simp at hl; rw [hl] at h0; simp at h0
    obtain ⟨e1, e2⟩ := hA hne
    exact ⟨b, o, e1, hG b e2, hu⟩
end Go.Proofs.Ytgiebofmfkacgaa
