/-
  Part 4 of the proof of stay_holds: laws and contracts that it needs.
-/
import Derived.Test.YtgloielnnakknaaDoorQc3
namespace Go.Proofs.YtgloielnnakknaaDoor
open Go.RowKit
section
variable {P : Program} {ops : Array Oper} {Q : Exit → Act → World → Prop} {md : Region.Mode} {S S' S1 S1' : World → Prop} {late free : List Nat}
/-- Whatever order is picked; S holds behind operations that are neither late nor free; S1 behind all. -/
def wpAnyX (P : Program) (md : Region.Mode) (ops : Array Oper) (Q : Exit → Act → World → Prop) (S S1 : World → Prop) (late free : List Nat) : Nat → Array Bool → Act → World → Prop
  | 0, listed, a, w => Region.ready md ops listed = [] ∧ Q .normal a w
  | fuel + 1, listed, a, w =>
    (Region.ready md ops listed = [] → Q .normal a w) ∧
    ∀ i ∈ Region.ready md ops listed, wpOp P ops Q i (fun a' w' => (((free.contains i = true → w' = w) ∧ (late.contains i = false → free.contains i = false → S w')) ∧ S1 w') ∧ wpAnyX P md ops Q S S1 late free fuel (listed.setIfInBounds i true) a' w') a w
theorem wpAny_of_X : ∀ (fuel : Nat) (listed : Array Bool) (a : Act) (w : World), wpAnyX P md ops Q S S1 late free fuel listed a w → wpAny P md ops Q fuel listed a w
  | 0, _, _, _, h => h
  | fuel + 1, _, _, _, h => ⟨h.1, fun i hi => wpOp_mono (fun a' w' h' => wpAny_of_X fuel _ a' w' h'.2) (h.2 i hi)⟩
theorem wpAnyX_mono (hS : ∀ w, S' w → S w) (hS1 : ∀ w, S1' w → S1 w) : ∀ (fuel : Nat) (listed : Array Bool) (a : Act) (w : World), wpAnyX P md ops Q S' S1' late free fuel listed a w → wpAnyX P md ops Q S S1 late free fuel listed a w
  | 0, _, _, _, h => h
  | fuel + 1, _, _, _, h => ⟨h.1, fun i hi => wpOp_mono (fun a' w' h' => ⟨⟨⟨h'.1.1.1, fun hl hf => hS w' (h'.1.1.2 hl hf)⟩, hS1 w' h'.1.2⟩, wpAnyX_mono hS hS1 fuel _ a' w' h'.2⟩) (h.2 i hi)⟩
theorem wpAnyX_first {i : Nat} {oi : Oper} {v : Value} (hi : ops[i]? = some oi) (hsel : ∀ (j : Nat) (o : Oper) cs b, ops[j]? = some o → o.op ≠ .select cs b)
    (hQ : ∀ c a w, Q (.panic c) (a.put oi.dst v) w → Q (.panic c) a w) {n : Nat} (hlate : ∀ j, late.contains j = true → waits md ops n j i = true) :
    ∀ (fuel : Nat) (listed : Array Bool) (a : Act) (w : World), DC md ops listed →
      (∀ j oj, ops[j]? = some oj → j ≠ i → listed.getD j true = false → (∀ e ∈ oj.after, Region.binds md e = true → e.on ≠ i) → oi.apart ops oj = true) →
      i ∈ Region.ready md ops listed → YieldsIf P ops S oi v a → S w → S1 w →
      wpAnyX P md ops Q S S1 late free fuel (listed.setIfInBounds i true) (a.put oi.dst v) w → wpAnyX P md ops Q S S1 late free (fuel + 1) listed a w := by
  intro fuel
  induction fuel with
  | zero =>
    intro listed a w _ _ hr hy hS hS1 H
    refine ⟨fun h => (by rw [h] at hr; cases hr), fun j hj => ?_⟩
    by_cases hji : j = i
    · subst hji; exact hy.wpOp hi hS ⟨⟨⟨fun _ => rfl, fun _ _ => hS⟩, hS1⟩, H⟩
    · have := ready_mono hj hji
      rw [H.1] at this
      cases this
  | succ fuel ih =>
    intro listed a w hdc hfree hr hy hS hS1 H
    refine ⟨fun h => (by rw [h] at hr; cases hr), fun j hj => ?_⟩
    by_cases hji : j = i
    · subst hji; exact hy.wpOp hi hS ⟨⟨⟨fun _ => rfl, fun _ _ => hS⟩, hS1⟩, H⟩
    · have h1 := H.2 j (ready_mono hj hji)
      obtain ⟨hjun, oj, hoj, hall⟩ := mem_ready.1 hj
      have hiun : listed.getD i false ≠ true := fun h' => by
        have h0 := (mem_ready.1 hr).1
        rcases Nat.lt_or_ge i listed.size with h2 | h2
        · simp [h2] at h0 h'; rw [h0] at h'; cases h'
        · simp [Array.getElem?_eq_none h2] at h'
      have hnl : late.contains j = false := by
        cases hc : late.contains j
        · rfl
        · exact absurd (waits_listed hdc n j oj hoj hall (hlate j hc)) hiun
      have hnot : ∀ e ∈ oj.after, Region.binds md e = true → e.on ≠ i := fun e he hb heq => hiun (heq ▸ hall e he hb)
      have h2 := wpOp_putIf hoj (hfree j oj hoj hji hjun hnot) (fun cs b => hsel i oi cs b hi) (fun cs b => hsel j oj cs b hoj) hQ hy h1
      have hfree' : ∀ k ok, ops[k]? = some ok → k ≠ i → (listed.setIfInBounds j true).getD k true = false →
          (∀ e ∈ ok.after, Region.binds md e = true → e.on ≠ i) → oi.apart ops ok = true := fun k ok hk hki hun hno => by
        refine hfree k ok hk hki ?_ hno
        by_cases hjk : j = k
        · subst hjk; exact hjun
        · rw [getD_set_ne true hjk] at hun; exact hun
      have hSw : ∀ w', ((free.contains j = true → w' = w) ∧ (late.contains j = false → free.contains j = false → S w')) → S w' := fun w' hg => by
        cases hfr : free.contains j
        · exact hg.2 hnl hfr
        · rw [hg.1 hfr]; exact hS
      refine wpOp_mono (fun a' w' h3 => ⟨h3.2.1, ih (listed.setIfInBounds j true) a' w' (hdc.set hoj hall) hfree' (ready_mono hr (Ne.symm hji)) h3.1 (hSw w' h3.2.1.1) h3.2.1.2 ?_⟩) h2
      rw [Array.setIfInBounds_comm _ _ hji]
      exact h3.2.2
theorem wpAnyX_free {i : Nat} {oi : Oper} {v : Value} (hi : ops[i]? = some oi) (hsel : ∀ (j : Nat) (o : Oper) cs b, ops[j]? = some o → o.op ≠ .select cs b)
    (hQ : ∀ c a w, Q (.panic c) (a.put oi.dst v) w → Q (.panic c) a w) (hfi : free.contains i = true) :
    ∀ (fuel : Nat) (listed : Array Bool) (a : Act) (w : World), DC md ops listed →
      (∀ j oj, ops[j]? = some oj → j ≠ i → listed.getD j true = false → (∀ e ∈ oj.after, Region.binds md e = true → e.on ≠ i) → oi.apart ops oj = true) →
      i ∈ Region.ready md ops listed → YieldsIf P ops S1 oi v a → S1 w →
      wpAnyX P md ops Q S S1 late free fuel (listed.setIfInBounds i true) (a.put oi.dst v) w → wpAnyX P md ops Q S S1 late free (fuel + 1) listed a w := by
  intro fuel
  induction fuel with
  | zero =>
    intro listed a w _ _ hr hy hS1 H
    refine ⟨fun h => (by rw [h] at hr; cases hr), fun j hj => ?_⟩
    by_cases hji : j = i
    · subst hji; exact hy.wpOp hi hS1 ⟨⟨⟨fun _ => rfl, fun _ hf => by rw [hfi] at hf; cases hf⟩, hS1⟩, H⟩
    · have := ready_mono hj hji
      rw [H.1] at this
      cases this
  | succ fuel ih =>
    intro listed a w hdc hfree hr hy hS1 H
    refine ⟨fun h => (by rw [h] at hr; cases hr), fun j hj => ?_⟩
    by_cases hji : j = i
    · subst hji; exact hy.wpOp hi hS1 ⟨⟨⟨fun _ => rfl, fun _ hf => by rw [hfi] at hf; cases hf⟩, hS1⟩, H⟩
    · have h1 := H.2 j (ready_mono hj hji)
      obtain ⟨hjun, oj, hoj, hall⟩ := mem_ready.1 hj
      have hiun : listed.getD i false ≠ true := fun h' => by
        have h0 := (mem_ready.1 hr).1
        rcases Nat.lt_or_ge i listed.size with h2 | h2
        · simp [h2] at h0 h'; rw [h0] at h'; cases h'
        · simp [Array.getElem?_eq_none h2] at h'
      have hnot : ∀ e ∈ oj.after, Region.binds md e = true → e.on ≠ i := fun e he hb heq => hiun (heq ▸ hall e he hb)
      have h2 := wpOp_putIf hoj (hfree j oj hoj hji hjun hnot) (fun cs b => hsel i oi cs b hi) (fun cs b => hsel j oj cs b hoj) hQ hy h1
      have hfree' : ∀ k ok, ops[k]? = some ok → k ≠ i → (listed.setIfInBounds j true).getD k true = false →
          (∀ e ∈ ok.after, Region.binds md e = true → e.on ≠ i) → oi.apart ops ok = true := fun k ok hk hki hun hno => by
        refine hfree k ok hk hki ?_ hno
        by_cases hjk : j = k
        · subst hjk; exact hjun
        · rw [getD_set_ne true hjk] at hun; exact hun
      refine wpOp_mono (fun a' w' h3 => ⟨h3.2.1, ih (listed.setIfInBounds j true) a' w' (hdc.set hoj hall) hfree' (ready_mono hr (Ne.symm hji)) h3.1 h3.2.1.2 ?_⟩) h2
      rw [Array.setIfInBounds_comm _ _ hji]
      exact h3.2.2
end
section
variable (P : Program) (T : List (Nat × Ty)) (nt : Nat)
/-- An operation that yields whatever becomes of own objects. -/
def vcYF (o : Oper) (tm : List (Nat × SV)) (ob : List (Nat × Ob)) (K : Kt) : Prop := match vcY P T o.op tm [] (fun s => putT nt o.dst s tm ob K) with
  | some p => p
  | none => False
def vcYS (fr : Bool) (o : Oper) (tm : List (Nat × SV)) (ob : List (Nat × Ob)) (K : Kt) : Prop := match fr with
  | true => vcYF P T nt o tm ob K
  | false => vcYP P T nt o tm ob K
def vcRF (late free : List Nat) (ops : Array Oper) (K : Kt) : List (Nat × Bool) → Kt
  | [], tm, ob => K tm ob
  | (i, y) :: r, tm, ob => match nth ops.toList i with
    | none => False
    | some o => match o.guard with
      | none => match y with
        | true => vcYS P T nt (free.contains i) o tm ob (vcRF late free ops K r)
        | false => vcOpK P T nt (!late.contains i) o tm ob (vcRF late free ops K r)
      | some (j, want) => match gdT ops j with
        | none => False
        | some t => match lk t tm with
          | some (.d (.u (.bool b))) => match y with
            | true => match want with
              | true => Brn b (vcYS P T nt (free.contains i) o tm ob (vcRF late free ops K r)) (skipT nt o.dst tm ob (vcRF late free ops K r))
              | false => Brn b (skipT nt o.dst tm ob (vcRF late free ops K r)) (vcYS P T nt (free.contains i) o tm ob (vcRF late free ops K r))
            | false => match want with
              | true => Brn b (vcOpK P T nt (!late.contains i) o tm ob (vcRF late free ops K r)) (skipT nt o.dst tm ob (vcRF late free ops K r))
              | false => Brn b (skipT nt o.dst tm ob (vcRF late free ops K r)) (vcOpK P T nt (!late.contains i) o tm ob (vcRF late free ops K r))
          | some (.t []) => skipT nt o.dst tm ob (vcRF late free ops K r)
          | _ => False
end
def ordOkF (ops : Array Oper) (late free : List Nat) : Array Bool → List (Nat × Bool) → Bool
  | listed, [] => Region.ready .any ops listed == []
  | listed, (i, true) :: r => (bif free.contains i then regOk ops listed [] i else regOk ops listed late i) && (dstAt ops i && ordOkF ops late free (listed.setIfInBounds i true) r)
  | listed, (i, false) :: r => (Region.ready .any ops listed == [i]) && ((bif late.contains i then allLate late r && (List.range ops.size).all (fun j => listed.getD j true || (late.contains j && !free.contains j)) else keepAt ops i && !free.contains i) && ordOkF ops late free (listed.setIfInBounds i true) r)
section
variable {P : Program} {T : List (Nat × Ty)} [hT : Tys P T] {nt : Nat} {ops : Array Oper} {Q : Exit → Act → World → Prop} {late free : List Nat} {c : Cx} {K : Kt}
/-- What stays in a step, seen from the step's own start. -/
theorem Gd.recx {st : St} {tm : List (Nat × Value)} {h : Hs} {ρ : Rho} {G : FG} (g : Gd c st tm h ρ G) : Gd ⟨h.F, h.w0, G⟩ st tm h ρ G := ⟨fun _ h => h, Same.refl _ _, g.gF, fun _ h => .inl h, .refl _, g.tm, g.ob⟩
theorem Gd.back {st st' : St} {tm tm' : List (Nat × Value)} {h h' : Hs} {ρ ρ' : Rho} {G G' : FG} (g : Gd c st tm h ρ G) (g' : Gd ⟨h.F, h.w0, G⟩ st' tm' h' ρ' G') : Gd c st' tm' h' ρ' G' :=
  ⟨fun b hb => g'.fF b (g.fF b hb), g.fw.trans (g'.fw.mono g.fF), g'.gF, fun b hb => (g'.gx b hb).elim (g.gx b) fun q => .inr fun h0 => q (g.fF b h0), g.fm.trans g'.fm, g'.tm, g'.ob⟩
abbrev Frn (h : Hs) (w : World) : Prop := Hp ⟨h.F, h.w0, []⟩ w
theorem Hp.frn {h : Hs} {w : World} (hw : Hp h w) : Frn h w := ⟨hw.same, hw.inF, fun b x hx => (by cases hx), (by simp), fun b x hx => (by cases hx)⟩
theorem Frn.back {st' : St} {tm' : List (Nat × Value)} {h h' : Hs} {ρ' : Rho} {G G' : FG} {w0 w : World} (h0 : Hp h w0) (g' : Gd ⟨h.F, h.w0, G⟩ st' tm' h' ρ' G') (hw : Frn h' w) : Frn h w :=
  ⟨g'.fw.trans (hw.same.mono g'.fF), h0.inF, fun b x hx => (by cases hx), (by simp), fun b x hx => (by cases hx)⟩
omit hT in
theorem vcRF_split {i : Nat} {y : Bool} {r : List (Nat × Bool)} {o : Oper} {tm : List (Nat × SV)} {ob : List (Nat × Ob)} (ho : ops[i]? = some o) (k : vcRF P T nt late free ops K ((i, y) :: r) tm ob) :
    (match o.guard with
      | none => (match y with | true => vcYS P T nt (free.contains i) o tm ob (vcRF P T nt late free ops K r) | false => vcOpK P T nt (!late.contains i) o tm ob (vcRF P T nt late free ops K r))
      | some (j, want) => match gdT ops j with
        | none => False
        | some t => match lk t tm with
          | some (.d (.u (.bool b))) => match want with
            | true => Brn b (match y with | true => vcYS P T nt (free.contains i) o tm ob (vcRF P T nt late free ops K r) | false => vcOpK P T nt (!late.contains i) o tm ob (vcRF P T nt late free ops K r)) (skipT nt o.dst tm ob (vcRF P T nt late free ops K r))
            | false => Brn b (skipT nt o.dst tm ob (vcRF P T nt late free ops K r)) (match y with | true => vcYS P T nt (free.contains i) o tm ob (vcRF P T nt late free ops K r) | false => vcOpK P T nt (!late.contains i) o tm ob (vcRF P T nt late free ops K r))
          | some (.t []) => skipT nt o.dst tm ob (vcRF P T nt late free ops K r)
          | _ => False) := by
  have hn : nth ops.toList i = some o := by rw [nth_eq]; simpa using ho
  simp only [vcRF, hn] at k
  cases y <;> exact k
theorem vcRF_tail (hK : ∀ st tm h ρ G, Gd c st tm h ρ G → K st.tm st.ob → AWq nt Q .normal tm h) : ∀ (r : List (Nat × Bool)) (listed : Array Bool) (fuel : Nat) (S : World → Prop) (st : St) (tm : List (Nat × Value)) (h : Hs) (ρ : Rho) (G : FG), r.length ≤ fuel → allLate late r = true → ordOkF ops late free listed r = true → (∀ j, listed.getD j true = false → late.contains j = true ∧ free.contains j = false) → Gd c st tm h ρ G → vcRF P T nt late free ops K r st.tm st.ob →
    ∀ (a : Act) (w : World), Slt nt tm a → Hp h w → wpAnyX P .any ops Q S (Frn h) late free fuel listed a w
  | [], listed, fuel, S, st, tm, h, ρ, G, _, _, ho, _, g, k, a, w, ha, hw => by
    have hr : Region.ready .any ops listed = [] := by simpa [ordOkF] using ho
    have hq := (hK st tm h ρ G g k).out a w ha hw
    cases fuel with
    | zero => exact ⟨hr, hq⟩
    | succ n => exact ⟨fun _ => hq, by rw [hr]; simp⟩
  | (i, true) :: r, listed, fuel, S, st, tm, h, ρ, G, _, hl, ho, _, g, k, a, w, ha, hw => by simp [allLate] at hl
  | (i, false) :: r, listed, 0, S, st, tm, h, ρ, G, hf, hl, ho, _, g, k, a, w, ha, hw => by simp at hf
  | (i, false) :: r, listed, fuel + 1, S, st, tm, h, ρ, G, hf, hl, ho, hlt, g, k, a, w, ha, hw => by
    simp only [ordOkF, Bool.and_eq_true] at ho
    simp only [allLate, Bool.and_eq_true] at hl
    have hr : Region.ready .any ops listed = [i] := eq_of_beq ho.1
    refine ⟨fun h' => (by rw [hr] at h'; cases h'), fun j hj => ?_⟩
    have hj' := hj
    rw [hr] at hj
    obtain rfl : j = i := by simpa using hj
    obtain ⟨hun, o, hoj, _⟩ := mem_ready.1 hj'
    obtain ⟨lt1, lt2⟩ := hlt j hun
    have hlt' : ∀ q, (listed.setIfInBounds j true).getD q true = false → late.contains q = true ∧ free.contains q = false := fun q hq => hlt q (by
      by_cases hjq : j = q
      · subst hjq; exact hun
      · rw [getD_set_ne true hjq] at hq; exact hq)
    have ih : ∀ tm' h', Kd ⟨h.F, h.w0, G⟩ (vcRF P T nt late free ops K r) tm' h' → ∀ (a : Act) (w' : World), Slt nt tm' a → Hp h' w' → (((free.contains j = true → w' = w) ∧ (late.contains j = false → free.contains j = false → S w')) ∧ Frn h w') ∧ wpAnyX P .any ops Q S (Frn h) late free fuel (listed.setIfInBounds j true) a w' :=
      fun tm' h' ⟨st', ρ', G', h2, hh, g', k'⟩ a w' ha hw' => ⟨⟨⟨fun hn => (by rw [lt2] at hn; cases hn), fun hn => (by rw [lt1] at hn; cases hn)⟩, Frn.back hw g' (hh w' hw').frn⟩, wpAnyX_mono (fun _ h => h) (fun w2 hw2 => Frn.back hw g' hw2) _ _ _ _ (vcRF_tail hK r _ fuel S st' tm' h2 ρ' G' (by simp at hf; omega) hl.2 ho.2.2 hlt' (g.back g') k' a w' ha (hh w' hw'))⟩
    unfold wpOp
    simp only [hoj]
    obtain ⟨d, op, ty, pos, af, gu⟩ := o
    rcases vcR_guard (X := vcRF P T nt late free ops K r) (i := j) g a ha (vcRF_split hoj k) with ⟨hw1, k1⟩ | ⟨hw1, k1⟩
    · rw [if_pos hw1]
      refine .inl (Oper.wp_mono ?_ ((vcOpK_sound (P := P) (T := T) (Q := Q) g.recx k1).out a w ha hw))
      rintro a' w' ⟨tm', h', h1, h2, h3⟩
      exact ih tm' h' h3 a' w' h1 h2
    · rw [if_neg (by rw [hw1]; simp)]
      cases d with
      | none =>
        have q := ih tm h (.of g.recx k1) a w ha hw
        exact ⟨⟨⟨fun _ => trivial, q.1.1.2⟩, q.1.2⟩, q.2⟩
      | some d =>
        simp only [skipT] at k1
        cases hd : Nat.blt d nt
        · rw [hd] at k1; exact k1.elim
        · rw [hd] at k1
          have q := ih _ h (.of (g.recx.put (.t (vs := []) rfl (by simp))) k1) _ w (ha.put (by simpa using hd) undef) hw
          exact ⟨⟨⟨fun _ => trivial, q.1.1.2⟩, q.1.2⟩, q.2⟩
theorem vcRF_sound [q : PanicOk Q] (hK : ∀ st tm h ρ G, Gd c st tm h ρ G → K st.tm st.ob → AWq nt Q .normal tm h) : ∀ (r : List (Nat × Bool)) (listed : Array Bool) (fuel : Nat) (st : St) (tm : List (Nat × Value)) (h : Hs) (ρ : Rho) (G : FG), r.length ≤ fuel → ordOkF ops late free listed r = true → DC .any ops listed → listed.size = ops.size → Gd c st tm h ρ G → vcRF P T nt late free ops K r st.tm st.ob →
    ∀ (a : Act) (w : World), Slt nt tm a → Hp h w → wpAnyX P .any ops Q (Hp h) (Frn h) late free fuel listed a w
  | [], listed, fuel, st, tm, h, ρ, G, _, ho, _, _, g, k, a, w, ha, hw => by
    have hr : Region.ready .any ops listed = [] := by simpa [ordOkF] using ho
    have hq := (hK st tm h ρ G g k).out a w ha hw
    cases fuel with
    | zero => exact ⟨hr, hq⟩
    | succ n => exact ⟨fun _ => hq, by rw [hr]; simp⟩
  | (i, y) :: r, listed, 0, st, tm, h, ρ, G, hf, ho, _, _, g, k, a, w, ha, hw => by simp at hf
  | (i, true) :: r, listed, fuel + 1, st, tm, h, ρ, G, hf, ho, hdc, hsz, g, k, a, w, ha, hw => by
    simp only [ordOkF, Bool.and_eq_true] at ho
    obtain ⟨hB, hds, ho⟩ := ho
    have hB' : Region.noSelect ops = true ∧ Region.free .any ops listed i = true ∧ (Region.ready .any ops listed).contains i = true ∧ (free.contains i = true ∨ (free.contains i = false ∧ ∀ j, late.contains j = true → waits .any ops ops.size j i = true)) := by
      cases hfr : free.contains i
      · rw [hfr] at hB
        simp only [cond_false, regOk, Bool.and_eq_true] at hB
        obtain ⟨b1, b2, b3, b4⟩ := hB
        exact ⟨b1, b2, b3, .inr ⟨rfl, fun j hj => List.all_eq_true.1 b4 j (by simpa using hj)⟩⟩
      · rw [hfr] at hB
        simp only [cond_true, regOk, Bool.and_eq_true] at hB
        exact ⟨hB.1, hB.2.1, hB.2.2.1, .inl rfl⟩
    obtain ⟨b1, b2, b3, b4⟩ := hB'
    have hr' : i ∈ Region.ready .any ops listed := by simpa using b3
    obtain ⟨_, o, hoj, hdep⟩ := mem_ready.1 hr'
    have hdc' := hdc.set hoj hdep
    have hsz' : (listed.setIfInBounds i true).size = ops.size := by simp [hsz]
    have hdd : ∃ d, o.dst = some d := by
      simp only [dstAt, hoj] at hds
      exact Option.isSome_iff_exists.1 hds
    obtain ⟨d0, hd0⟩ := hdd
    have hf' : r.length ≤ fuel := by simp at hf; omega
    obtain ⟨d, op, ty, pos, af, gu⟩ := o
    simp only at hd0
    subst hd0
    rcases vcR_guard (X := vcRF P T nt late free ops K r) (i := i) g a ha (vcRF_split hoj k) with ⟨hw1, k1⟩ | ⟨hw1, k1⟩
    · rcases b4 with hfr | ⟨hfr, hlate⟩
      · rw [hfr] at k1
        simp only [vcYS, vcYF] at k1
        cases hy : vcY P T op st.tm [] (fun s => putT nt (some d0) s st.tm st.ob (vcRF P T nt late free ops K r)) with
        | none => simp only [hy] at k1
        | some p =>
          simp only [hy] at k1
          have g0 : Gd c ⟨st.tm, []⟩ tm ⟨h.F, h.w0, []⟩ ρ G := ⟨g.fF, g.fw, g.gF, g.gx, g.fm, g.tm, rfl⟩
          obtain ⟨s, v, q1, q2, q3⟩ := vcY_sound g0 hy k1 (P := P) (nt := nt) (ty := ty) (pos := pos) (af := af) (gd := gu) (d := some d0)
          simp only [putT] at q3
          cases hd : Nat.blt d0 nt
          · rw [hd] at q3; exact q3.elim
          · rw [hd] at q3
            have hrest := vcRF_sound hK r _ fuel _ _ h ρ G hf' ho hdc' hsz' (g.put (d := d0) q2) q3 _ w (ha.put (by simpa using hd) v) hw
            exact wpAnyX_free hoj (Region.noSelect_spec b1) (fun c a w hq => q.ok c a _ _ w hq) hfr fuel listed a w hdc (Region.free_spec hoj b2) hr' (.inl ⟨hw1, fun w' hw' => q1.out a w' ha hw'⟩) hw.frn hrest
      · rw [hfr] at k1
        simp only [vcYS, vcYP] at k1
        cases hy : vcY P T op st.tm st.ob (fun s => putT nt (some d0) s st.tm st.ob (vcRF P T nt late free ops K r)) with
        | none => simp only [hy] at k1
        | some p =>
          simp only [hy] at k1
          obtain ⟨s, v, q1, q2, q3⟩ := vcY_sound g hy k1 (P := P) (nt := nt) (ty := ty) (pos := pos) (af := af) (gd := gu) (d := some d0)
          simp only [putT] at q3
          cases hd : Nat.blt d0 nt
          · rw [hd] at q3; exact q3.elim
          · rw [hd] at q3
            have hrest := vcRF_sound hK r _ fuel _ _ h ρ G hf' ho hdc' hsz' (g.put (d := d0) q2) q3 _ w (ha.put (by simpa using hd) v) hw
            exact wpAnyX_first hoj (Region.noSelect_spec b1) (fun c a w hq => q.ok c a _ _ w hq) (n := ops.size) hlate fuel listed a w hdc (Region.free_spec hoj b2) hr' (.inl ⟨hw1, fun w hw => q1.out a w ha hw⟩) hw hw.frn hrest
    · simp only [skipT] at k1
      cases hd : Nat.blt d0 nt
      · rw [hd] at k1; exact k1.elim
      · rw [hd] at k1
        have hrest := vcRF_sound hK r _ fuel _ _ h ρ G hf' ho hdc' hsz' (g.put (d := d0) (.t (vs := []) rfl (by simp))) k1 _ w (ha.put (by simpa using hd) undef) hw
        rcases b4 with hfr | ⟨_, hlate⟩
        · exact wpAnyX_free hoj (Region.noSelect_spec b1) (fun c a w hq => q.ok c a _ _ w hq) hfr fuel listed a w hdc (Region.free_spec hoj b2) hr' (.inr ⟨hw1, rfl⟩) hw.frn hrest
        · exact wpAnyX_first hoj (Region.noSelect_spec b1) (fun c a w hq => q.ok c a _ _ w hq) (n := ops.size) hlate fuel listed a w hdc (Region.free_spec hoj b2) hr' (.inr ⟨hw1, rfl⟩) hw hw.frn hrest
  | (i, false) :: r, listed, fuel + 1, st, tm, h, ρ, G, hf, ho, hdc, hsz, g, k, a, w, ha, hw => by
    have ho0 := ho
    simp only [ordOkF, Bool.and_eq_true] at ho
    have hr : Region.ready .any ops listed = [i] := eq_of_beq ho.1
    have hf' : r.length ≤ fuel := by simp at hf; omega
    cases hc : late.contains i
    · rw [hc] at ho
      simp only [cond_false] at ho
      refine ⟨fun h' => (by rw [hr] at h'; cases h'), fun j hj => ?_⟩
      have hj' := hj
      rw [hr] at hj
      obtain rfl : j = i := by simpa using hj
      obtain ⟨_, o, hoj, hdep⟩ := mem_ready.1 hj'
      simp only [Bool.and_eq_true, Bool.not_eq_true'] at ho
      have hkp : keepT o.op = true := by have := ho.2.1.1; simpa only [keepAt, hoj] using this
      have hnf : free.contains j = false := ho.2.1.2
      have hg : ∀ w', Hp h w' → ((free.contains j = true → w' = w) ∧ (late.contains j = false → free.contains j = false → Hp h w')) ∧ Frn h w' := fun w' hw' => ⟨⟨fun hf => absurd hf (by rw [hnf]; simp), fun _ _ => hw'⟩, hw'.frn⟩
      have hdc' := hdc.set hoj hdep
      have hsz' : (listed.setIfInBounds j true).size = ops.size := by simp [hsz]
      unfold wpOp
      simp only [hoj]
      obtain ⟨d, op, ty, pos, af, gu⟩ := o
      rcases vcR_guard (X := vcRF P T nt late free ops K r) (i := j) g a ha (vcRF_split hoj k) with ⟨hw1, k1⟩ | ⟨hw1, k1⟩
      · rw [if_pos hw1]
        refine .inl (Oper.wp_mono ?_ ((vcOpK_keep (P := P) (T := T) (Q := Q) hkp g.recx (by simp only [hc, Bool.not_false] at k1; exact k1)).out a w ha hw))
        rintro a' w' ⟨tm', h', h1, h2, st', ρ', G', h3, hh, hkeep, g', k'⟩
        exact ⟨hg w' (hkeep w' (hh w' h2)), wpAnyX_mono hkeep (fun w2 hw2 => Frn.back hw g' hw2) _ _ _ _ (vcRF_sound hK r _ fuel st' tm' h3 ρ' G' hf' ho.2.2 hdc' hsz' (g.back g') k' a' w' h1 (hh w' h2))⟩
      · rw [if_neg (by rw [hw1]; simp)]
        cases d with
        | none => exact ⟨⟨⟨fun _ => trivial, (hg w hw).1.2⟩, (hg w hw).2⟩, vcRF_sound hK r _ fuel st tm h ρ G hf' ho.2.2 hdc' hsz' g k1 a w ha hw⟩
        | some d =>
          simp only [skipT] at k1
          cases hd : Nat.blt d nt
          · rw [hd] at k1; exact k1.elim
          · rw [hd] at k1
            exact ⟨⟨⟨fun _ => trivial, (hg w hw).1.2⟩, (hg w hw).2⟩, vcRF_sound hK r _ fuel _ _ h ρ G hf' ho.2.2 hdc' hsz' (g.put (d := d) (.t (vs := []) rfl (by simp))) k1 _ w (ha.put (by simpa using hd) undef) hw⟩
    · rw [hc] at ho
      simp only [cond_true, Bool.and_eq_true] at ho
      refine vcRF_tail hK _ listed (fuel + 1) _ st tm h ρ G hf (by simp only [allLate, Bool.and_eq_true]; exact ⟨⟨rfl, hc⟩, ho.2.1.1⟩) ho0 (fun j hj => ?_) g k a w ha hw
      have hjs : j < ops.size := by
        rcases Nat.lt_or_ge j listed.size with h' | h'
        · omega
        · simp [Array.getElem?_eq_none h'] at hj
      have := List.all_eq_true.1 ho.2.1.2 j (List.mem_range.2 hjs)
      simp only [hj, Bool.false_or, Bool.and_eq_true, Bool.not_eq_true'] at this
      exact this
/-- A region that draws, by an order; the free ones read frozen memory alone. -/
theorem Drw.ofF {i : Nat} {tmT : List (Nat × SV)} {ob : List (Nat × Ob)} (late free : List Nat) (r : List (Nat × Bool)) (ho : (Nat.ble r.length ops.size && ordOkF ops late free (Array.replicate ops.size false) r) = true) (k : vcRF P T nt late free ops K r tmT ob) : Drw P nt i ops K tmT ob :=
  ⟨fun c tm h ρ G g Q q hK => ⟨fun a w ha hw => wp_region_any hT.mo (wpAny_of_X (S := Hp h) (S1 := Frn h) (late := late) (free := free) _ _ _ _ (by
    simp only [Bool.and_eq_true, Nat.ble_eq] at ho
    exact vcRF_sound hK r _ _ ⟨tmT, ob⟩ tm h ρ G ho.1 ho.2 DC.start (by simp) g k a { w with drawn := w.drawn + 1 } ha (hw.drawn _)))⟩⟩
end
end Go.Proofs.YtgloielnnakknaaDoor

/-
  The layer of trees: regions that draw their order: first what reads frozen memory alone, then all orders of the rest. Of no program.
-/
namespace Go.Proofs.YtgloielnnakknaaDoor
open Go.RowKit
section
variable (P : Program) (T : List (Nat × Ty)) (nt : Nat)
def vcPf (ops : Array Oper) (K : Kt) (t : OT) : List Nat → Kt
  | [], tm, ob => vcOT P T nt ops K t tm ob
  | i :: r, tm, ob => match nth ops.toList i with
    | none => False
    | some o => match o.guard with
      | none => vcYF P T nt o tm ob (vcPf ops K t r)
      | some _ => False
end
def ordOkP (ops : Array Oper) (late free : List Nat) (t : OT) : Array Bool → List Nat → Bool
  | listed, [] => t.chk ops true listed && (List.range ops.size).all (fun j => listed.getD j true || (late.contains j && !free.contains j))
  | listed, i :: r => (free.contains i && regOk ops listed [] i) && (dstAt ops i && ordOkP ops late free t (listed.setIfInBounds i true) r)
section
variable {P : Program} {T : List (Nat × Ty)} [hT : Tys P T] {nt : Nat} {ops : Array Oper} {Q : Exit → Act → World → Prop} {late free : List Nat} {c : Cx} {K : Kt}
theorem vcOTX_sound (hK : ∀ st tm h ρ G, Gd c st tm h ρ G → K st.tm st.ob → AWq nt Q .normal tm h) : ∀ (t : OT) (listed : Array Bool) (fuel : Nat) (S : World → Prop) (st : St) (tm : List (Nat × Value)) (h : Hs) (ρ : Rho) (G : FG), t.depth ≤ fuel → (∀ j, listed.getD j true = false → late.contains j = true ∧ free.contains j = false) → Gd c st tm h ρ G → vcOT P T nt ops K t st.tm st.ob → ∀ (a : Act) (w : World), Slt nt tm a → Hp h w →
    (t.chk ops true listed = true → wpAnyX P .any ops Q S (Frn h) late free fuel listed a w) ∧ (∀ f, fuel = f + 1 → t.chk ops false listed = true → ∀ i ∈ t.heads, listed.getD i true = false → wpOp P ops Q i (fun a' w' => (((free.contains i = true → w' = w) ∧ (late.contains i = false → free.contains i = false → S w')) ∧ Frn h w') ∧ wpAnyX P .any ops Q S (Frn h) late free f (listed.setIfInBounds i true) a' w') a w)
  | .nil, listed, fuel, S, st, tm, h, ρ, G, hf, hlt, g, k, a, w, ha, hw => by
    refine ⟨fun hc => ?_, fun f _ _ i hi => by cases hi⟩
    have hr : Region.ready .any ops listed = [] := by simpa [OT.chk] using hc
    have hq := (hK st tm h ρ G g k).out a w ha hw
    cases fuel with
    | zero => exact ⟨hr, hq⟩
    | succ n => exact ⟨fun _ => hq, by rw [hr]; simp⟩
  | .alt i s r, listed, fuel, S, st, tm, h, ρ, G, hf, hlt, g, k, a, w, ha, hw => by
    obtain ⟨k1, k2⟩ := vcOT_alt k
    simp only [OT.depth] at hf
    have two : ∀ f, fuel = f + 1 → (OT.alt i s r).chk ops false listed = true → ∀ j ∈ (OT.alt i s r).heads, listed.getD j true = false → wpOp P ops Q j (fun a' w' => (((free.contains j = true → w' = w) ∧ (late.contains j = false → free.contains j = false → S w')) ∧ Frn h w') ∧ wpAnyX P .any ops Q S (Frn h) late free f (listed.setIfInBounds j true) a' w') a w := by
      intro f hfu hc j hj hun
      simp only [OT.chk, cond_false, Bool.true_and, Bool.and_eq_true] at hc
      rcases List.mem_cons.1 hj with rfl | hj
      · obtain ⟨lt1, lt2⟩ := hlt j hun
        have hlt' : ∀ q, (listed.setIfInBounds j true).getD q true = false → late.contains q = true ∧ free.contains q = false := fun q hq => hlt q (by
          by_cases hjq : j = q
          · subst hjq; exact hun
          · rw [getD_set_ne true hjq] at hq; exact hq)
        exact vcG_sound g.recx k1 (fun tm' h' ⟨st', ρ', G', h2, hh, g', k'⟩ a' w' ha' hw' => ⟨⟨⟨fun hn => (by rw [lt2] at hn; cases hn), fun hn => (by rw [lt1] at hn; cases hn)⟩, Frn.back hw g' (hh w' hw').frn⟩,
          wpAnyX_mono (fun _ h => h) (fun w2 hw2 => Frn.back hw g' hw2) _ _ _ _ ((vcOTX_sound hK s _ f S st' tm' h2 ρ' G' (by omega) hlt' (g.back g') k' a' w' ha' (hh w' hw')).1 hc.1)⟩) a w ha hw
      · have hne : r ≠ .nil := fun e => by subst e; cases hj
        exact (vcOTX_sound hK r listed fuel S st tm h ρ G (by omega) hlt g (k2 hne) a w ha hw).2 f hfu hc.2 j hj hun
    refine ⟨fun hc => ?_, two⟩
    simp only [OT.chk, cond_true, Bool.and_eq_true] at hc
    have hr : Region.ready .any ops listed = (OT.alt i s r).heads := eq_of_beq hc.1
    cases fuel with
    | zero => omega
    | succ n =>
      refine ⟨fun h' => (by rw [hr] at h'; cases h'), fun j hj => ?_⟩
      have hun := (mem_ready.1 hj).1
      rw [hr] at hj
      exact two n rfl (by simp only [OT.chk, cond_false, Bool.true_and, Bool.and_eq_true]; exact hc.2) j hj hun
theorem vcPf_sound [q : PanicOk Q] (hK : ∀ st tm h ρ G, Gd c st tm h ρ G → K st.tm st.ob → AWq nt Q .normal tm h) (t : OT) : ∀ (r : List Nat) (listed : Array Bool) (fuel : Nat) (st : St) (tm : List (Nat × Value)) (h : Hs) (ρ : Rho) (G : FG), r.length + t.depth ≤ fuel → ordOkP ops late free t listed r = true → DC .any ops listed → listed.size = ops.size → Gd c st tm h ρ G → vcPf P T nt ops K t r st.tm st.ob →
    ∀ (a : Act) (w : World), Slt nt tm a → Hp h w → wpAnyX P .any ops Q (Hp h) (Frn h) late free fuel listed a w
  | [], listed, fuel, st, tm, h, ρ, G, hf, ho, hdc, hsz, g, k, a, w, ha, hw => by
    simp only [ordOkP, Bool.and_eq_true] at ho
    refine (vcOTX_sound hK t listed fuel _ st tm h ρ G (by simpa using hf) (fun j hj => ?_) g k a w ha hw).1 ho.1
    have hjs : j < ops.size := by
      rcases Nat.lt_or_ge j listed.size with h' | h'
      · omega
      · simp [Array.getElem?_eq_none h'] at hj
    have := List.all_eq_true.1 ho.2 j (List.mem_range.2 hjs)
    simp only [hj, Bool.false_or, Bool.and_eq_true, Bool.not_eq_true'] at this
    exact this
  | i :: r, listed, 0, st, tm, h, ρ, G, hf, ho, _, _, g, k, a, w, ha, hw => by simp at hf
  | i :: r, listed, fuel + 1, st, tm, h, ρ, G, hf, ho, hdc, hsz, g, k, a, w, ha, hw => by
    simp only [ordOkP, Bool.and_eq_true, regOk] at ho
    obtain ⟨⟨hfr, b1, b2, b3, _⟩, hds, ho⟩ := ho
    have hr' : i ∈ Region.ready .any ops listed := by simpa using b3
    obtain ⟨_, o, hoj, hdep⟩ := mem_ready.1 hr'
    have hdc' := hdc.set hoj hdep
    have hsz' : (listed.setIfInBounds i true).size = ops.size := by simp [hsz]
    have hdd : ∃ d, o.dst = some d := by
      simp only [dstAt, hoj] at hds
      exact Option.isSome_iff_exists.1 hds
    obtain ⟨d0, hd0⟩ := hdd
    have hf' : r.length + t.depth ≤ fuel := by simp at hf; omega
    have hn : nth ops.toList i = some o := by rw [nth_eq]; simpa using hoj
    simp only [vcPf, hn] at k
    obtain ⟨d, op, ty, pos, af, gu⟩ := o
    simp only at hd0
    subst hd0
    cases gu with
    | some x => exact k.elim
    | none =>
      simp only [vcYF] at k
      cases hy : vcY P T op st.tm [] (fun s => putT nt (some d0) s st.tm st.ob (vcPf P T nt ops K t r)) with
      | none => simp only [hy] at k
      | some p =>
        simp only [hy] at k
        have g0 : Gd c ⟨st.tm, []⟩ tm ⟨h.F, h.w0, []⟩ ρ G := ⟨g.fF, g.fw, g.gF, g.gx, g.fm, g.tm, rfl⟩
        obtain ⟨s, v, q1, q2, q3⟩ := vcY_sound g0 hy k (P := P) (nt := nt) (ty := ty) (pos := pos) (af := af) (gd := none) (d := some d0)
        simp only [putT] at q3
        cases hd : Nat.blt d0 nt
        · rw [hd] at q3; exact q3.elim
        · rw [hd] at q3
          have hrest := vcPf_sound hK t r _ fuel _ _ h ρ G hf' ho hdc' hsz' (g.put (d := d0) q2) q3 _ w (ha.put (by simpa using hd) v) hw
          exact wpAnyX_free hoj (Region.noSelect_spec b1) (fun c a w hq => q.ok c a _ _ w hq) hfr fuel listed a w hdc (Region.free_spec hoj b2) hr' (.inl ⟨rfl, fun w' hw' => q1.out a w' ha hw'⟩) hw.frn hrest
/-- A region that draws: first what reads frozen memory alone, then all orders of the rest. -/
theorem Drw.ofP {i : Nat} {tmT : List (Nat × SV)} {ob : List (Nat × Ob)} (late free : List Nat) (r : List Nat) (t : OT) (ho : (Nat.ble (r.length + t.depth) ops.size && ordOkP ops late free t (Array.replicate ops.size false) r) = true) (k : vcPf P T nt ops K t r tmT ob) : Drw P nt i ops K tmT ob :=
  ⟨fun c tm h ρ G g Q q hK => ⟨fun a w ha hw => wp_region_any hT.mo (wpAny_of_X (S := Hp h) (S1 := Frn h) (late := late) (free := free) _ _ _ _ (by
    simp only [Bool.and_eq_true, Nat.ble_eq] at ho
    exact vcPf_sound hK t r _ _ ⟨tmT, ob⟩ tm h ρ G ho.1 ho.2 DC.start (by simp) g k a { w with drawn := w.drawn + 1 } ha (hw.drawn _)))⟩⟩
end
end Go.Proofs.YtgloielnnakknaaDoor
namespace Go.Proofs.YtgloielnnakknaaDoor
open Go.RowKit
theorem Ghost.le {tm : List (Nat × SV)} {ob : List (Nat × Ob)} {src : Src} {S : St} (l : LeSt src ⟨tm, ob⟩ S) : Ghost tm ob S.tm S.ob := ⟨fun _ _ _ _ _ w g hw => by
  obtain ⟨h', h1, h2⟩ := g.le l
  exact ⟨h', _, _, h2, h1 w hw⟩⟩
/-- Many ways meet. -/
theorem cutR {ι : Type} (Φ : ι → Prop) (S : ι → St) {G : Prop} (R : Kt) (main : (∀ x, Φ x → R (S x).tm (S x).ob) → G) (rest : ∀ x, Φ x → R (S x).tm (S x).ob) : G := main rest
theorem Gs.cut {ι : Type} {Φ : ι → Prop} {S : ι → St} {R X : Kt} {i : Nat} {tm : List (Nat × SV)} {ob : List (Nat × Ob)} (hR : ∀ x, Φ x → R (S x).tm (S x).ob) (x : ι) (src : Src) (hX : X = R) (l : LeSt src ⟨tm, ob⟩ (S x)) (hx : Φ x) : Gs i X tm ob := .go (Ghost.le l) (by rw [hX]; exact hR x hx)
theorem Drw.cut {P : Program} {nt i : Nat} {ops : Array Oper} {K : Kt} {ι : Type} {Φ : ι → Prop} {S : ι → St} {R : Kt} {tm : List (Nat × SV)} {ob : List (Nat × Ob)} (hR : ∀ x, Φ x → R (S x).tm (S x).ob) (x : ι) (src : Src) (hX : Drw P nt i ops K = R) (l : LeSt src ⟨tm, ob⟩ (S x)) (hx : Φ x) : Drw P nt i ops K tm ob := .ghost (Ghost.le l) (by have := hR x hx; rw [← hX] at this; exact this)
section
variable {P : Program} {T : List (Nat × Ty)} [hT : Tys P T] {nt : Nat} {Q : Exit → Act → World → Prop} {ty : TypeId} {pos : String} {af : Array Edge} {gd : Option (Nat × Bool)} {K : Kt}
/-- A new own map. -/
theorem makeMap_sound {c : Cx} {st : St} {tm : List (Nat × Value)} {h : Hs} {ρ : Rho} {G : FG} (g : Gd c st tm h ρ G) {t d : Nat} {r : Option Operand} {kg vg : Bool} (hr : r = none ∨ ∃ y q n ti kt et, r = some y ∧ evT st.tm y = some (.d (.u (.int q n))) ∧ lk t T = some ti ∧ ti.k = .mp kt et) (hd : Nat.blt d nt = true) (hn : newN d st.tm st.ob = true) (k : K ((d, .d (.mp d)) :: st.tm) ((d, .mp kg vg []) :: st.ob)) : OpS P nt Q ⟨some d, .makeMap t r, ty, pos, af, gd⟩ tm h (Kk h c K) := by
  obtain ⟨F, w0, hp⟩ := h
  refine .of_run hd fun a w ha hw => ?_
  have hb : HasB (w.alloc (.map #[] 0)) w.heap.size ⟨0, [], .m []⟩ := ⟨rfl, #[], 0, by rw [heap_alloc_new], rfl⟩
  have hw' : Hp ⟨F, w0, (w.heap.size, ⟨0, [], .m []⟩) :: hp⟩ (w.alloc (.map #[] 0)) := hw.add ((Below.refl _ _).alloc (Nat.le_refl _) _) (Nat.le_refl _) hb
  have hob : ObOk (upd ρ d ⟨some ⟨w.heap.size, 0, none⟩, 1, 0⟩) ⟨G, w0⟩ d (.mp kg vg []) [(w.heap.size, ⟨0, [], .m []⟩)] := ⟨_, _, rfl, upd_self, rfl, fun j e p h1 _ => by simp at h1⟩
  refine ⟨.map (some w.heap.size), _, _, ?_, hw', .of (fun w' hw' => hw'.sub (List.sublist_cons_self _ _)) ((g.new hn hob).put (.d (.mp (l := ⟨some ⟨w.heap.size, 0, none⟩, 1, 0⟩) upd_self rfl))) k⟩
  rcases hr with rfl | ⟨y, q, n, ti, kt, et, rfl, hy, ht, hk⟩
  · simp [execOp, Instr.makeMap, newObj, Sem.run]
  · have hund : P.underlying t = some (.map kt et) := by have := (hT.ok t ti ht).kind; rw [hk] at this; exact this
    simp [execOp, Instr.makeMap, newObj, Sem.run, ha.ev (evT_int g hy), run_underlying hund, asInt, asIntOf]
theorem Raw.makeMap {t d : Nat} {r : Option Operand} {kt et : TypeId} {i ik ie : Ty} {kg vg : Bool} {tmT : List (Nat × SV)} {ob : List (Nat × Ob)} (ht : lk t T = some i) (hk : i.k = .mp kt et) (hkt : lk kt T = some ik) (het : lk et T = some ie) (hkg : ik.k.agg = kg) (hvg : ie.k.agg = vg) (hr : r = none ∨ ∃ y q n, r = some y ∧ evT tmT y = some (.d (.u (.int q n)))) (hd : Nat.blt d nt = true) (hn : newN d tmT ob = true) (k : K ((d, .d (.mp d)) :: tmT) ((d, .mp kg vg []) :: ob)) : Raw P nt ⟨some d, .makeMap t r, ty, pos, af, gd⟩ tmT ob K := ⟨fun Q c tm h ρ G g =>
  (makeMap_sound (T := T) (st := ⟨tmT, ob⟩) g (by
    rcases hr with h | ⟨y, q, n, h1, h2⟩
    · exact .inl h
    · exact .inr ⟨y, q, n, i, kt, et, h1, h2, ht, hk⟩) hd hn k).mono fun _ _ h => h.kd⟩
theorem sameBits_T {z : Fz} {kk : Tk} {x y : V} {u v : Value} (hx : keyC kk x = true) (hy : keyC kk y = true) (he : eqC x y = true) (h1 : DenV z x u) (h2 : DenV z y v) : Instr.sameBits 10000 v u = true := by
  cases kk <;> simp only [keyC] at hx <;> try cases hx
  · cases x <;> simp only [keyC] at hx <;> try cases hx
    cases y <;> simp only [keyC] at hy <;> try cases hy
    have e1 := ikEqT_eq hx
    have e2 := ikEqT_eq hy
    subst e1 e2
    cases h1; cases h2
    simp only [eqC, decide_eq_true_eq] at he
    subst he
    simp [Instr.sameBits]
  · cases x <;> simp only [keyC] at hx <;> try cases hx
    cases y <;> simp only [keyC] at hy <;> try cases hy
    cases h1; cases h2
    simp only [eqC, beq_iff_eq] at he
    subst he
    simp [Instr.sameBits]
  · cases x <;> simp only [keyC] at hx <;> try cases hx
    cases y <;> simp only [keyC] at hy <;> try cases hy
    cases h1; cases h2
    simp only [eqC, decide_eq_true_eq] at he
    subst he
    simp [Instr.sameBits, bytesT_beq]
/-- An entry is put into an own map. -/
theorem mapUpdate_run {z : Fz} {w : World} {b t kt et : Nat} {i ik : Ty} {vg : Bool} {es : List (List V × List V)} {vs : List (Value × Value)} {y : V} {row : List V} {u v : Value} (ht : lk t T = some i) (hk : i.k = .mp kt et) (hkt : lk kt T = some ik) (hw : HasB w b ⟨0, [], .m vs⟩) (he : EntsOk z false vg es vs) (hy : keyC ik.k y = true) (hu : DenV z y u) (hv : DenW z vg row v) (hok : ∀ e ∈ es, keyT ik.k e.1 = true) :
    ∃ w' vs', (Instr.mapUpdate t (.map (some b)) u v).run P w = .ok () w' ∧ Same (· ≠ b) w w' ∧ HasB w' b ⟨0, [], .m vs'⟩ ∧ EntsOk z false vg (mputT es [y] row) vs' := by
  obtain ⟨dd, hdd, hchk⟩ := keyC_und (hT.ok kt ik hkt) hy
  have hund : P.underlying t = some (.map kt et) := by have := (hT.ok t i ht).kind; rw [hk] at this; exact this
  obtain ⟨_, arr, clock, q1, q2⟩ := hw
  have hlen : arr.toList.length = es.length := by rw [← he.len, ← q2, List.length_map]
  have hfind := findNow_T (hT.ok kt ik hkt) hdd hy hu es arr.toList 0 hlen (fun j e m h1 h2 => (he.den j e (m.key, m.val) h1 (by rw [← q2, List.getElem?_map, h2]; rfl)).1) hok
  obtain ⟨m1, m2, m3, m4⟩ := mixT_get (x := [y]) es
  have hlt : b < w.heap.size := by
    rcases Nat.lt_or_ge b w.heap.size with h | h
    · exact h
    · rw [Array.getElem?_eq_none h] at q1; cases q1
  have key : ∀ (o : Obj), Same (· ≠ b) w { w with heap := w.heap.setIfInBounds b o } := fun o =>
    ⟨rfl, rfl, rfl, by simp, fun j hj => by simp only; rw [Array.getElem?_setIfInBounds_ne]; exact fun e => hj e.symm⟩
  cases hj : mixT es [y] with
  | none =>
    rw [hj] at hfind
    refine ⟨_, vs ++ [(u, v)], by simp [Instr.mapUpdate, run_underlying hund, run_underlying hdd, getObj, setObj, Sem.run, q1, hchk, Instr.findKey, hfind]; rfl, key _, ⟨rfl, arr.push { key := u, val := v, born := clock }, clock + 1, by simp [hlt], by simp [q2]⟩, ?_⟩
    rw [m4, hj]
    refine ⟨by simp [he.len], fun j e p h1 h2 => ?_⟩
    rcases Nat.lt_or_ge j es.length with hlt' | hge
    · rw [List.getElem?_append_left hlt'] at h1
      rw [List.getElem?_append_left (by rw [he.len]; exact hlt')] at h2
      exact he.den j e p h1 h2
    · rw [List.getElem?_append_right hge] at h1
      rw [List.getElem?_append_right (by rw [he.len]; exact hge), he.len] at h2
      rcases hjj : j - es.length with _ | n
      · rw [hjj] at h1 h2; simp at h1 h2; subst h1 h2; exact ⟨⟨y, rfl, hu⟩, hv⟩
      · rw [hjj] at h1; simp at h1
  | some j =>
    rw [hj] at hfind
    have hjl := m3 j hj
    obtain ⟨e, he1⟩ : ∃ e, es[j]? = some e := ⟨_, List.getElem?_eq_getElem hjl⟩
    obtain ⟨m, hm1⟩ : ∃ m, arr.toList[j]? = some m := ⟨_, List.getElem?_eq_getElem (by rw [hlen]; exact hjl)⟩
    have hm2 : arr[j]? = some m := by rw [← Array.getElem?_toList]; exact hm1
    have hp1 : vs[j]? = some (m.key, m.val) := by rw [← q2, List.getElem?_map, hm1]; rfl
    have hden := (he.den j e _ he1 hp1).1
    obtain ⟨y', e1, e2⟩ := hden
    obtain ⟨y'', e3, e4⟩ := keyT_one (hok e (List.mem_of_getElem? he1))
    rw [e1] at e3
    injection e3 with e3 _; subst e3
    have heq : eqC y y' = true := by
      have : ∀ (es : List (List V × List V)) (j : Nat) e, mixT es [y] = some j → es[j]? = some e → eqCs [y] e.1 = true := by
        intro es
        induction es with
        | nil => intro j e h; cases h
        | cons a r ih =>
          intro j e h h'
          simp only [mixT] at h
          cases hq : eqCs [y] a.1 <;> rw [hq] at h
          · simp only [cond_false] at h
            cases hr : mixT r [y] with
            | none => rw [hr] at h; cases h
            | some n => rw [hr] at h; simp only [Option.some.injEq] at h; subst h; exact ih n e hr (by simpa using h')
          · simp only [cond_true, Option.some.injEq] at h
            subst h
            simp at h'
            subst h'
            exact hq
      have := this es j e hj he1
      rw [e1, eqCs_one] at this
      exact this
    have hsb : Instr.sameBits 10000 m.key u = true := sameBits_T hy e4 heq hu e2
    simp only [hm1, Option.map_some] at hfind
    refine ⟨_, vs.set j (u, v), by simp [Instr.mapUpdate, run_underlying hund, run_underlying hdd, getObj, setObj, Sem.run, q1, hchk, Instr.findKey, hfind, hm2, Instr.keyThatStays, hsb]; rfl, key _, ⟨rfl, arr.modify j fun e => { e with key := u, val := v }, clock, by simp [hlt], ?_⟩, ?_⟩
    · rw [← q2]
      apply List.ext_getElem?
      intro n
      simp only [List.getElem?_map, Array.getElem?_toList, Array.getElem?_modify, List.getElem?_set, List.length_map, Array.length_toList]
      by_cases hn : j = n
      · subst hn
        have : j < arr.size := by rw [← Array.length_toList, hlen]; exact hjl
        simp [hm2, this]
      · simp [hn]
    · rw [m4, hj]
      refine ⟨by simp [he.len], fun n e' p h1 h2 => ?_⟩
      simp only [List.getElem?_set] at h1 h2
      by_cases hn : j = n
      · subst hn
        have h3 : j < vs.length := by rw [he.len]; exact hjl
        simp [hjl] at h1
        simp [h3] at h2
        subst h1 h2
        exact ⟨⟨y, rfl, hu⟩, hv⟩
      · simp only [hn, if_false] at h1 h2
        exact he.den n e' p h1 h2
omit hT in
theorem denW_of {ρ : Rho} {z : Fz} {s : SV} {cs : List D} {vs : List V} {v : Value} (h : DenS ρ z s v) (hc : cellsOfT s = some cs) (hb : borL [] cs = some vs) : DenW z (aggS s) vs v := by
  cases h with
  | d h =>
    simp only [cellsOfT, Option.some.injEq] at hc
    subst hc
    have := borL_nil_den (z := z) hb (DenL.one_ h)
    have hl := this.len
    match vs, hl with
    | [x], _ => exact ⟨x, rfl, this.den 0 x v rfl rfl⟩
  | a h =>
    simp only [cellsOfT, Option.some.injEq] at hc
    subst hc
    exact ⟨_, rfl, borL_nil_den hb h⟩
  | t _ _ => simp [cellsOfT] at hc
theorem mapUpdate_sound {o : Op} {c : Cx} {st : St} {tm : List (Nat × Value)} {h : Hs} {ρ : Rho} {G : FG} (g : Gd c st tm h ρ G) {t kt et k : Nat} {x ix y : Operand} {i ik : Ty} {vg : Bool} {es : List (List V × List V)} {key : V} {sy : SV} {cs : List D} {vs : List V} (ho : o = .mapUpdate t x ix y ∨ o = .insert t x ix y) (ht : lk t T = some i) (hk : i.k = .mp kt et) (hkt : lk kt T = some ik) (hx : evT st.tm x = some (.d (.mp k))) (hko : lk k st.ob = some (.mp false vg es)) (hix : evT st.tm ix = some (.d (.u key))) (hy : evT st.tm y = some sy) (hc : cellsOfT sy = some cs) (hb : borL [] cs = some vs) (hg : aggS sy = vg) (hkey : keyC ik.k key = true) (hok : ∀ e ∈ es, keyT ik.k e.1 = true) (kk : K st.tm (obu k (.mp false vg (mputT es [key] vs)) st.ob)) : OpS P nt Q ⟨none, o, ty, pos, af, gd⟩ tm h (Kd c K) := by
  obtain ⟨F, w0, hp⟩ := h
  obtain ⟨vx, x1, x2⟩ := g.ev hx
  obtain ⟨vi, i1, i2⟩ := g.ev hix
  obtain ⟨vy, y1, y2⟩ := g.ev hy
  cases x2 with | d x2 => cases i2 with | d i2 => cases i2 with | u i2 =>
  obtain ⟨X, f, o1, o2, o3, _⟩ := g.ob.set hko
  obtain ⟨b, ves, rfl, rfl, m1, m2⟩ := o1.map o2 x2
  have hdv := denW_of y2 hc hb
  rw [hg] at hdv
  have hloc : ρ k = some ⟨some ⟨b, 0, none⟩, 1, 0⟩ := by
    obtain ⟨b', vs', e1, e2, _⟩ := o1
    injection e1 with e1 _; injection e1 with e1 _; subst e1; exact e2
  exact ⟨fun a w ha hw => by
    obtain ⟨w', vs', r1, r2, r3, r4⟩ := mapUpdate_run (P := P) (T := T) ht hk hkt (hw.blk b _ m1) m2 hkey i2 hdv hok
    have hrun : (execOp a.eval ⟨none, o, ty, pos, af, gd⟩).run P w = .ok .skip w' := by
      rcases ho with rfl | rfl <;> simp [execOp, ha.ev x1, ha.ev i1, ha.ev y1, r1]
    unfold Oper.wp
    rw [hrun]
    exact ⟨tm, _, ha, hw.upd (o2.updB rfl) r2 r3, .of (st := ⟨st.tm, obu k (.mp false vg (mputT es [key] vs)) st.ob⟩) ⟨g.fF, g.fw, g.gF, g.gx, g.fm, g.tm, o3 (.mp false vg _) _ ⟨b, vs', rfl, hloc, r4⟩⟩ kk⟩⟩
theorem Raw.mapUpdate {o : Op} {t kt et k : Nat} {x ix y : Operand} {i ik : Ty} {vg : Bool} {es : List (List V × List V)} {key : V} {sy : SV} {cs : List D} {vs : List V} {tmT : List (Nat × SV)} {ob : List (Nat × Ob)} (ho : o = .mapUpdate t x ix y ∨ o = .insert t x ix y) (ht : lk t T = some i) (hk : i.k = .mp kt et) (hkt : lk kt T = some ik) (hx : evT tmT x = some (.d (.mp k))) (hko : lk k ob = some (.mp false vg es)) (hix : evT tmT ix = some (.d (.u key))) (hy : evT tmT y = some sy) (hc : cellsOfT sy = some cs) (hb : borL [] cs = some vs) (hg : aggS sy = vg) (hkey : keyC ik.k key = true) (hok : ∀ e ∈ es, keyT ik.k e.1 = true) (kk : K tmT (obu k (.mp false vg (mputT es [key] vs)) ob)) : Raw P nt ⟨none, o, ty, pos, af, gd⟩ tmT ob K :=
  ⟨fun Q c tm h ρ G g => mapUpdate_sound (T := T) (st := ⟨tmT, ob⟩) g ho ht hk hkt hx hko hix hy hc hb hg hkey hok kk⟩
/-- A store into a row of an array that a member of a family owns. -/
theorem Raw.storeRe {x y : Operand} {t : TypeId} {k m o j off u e sz : Nat} {rs : List (List E)} {row : List E} {rr : List (List V)} {r2 : List V} {sy : SV} {xs : List D} {ys : List V} {i : Ty} {tmT : List (Nat × SV)} {ob : List (Nat × Ob)} (hx : evT tmT x = some (.d (D.re k m o j off))) (hk : lk k ob = some (.fm u rs)) (h1 : famOne k ob = true) (hy : evT tmT y = some sy) (hc : cellsOfT sy = some xs) (hb : borL [] xs = some ys) (ht : lk t T = some i) (hsz : xs.length = i.size) (hr : rs[m]? = some row) (ho : row[o]? = some (.os e sz rr)) (hr2 : rr[j]? = some r2) (hle : off + ys.length ≤ sz)
    (kk : K (dropT k tmT) (dropO k (obu k (.fm u (rs.set m (row.set o (.os e sz (rr.set j (r2.take off ++ ys ++ r2.drop (off + ys.length))))))) ob))) : Raw P nt ⟨none, .store t x y, ty, pos, af, gd⟩ tmT ob K := ⟨fun Q c tm h ρ G g => by
  obtain ⟨F, w0, hp⟩ := h
  obtain ⟨vy, y1, y2⟩ := g.ev hy
  have hv := cellsOfT_den hc y2
  have hv' := borL_nil_den hb hv
  obtain ⟨p, r1, r2'⟩ := g.ev hx
  cases r2' with | d r2' => cases r2' with | @re _ _ _ _ _ b1 c1 sz1 x0 =>
  have hmem : ∃ b, (G.fam k)[m]? = some b := by
    obtain ⟨Y, f, ⟨a1, _⟩, _⟩ := g.ob.at_ hk
    obtain ⟨b, _, _, _, a2, _⟩ := a1.split hr
    exact ⟨b, a2⟩
  obtain ⟨b0, hb0⟩ := hmem
  obtain ⟨b, us, Xe, rest, _, hlt, hone, ⟨u0, hu0, A', cc', us1, rfl, rfl, t3, t4, t5, t6⟩, p1, _, p3⟩ := g.famPut (e' := .os e sz (rr.set j (r2.take off ++ ys ++ r2.drop (off + ys.length)))) (v := .slice (some ⟨b1, 0, none⟩) rr.length c1) (p := .pointer (some ⟨b0, o, none⟩)) hk h1 (.m hb0) hr ho
  rw [x0] at t3
  injection t3 with t3
  injection t3 with e1 e2 e3
  subst e1 e2 e3
  have hrl : r2.length = sz1 := t6 r2 (List.mem_of_getElem? hr2)
  have hfl := flat_len t6
  have hm : j < rr.length := (List.getElem?_eq_some_iff.1 hr2).1
  have hin : j * sz1 + off + ys.length ≤ rr.flatten.length := by
    rw [hfl]
    have : (j + 1) * sz1 ≤ rr.length * sz1 := Nat.mul_le_mul_right _ hm
    rw [Nat.succ_mul] at this; omega
  have hmid : DenVL ⟨G, w0⟩ (rr.set j (r2.take off ++ ys ++ r2.drop (off + ys.length))).flatten (spl us1 (j * sz1 + off) (vcells vy)) := by
    rw [flat_mid t6 hr2 hle]
    exact t5.mid hv' hin
  have hlen : (rr.set j (r2.take off ++ ys ++ r2.drop (off + ys.length))).length = rr.length := by simp
  have hset : us.set o (.slice (some ⟨b1, 0, none⟩) rr.length c1) = us := by
    apply List.ext_getElem?
    intro jj
    rw [List.getElem?_set]
    split
    · rename_i ej; subst ej
      first | (rw [if_pos hlt, hu0]; done) | exact hu0.symm | (simp only [hlt, if_true]; exact hu0.symm)
    · rfl
  obtain ⟨hq, z1, z2⟩ := p3 (some ⟨some ⟨b1, 0, none⟩, c1, sz1⟩) (hbA (some ⟨b1, 0, none⟩) e (spl us1 (j * sz1 + off) (vcells vy)) c1 sz1) ⟨some ⟨b1, 0, none⟩, c1, _, rfl, by rw [hlen], by simp [updOs], by rw [hlen]; exact ⟨.inr ⟨b1, rfl⟩, by rw [spl_length]; exact t4.len, t4.cap, t4.max⟩, hmid, fun r hr0 => by
    rcases List.mem_or_eq_of_mem_set hr0 with q | q
    · exact t6 r q
    · subst q; simp; omega⟩
  rw [hset] at z1
  have pp : hp.Perm ((b1, ⟨e, us1, c1 * sz1⟩) :: ((b, ⟨u, us, us.length⟩) :: rest)) := by
    rw [hbA_some] at p1
    exact p1.trans (List.Perm.swap _ _ _)
  have pp' : ((b1, (⟨e, spl us1 (j * sz1 + off) (vcells vy), c1 * sz1⟩ : Hb)) :: ((b, ⟨u, us, us.length⟩) :: rest)).Perm hq := by
    rw [hbA_some] at z1
    exact (List.Perm.swap _ _ _).trans z1.symm
  refine OpS.wk (fun w hw => hw.perm pp) ?_
  refine OpS.store (z := ⟨e, us1, c1 * sz1⟩) r1 y1 ht .here (by rw [hv.len]; exact hsz) hv.one (by rw [← hsz, ← hv.len, hv'.len]; simp only [t5.len]; rw [Nat.ble_eq]; exact hin) rfl ?_
  exact ⟨⟨_, _⟩, _, G, ⟨F, w0, hq⟩, fun w hw => hw.perm pp', z2, kk⟩⟩
end
end Go.Proofs.YtgloielnnakknaaDoor
namespace Go.Proofs.YtgloielnnakknaaDoor
open Go.RowKit

def tt : List (Nat × Ty) := [
  (1, ⟨.ot, 1, 8, [.nilFunc]⟩),
  (2, ⟨.in_ .i64, 1, 8, [.int .i64 0]⟩),
  (3, ⟨.in_ .i64, 1, 8, [.int .i64 0]⟩),
  (4, ⟨.bo, 1, 1, [.bool false]⟩),
  (5, ⟨.in_ .u8, 1, 1, [.int .u8 0]⟩),
  (6, ⟨.in_ .u8, 1, 1, [.int .u8 0]⟩),
  (7, ⟨.st [(0, 2), (1, 3), (2, 4), (3, 6)], 4, 24, [.int .i64 0, .int .i64 0, .bool false, .int .u8 0]⟩),
  (8, ⟨.st [(0, 2), (1, 3), (2, 4), (3, 6)], 4, 24, [.int .i64 0, .int .i64 0, .bool false, .int .u8 0]⟩),
  (9, ⟨.sr, 1, 16, [.string ⟨#[]⟩]⟩),
  (10, ⟨.sr, 1, 16, [.string ⟨#[]⟩]⟩),
  (11, ⟨.sr, 1, 16, [.string ⟨#[]⟩]⟩),
  (12, ⟨.in_ .u64, 1, 8, [.int .u64 0]⟩),
  (13, ⟨.st [(0, 9), (1, 12)], 2, 24, [.string ⟨#[]⟩, .int .u64 0]⟩),
  (14, ⟨.st [(0, 9), (1, 12)], 2, 24, [.string ⟨#[]⟩, .int .u64 0]⟩),
  (15, ⟨.pt 133, 1, 8, [.pointer none]⟩),
  (16, ⟨.pt 136, 1, 8, [.pointer none]⟩),
  (17, ⟨.pt 143, 1, 8, [.pointer none]⟩),
  (18, ⟨.st [(0, 17)], 1, 8, [.pointer none]⟩),
  (19, ⟨.st [(0, 17)], 1, 8, [.pointer none]⟩),
  (20, ⟨.ot, 1, 16, [.nilIface]⟩),
  (21, ⟨.in_ .i32, 1, 4, [.int .i32 0]⟩),
  (22, ⟨.sl 9, 1, 24, [.slice none 0 0]⟩),
  (23, ⟨.st [(0, 3), (1, 3)], 2, 16, [.int .i64 0, .int .i64 0]⟩),
  (24, ⟨.st [(0, 3), (1, 3)], 2, 16, [.int .i64 0, .int .i64 0]⟩),
  (26, ⟨.ot, 1, 8, [.nilFunc]⟩),
  (27, ⟨.ot, 1, 8, [.nilFunc]⟩),
  (28, ⟨.ot, 1, 8, [.nilFunc]⟩),
  (29, ⟨.ot, 1, 8, [.nilFunc]⟩),
  (30, ⟨.ot, 1, 8, [.nilFunc]⟩),
  (31, ⟨.ot, 1, 8, [.nilFunc]⟩),
  (32, ⟨.sl 49, 1, 24, [.slice none 0 0]⟩),
  (33, ⟨.sl 43, 1, 24, [.slice none 0 0]⟩),
  (35, ⟨.ot, 1, 8, [.nilFunc]⟩),
  (36, ⟨.ot, 1, 8, [.nilFunc]⟩),
  (37, ⟨.sl 69, 1, 24, [.slice none 0 0]⟩),
  (38, ⟨.st [(0, 32), (1, 37), (2, 33), (3, 4)], 4, 80, [.slice none 0 0, .slice none 0 0, .slice none 0 0, .bool false]⟩),
  (39, ⟨.st [(0, 32), (1, 37), (2, 33), (3, 4)], 4, 80, [.slice none 0 0, .slice none 0 0, .slice none 0 0, .bool false]⟩),
  (41, ⟨.ot, 1, 8, [.nilFunc]⟩),
  (42, ⟨.st [(0, 3), (1, 9)], 2, 24, [.int .i64 0, .string ⟨#[]⟩]⟩),
  (43, ⟨.st [(0, 3), (1, 9)], 2, 24, [.int .i64 0, .string ⟨#[]⟩]⟩),
  (44, ⟨.ot, 1, 8, [.nilFunc]⟩),
  (45, ⟨.ot, 1, 8, [.nilFunc]⟩),
  (46, ⟨.ot, 1, 8, [.nilFunc]⟩),
  (47, ⟨.sl 51, 1, 24, [.slice none 0 0]⟩),
  (48, ⟨.st [(0, 9), (1, 47)], 2, 40, [.string ⟨#[]⟩, .slice none 0 0]⟩),
  (49, ⟨.st [(0, 9), (1, 47)], 2, 40, [.string ⟨#[]⟩, .slice none 0 0]⟩),
  (50, ⟨.st [(0, 3), (1, 9), (2, 9)], 3, 40, [.int .i64 0, .string ⟨#[]⟩, .string ⟨#[]⟩]⟩),
  (51, ⟨.st [(0, 3), (1, 9), (2, 9)], 3, 40, [.int .i64 0, .string ⟨#[]⟩, .string ⟨#[]⟩]⟩),
  (52, ⟨.ot, 1, 8, [.nilFunc]⟩),
  (53, ⟨.ot, 1, 8, [.nilFunc]⟩),
  (54, ⟨.ot, 1, 8, [.nilFunc]⟩),
  (55, ⟨.ot, 1, 8, [.nilFunc]⟩),
  (56, ⟨.ot, 1, 8, [.nilFunc]⟩),
  (57, ⟨.pt 63, 1, 8, [.pointer none]⟩),
  (59, ⟨.ot, 1, 8, [.nilFunc]⟩),
  (60, ⟨.mp 9 49, 1, 8, [.map none]⟩),
  (61, ⟨.sl 71, 1, 24, [.slice none 0 0]⟩),
  (62, ⟨.st [(0, 60), (1, 61), (2, 33), (3, 4)], 4, 64, [.map none, .slice none 0 0, .slice none 0 0, .bool false]⟩),
  (63, ⟨.st [(0, 60), (1, 61), (2, 33), (3, 4)], 4, 64, [.map none, .slice none 0 0, .slice none 0 0, .bool false]⟩),
  (64, ⟨.ot, 1, 8, [.nilFunc]⟩),
  (65, ⟨.ot, 1, 8, [.nilFunc]⟩),
  (66, ⟨.mp 9 4, 1, 8, [.map none]⟩),
  (67, ⟨.sl 3, 1, 24, [.slice none 0 0]⟩),
  (68, ⟨.st [(0, 9), (1, 3), (2, 4), (3, 22), (4, 67)], 5, 80, [.string ⟨#[]⟩, .int .i64 0, .bool false, .slice none 0 0, .slice none 0 0]⟩),
  (69, ⟨.st [(0, 9), (1, 3), (2, 4), (3, 22), (4, 67)], 5, 80, [.string ⟨#[]⟩, .int .i64 0, .bool false, .slice none 0 0, .slice none 0 0]⟩),
  (70, ⟨.ot, 1, 8, [.nilFunc]⟩),
  (71, ⟨.pt 82, 1, 8, [.pointer none]⟩),
  (72, ⟨.pt 75, 1, 8, [.pointer none]⟩),
  (73, ⟨.sl 5, 1, 24, [.slice none 0 0]⟩),
  (74, ⟨.st [(0, 72), (1, 73)], 2, 32, [.pointer none, .slice none 0 0]⟩),
  (75, ⟨.st [(0, 72), (1, 73)], 2, 32, [.pointer none, .slice none 0 0]⟩),
  (76, ⟨.ot, 1, 16, [.nilIface]⟩),
  (77, ⟨.ot, 1, 16, [.nilIface]⟩),
  (79, ⟨.ot, 1, 8, [.nilFunc]⟩),
  (80, ⟨.sl 84, 1, 24, [.slice none 0 0]⟩),
  (81, ⟨.st [(0, 9), (1, 3), (2, 80)], 3, 48, [.string ⟨#[]⟩, .int .i64 0, .slice none 0 0]⟩),
  (82, ⟨.st [(0, 9), (1, 3), (2, 80)], 3, 48, [.string ⟨#[]⟩, .int .i64 0, .slice none 0 0]⟩),
  (83, ⟨.st [(0, 9), (1, 71)], 2, 24, [.string ⟨#[]⟩, .pointer none]⟩),
  (84, ⟨.st [(0, 9), (1, 71)], 2, 24, [.string ⟨#[]⟩, .pointer none]⟩),
  (85, ⟨.ot, 1, 8, [.nilFunc]⟩),
  (86, ⟨.ot, 1, 8, [.nilFunc]⟩),
  (87, ⟨.ot, 1, 8, [.nilFunc]⟩),
  (88, ⟨.ot, 1, 8, [.nilFunc]⟩),
  (89, ⟨.ot, 1, 8, [.nilFunc]⟩),
  (90, ⟨.ot, 1, 8, [.nilFunc]⟩),
  (91, ⟨.ot, 1, 8, [.nilFunc]⟩),
  (92, ⟨.ot, 1, 8, [.nilFunc]⟩),
  (93, ⟨.ot, 1, 8, [.nilFunc]⟩),
  (94, ⟨.pt 5, 1, 8, [.pointer none]⟩),
  (95, ⟨.ot, 1, 8, [.nilFunc]⟩),
  (96, ⟨.ot, 1, 8, [.nilFunc]⟩),
  (97, ⟨.ot, 1, 8, [.nilFunc]⟩),
  (98, ⟨.ot, 1, 8, [.nilFunc]⟩),
  (99, ⟨.ot, 1, 8, [.nilFunc]⟩),
  (100, ⟨.ot, 1, 8, [.nilFunc]⟩),
  (101, ⟨.ot, 1, 8, [.nilFunc]⟩),
  (102, ⟨.ot, 1, 8, [.nilFunc]⟩),
  (103, ⟨.ot, 1, 8, [.nilFunc]⟩),
  (105, ⟨.ot, 1, 8, [.nilFunc]⟩),
  (106, ⟨.ot, 1, 8, [.nilFunc]⟩),
  (107, ⟨.ot, 1, 8, [.nilFunc]⟩),
  (108, ⟨.ot, 1, 8, [.nilFunc]⟩),
  (109, ⟨.ot, 1, 8, [.nilFunc]⟩),
  (110, ⟨.ot, 1, 8, [.nilFunc]⟩),
  (111, ⟨.ot, 1, 8, [.nilFunc]⟩),
  (113, ⟨.ot, 1, 8, [.nilFunc]⟩),
  (116, ⟨.ot, 1, 8, [.nilFunc]⟩),
  (117, ⟨.ot, 1, 8, [.nilFunc]⟩),
  (118, ⟨.ot, 1, 8, [.nilFunc]⟩),
  (119, ⟨.ot, 1, 8, [.nilFunc]⟩),
  (120, ⟨.ot, 1, 8, [.nilFunc]⟩),
  (121, ⟨.ot, 1, 8, [.nilFunc]⟩),
  (122, ⟨.ot, 1, 8, [.nilFunc]⟩),
  (123, ⟨.in_ .u64, 1, 8, [.int .u64 0]⟩),
  (124, ⟨.ot, 1, 8, [.nilFunc]⟩),
  (126, ⟨.st [(0, 5), (1, 5)], 2, 2, [.int .u8 0, .int .u8 0]⟩),
  (127, ⟨.st [(0, 5), (1, 5)], 2, 2, [.int .u8 0, .int .u8 0]⟩),
  (128, ⟨.ar 16 127, 32, 32, [.int .u8 0, .int .u8 0, .int .u8 0, .int .u8 0, .int .u8 0, .int .u8 0, .int .u8 0, .int .u8 0, .int .u8 0, .int .u8 0, .int .u8 0, .int .u8 0, .int .u8 0, .int .u8 0, .int .u8 0, .int .u8 0, .int .u8 0, .int .u8 0, .int .u8 0, .int .u8 0, .int .u8 0, .int .u8 0, .int .u8 0, .int .u8 0, .int .u8 0, .int .u8 0, .int .u8 0, .int .u8 0, .int .u8 0, .int .u8 0, .int .u8 0, .int .u8 0]⟩),
  (129, ⟨.in_ .u32, 1, 4, [.int .u32 0]⟩),
  (131, ⟨.ot, 1, 8, [.nilFunc]⟩),
  (132, ⟨.st [(0, 17), (1, 17), (2, 17), (3, 9)], 4, 40, [.pointer none, .pointer none, .pointer none, .string ⟨#[]⟩]⟩),
  (133, ⟨.st [(0, 17), (1, 17), (2, 17), (3, 9)], 4, 40, [.pointer none, .pointer none, .pointer none, .string ⟨#[]⟩]⟩),
  (134, ⟨.ar 0 16, 0, 0, []⟩),
  (135, ⟨.st [(0, 134)], 0, 0, []⟩),
  (136, ⟨.st [(0, 134)], 0, 0, []⟩),
  (137, ⟨.in_ .u8, 1, 1, [.int .u8 0]⟩),
  (138, ⟨.in_ .u8, 1, 1, [.int .u8 0]⟩),
  (139, ⟨.ot, 1, 8, [.nilFunc]⟩),
  (140, ⟨.in_ .i32, 1, 4, [.int .i32 0]⟩),
  (141, ⟨.in_ .i32, 1, 4, [.int .i32 0]⟩),
  (142, ⟨.st [(0, 12), (1, 12), (2, 129), (3, 137), (4, 5), (5, 5), (6, 138), (7, 139), (8, 94), (9, 140), (10, 141)], 11, 48, [.int .u64 0, .int .u64 0, .int .u32 0, .int .u8 0, .int .u8 0, .int .u8 0, .int .u8 0, .nilFunc, .pointer none, .int .i32 0, .int .i32 0]⟩),
  (143, ⟨.st [(0, 12), (1, 12), (2, 129), (3, 137), (4, 5), (5, 5), (6, 138), (7, 139), (8, 94), (9, 140), (10, 141)], 11, 48, [.int .u64 0, .int .u64 0, .int .u32 0, .int .u8 0, .int .u8 0, .int .u8 0, .int .u8 0, .nilFunc, .pointer none, .int .i32 0, .int .i32 0]⟩)]
instance tys : Tys Tryd.prog tt := tys_of (by kernel_rfl) (by kernel_rfl)
end Go.Proofs.YtgloielnnakknaaDoor
namespace Go.Proofs.YtgloielnnakknaaDoor
open Go.RowKit
abbrev di (n : Int) : SV := .d (.u (.int .i64 n))
abbrev db (b : Bool) : SV := .d (.u (.bool b))
abbrev dby (n : Int) : SV := .d (.u (.int .u8 n))
abbrev dsr (s : ByteArray) : SV := .d (.u (.str s))
end Go.Proofs.YtgloielnnakknaaDoor
namespace Go.Proofs.YtgloielnnakknaaDoor
open Go.RowKit
def digB (c : Int) : Bool := decide (48 ≤ c) && decide (c ≤ 57)
theorem digit_R (c : Int) : CallsA Tryd.prog 35 [dby c] [] (Is (db (digB c))) := by
  by_cases h1 : 48 ≤ c
  · have e : digB c = decide (c ≤ 57) := by simp [digB, h1]
    rw [e]
    refine callsA_of_vc (T := tt) Tryd.func35 rfl rfl rfl rfl rfl ?_
    repeat' ((conv => whnf); first | refine Gs.id ?_ | refine Brn.T (by (try simp only [smT]); first | rfl | assumption | fail) ?_ | fail)
    all_goals (conv => whnf)
    all_goals exact Ret.is rfl
  · have e : digB c = false := by simp [digB, h1]
    rw [e]
    refine callsA_of_vc (T := tt) Tryd.func35 rfl rfl rfl rfl rfl ?_
    repeat' ((conv => whnf); first | refine Gs.id ?_ | refine Brn.F (by (try simp only [smT]); first | rfl | omega | fail) ?_ | fail)
    all_goals (conv => whnf)
    all_goals exact Ret.is rfl
/-- The parts of a string between bytes c: those that end at i or before. -/
def splitB (s : ByteArray) (c : UInt8) : Nat → List ByteArray × Nat
  | 0 => ([], 0)
  | i + 1 => if i = s.size ∨ s.data[i]? = some c then ((splitB s c i).1 ++ [s.extract (splitB s c i).2 i], i + 1) else splitB s c i
abbrev strs (l : List ByteArray) : List (List V) := l.map fun s => [V.str s]
end Go.Proofs.YtgloielnnakknaaDoor
namespace Go.Proofs.YtgloielnnakknaaDoor
open Go.RowKit
def chB (c : Int) : Bool := (decide (97 ≤ c) && decide (c ≤ 122)) || (decide (65 ≤ c) && decide (c ≤ 90)) || c == 95 || digB c
def okFrom (s : ByteArray) (i : Nat) : Bool := (s.data.toList.drop i).all fun b => chB (b.toNat : Int)
def nameB (s : ByteArray) : Bool := decide (0 < s.size) && decide (s.size ≤ 24) && !digB ((s.data[0]?.getD 0).toNat : Int) && okFrom s 0
theorem okFrom_step {s : ByteArray} {i : Nat} (h : i < s.size) : okFrom s i = (chB (s[i].toNat : Int) && okFrom s (i + 1)) := by
  have h' : i < s.data.toList.length := by simpa using h
  rw [okFrom, List.drop_eq_getElem_cons h', List.all_cons]
  rfl
theorem okFrom_end {s : ByteArray} : okFrom s s.size = true := by
  rw [okFrom, List.drop_eq_nil_of_le (by simp)]; rfl
theorem toList_beq (a b : ByteArray) : (a.toList == b.toList) = decide (a = b) := by
  rw [ByteArray.toList_eq, ByteArray.toList_eq]
  by_cases h : a = b
  · subst h; simp
  · rw [decide_eq_false h]
    refine Bool.eq_false_iff.2 fun e => h ?_
    have e2 : a.data.toList = b.data.toList := by simpa using e
    obtain ⟨x⟩ := a
    obtain ⟨y⟩ := b
    have : x = y := Array.toList_inj.1 e2
    rw [this]
theorem str_nil {s : ByteArray} : (s.toList == (ByteArray.mk #[]).toList) = decide (s.size = 0) := by
  rw [toList_beq]
  by_cases h : s.size = 0
  · obtain ⟨d⟩ := s
    have : d = #[] := Array.size_eq_zero_iff.1 h
    subst this; rfl
  · rw [decide_eq_false h, decide_eq_false]
    intro e
    subst e
    exact h rfl
set_option maxHeartbeats 2000000 in
theorem name_R (s : ByteArray) : CallsA Tryd.prog 21 [dsr s] [] (Is (db (nameB s))) := by
  have hs0 := str_nil (s := s)
  by_cases h0 : s.size = 0
  · have e : nameB s = false := by simp [nameB, h0]
    rw [decide_eq_true h0] at hs0
    rw [e]
    refine callsA_of_vc (T := tt) Tryd.func21 rfl rfl rfl rfl rfl ?_
    repeat' ((conv => whnf); first | refine Gs.id ?_ | with_reducible refine Brn.T rfl ?_ | refine Brn.T (by (try simp only [smT]); first | rfl | assumption | fail) ?_ | fail)
    all_goals (conv => whnf)
    all_goals exact Ret.is rfl
  · rw [decide_eq_false h0] at hs0
    have hp : 0 < s.size := by omega
    have hg : s.data[0]?.getD 0 = s[0] := by simp [ByteArray.getElem_eq_getElem_data, hp]
    by_cases h1 : s.size ≤ 24
    · have hd := digit_R (s[0].toNat : Int)
      by_cases h2 : digB (s[0].toNat : Int) = true
      · have e : nameB s = false := by simp [nameB, hg, h2]
        rw [e]
        rw [h2] at hd
        refine callsA_of_vc (T := tt) Tryd.func21 rfl rfl rfl rfl rfl ?_
        repeat' ((conv => whnf); first | refine Sbx.mk ⟨0, hp, rfl, ?_⟩ | refine Gs.id ?_ | with_reducible refine Brn.T rfl ?_ | refine Brn.F (by (try simp only [smT]); first | rfl | assumption | omega | fail) ?_ | (refine Bnd.mk (fun hm => ?_); (try simp only [smT] at hm)) | (refine CL.mk (Or.inl ?_); (conv => whnf); refine Cl.is (hd) rfl (by first | exact fun _ => rfl | fail) ?_) | fail)
        all_goals (conv => whnf)
        all_goals exact Ret.is rfl
      · have h2 : digB (s[0].toNat : Int) = false := by simpa using h2
        have e : nameB s = okFrom s 0 := by rw [nameB, hg, h2, decide_eq_true hp, decide_eq_true h1]; rfl
        rw [e]
        rw [h2] at hd
        refine callsA_of_vc (T := tt) Tryd.func21 rfl rfl rfl rfl rfl ?_
        repeat' ((conv => whnf); first | refine Sbx.mk ⟨0, hp, rfl, ?_⟩ | refine Gs.id ?_ | with_reducible refine Brn.F rfl ?_ | refine Brn.F (by (try simp only [smT]); first | rfl | assumption | omega | fail) ?_ | (refine Bnd.mk (fun hm => ?_); (try simp only [smT] at hm)) | (refine CL.mk (Or.inl ?_); (conv => whnf); refine Cl.is (hd) rfl (by first | exact fun _ => rfl | fail) ?_) | fail)
        all_goals (conv => whnf)
        refine ⟨⟨Nat, fun i => i ≤ s.size ∧ okFrom s 0 = okFrom s i, fun i => s.size - i, fun i => ⟨[(0, dsr s), (3, di i)], []⟩, 0, ⟨Nat.zero_le _, rfl⟩, ⟨[], ⟨by (try dsimp only); (repeat (refine LeT.cons rfl (by first | exact LeS.d (by first | exact LeD.u rfl | fail) | fail) ?_)); exact LeT.nil, by (try dsimp only); repeat (first | exact LeO.nil | fail)⟩⟩, fun i hi => ?_⟩⟩
        obtain ⟨hi, he⟩ := hi
        dsimp only
        by_cases h9 : i < s.size
        · rw [okFrom_step h9] at he
          have hdi := digit_R (s[i].toNat : Int)
          rw [he]
          clear he e hd hg h2
          generalize hx : (s[i].toNat : Int) = x at *
          by_cases hc : chB x = true
          · rw [hc, Bool.true_and]
            repeat' ((conv => whnf); first | (refine Sbx.mk ⟨i, h9, rfl, ?_⟩; rw [hx]) | refine Gs.id ?_ | with_reducible refine Brn.T rfl ?_ | with_reducible refine Brn.F rfl ?_ | refine Brn.T (by (try simp only [smT]); first | rfl | assumption | omega | fail) ?_ | refine Brn.F (by (try simp only [smT]); first | rfl | assumption | omega | fail) ?_ | (refine Brn.mk (fun hb => ?_) (fun hb => ?_) <;> (try simp only [smT] at hb) <;> (try (exact absurd trivial hb)) <;> (try (exfalso; omega))) | (refine Bnd.mk (fun hm => ?_); (try simp only [smT] at hm)) | refine Rng.mk (by (try simp only [smT]); omega) ?_ | (refine CL.mk (Or.inl ?_); (conv => whnf); refine Cl.is (hdi) rfl (by first | exact fun _ => rfl | fail) ?_) | fail)
            all_goals (conv => whnf)
            all_goals first
              | exact ⟨i + 1, ⟨by omega, rfl⟩, by omega, [], ⟨by (try dsimp only); (repeat (refine LeT.cons rfl (by first | exact LeS.d (by first | exact LeD.u rfl | fail) | fail) ?_)); exact LeT.nil, by (try dsimp only); repeat (first | exact LeO.nil | fail)⟩⟩
              | (exfalso; simp [chB] at hc; simp_all; done)
              | (exfalso; simp [chB] at hc; simp_all; omega)
          · have hc : chB x = false := by simpa using hc
            rw [hc, Bool.false_and]
            repeat' ((conv => whnf); first | (refine Sbx.mk ⟨i, h9, rfl, ?_⟩; rw [hx]) | refine Gs.id ?_ | with_reducible refine Brn.T rfl ?_ | with_reducible refine Brn.F rfl ?_ | refine Brn.T (by (try simp only [smT]); first | rfl | assumption | omega | fail) ?_ | refine Brn.F (by (try simp only [smT]); first | rfl | assumption | omega | fail) ?_ | (refine Brn.mk (fun hb => ?_) (fun hb => ?_) <;> (try simp only [smT] at hb) <;> (try (exact absurd trivial hb)) <;> (try (exfalso; omega))) | (refine Bnd.mk (fun hm => ?_); (try simp only [smT] at hm)) | refine Rng.mk (by (try simp only [smT]); omega) ?_ | (refine CL.mk (Or.inl ?_); (conv => whnf); refine Cl.is (hdi) rfl (by first | exact fun _ => rfl | fail) ?_) | fail)
            all_goals (conv => whnf)
            all_goals first
              | exact Ret.is rfl
              | (exfalso; simp [chB] at hc; simp_all; done)
              | (exfalso; simp [chB] at hc; simp_all; omega)
        · obtain rfl : i = s.size := by omega
          rw [he, okFrom_end]
          repeat' ((conv => whnf); first | refine Gs.id ?_ | refine Brn.F (by (try simp only [smT]); first | rfl | omega | fail) ?_ | (refine Bnd.mk (fun hm => ?_); (try simp only [smT] at hm)) | fail)
          all_goals (conv => whnf)
          all_goals exact Ret.is rfl
    · have e : nameB s = false := by simp [nameB, h1]
      rw [e]
      refine callsA_of_vc (T := tt) Tryd.func21 rfl rfl rfl rfl rfl ?_
      repeat' ((conv => whnf); first | refine Gs.id ?_ | with_reducible refine Brn.T rfl ?_ | refine Brn.T (by (try simp only [smT]); first | rfl | omega | fail) ?_ | refine Brn.F (by (try simp only [smT]); first | rfl | assumption | fail) ?_ | (refine Bnd.mk (fun hm => ?_); (try simp only [smT] at hm)) | fail)
      all_goals (conv => whnf)
      all_goals exact Ret.is rfl
abbrev strs' (l : List ByteArray) : V := .sl 1 (strs l)
/-- The first n of a list with a string between them. -/
def joinB (l : List ByteArray) (sep : ByteArray) : Nat → ByteArray
  | 0 => ByteArray.mk #[]
  | n + 1 => (if 0 < n then joinB l sep n ++ sep else joinB l sep n) ++ (l[n]?.getD (ByteArray.mk #[]))
def total (l : List ByteArray) (sep : ByteArray) : Nat → Nat
  | 0 => 0
  | n + 1 => total l sep n + sep.size + (l[n]?.getD (ByteArray.mk #[])).size
end Go.Proofs.YtgloielnnakknaaDoor
namespace Go.Proofs.YtgloielnnakknaaDoor
open Go.RowKit
section
variable {c : Cx} {st : St} {tm : List (Nat × Value)} {F : Nat → Prop} {w0 w w' : World} {hp : List (Nat × Hb)} {ρ : Rho} {G : FG}
theorem Below.sameF (hw : Hp ⟨F, w0, hp⟩ w) (hb : Below w.heap.size w w') : Same F w0 w' :=
  hw.same.trans ⟨hb.os, hb.tape, hb.output, hb.size, fun k hk => hb.block k (hw.Flt hk)⟩
theorem Gd.newF (g : Gd c st tm ⟨F, w0, hp⟩ ρ G) (hw : Hp ⟨F, w0, hp⟩ w) (hb : Below w.heap.size w w') (hl : w.heap.size < w'.heap.size) : Gd c st tm ⟨fun x => F x ∨ x = w.heap.size, w', hp⟩ ρ (G.or fun x => x = w.heap.size) ∧ Hp ⟨fun x => F x ∨ x = w.heap.size, w', hp⟩ w' := by
  have s1 := Below.sameF hw hb
  have hz : Mz ⟨G, w0⟩ ⟨G.or fun x => x = w.heap.size, w'⟩ := ⟨fun _ h => .inl h, fun b hb => s1.block b (g.gF b hb), fun _ _ _ h => h⟩
  refine ⟨⟨fun b hb => .inl (g.fF b hb), g.fw.trans (s1.mono g.fF), fun b hb => hb.imp (g.gF b) id, fun b h2 => ?_, g.fm.or, fun j s hj => ?_, g.ob.mono hz .refl⟩, ⟨Same.refl _ _, fun b h2 => ?_, fun b x hx => ?_, hw.nd, fun b x hx h2 => ?_⟩⟩
  · rcases h2 with h2 | rfl
    · exact g.gx b h2
    · exact .inr fun h0 => Nat.lt_irrefl _ (hw.Flt (g.fF _ h0))
  · obtain ⟨v, v1, v2⟩ := g.tm j s hj
    exact ⟨v, v1, v2.mono hz .refl⟩
  · rcases h2 with h2 | rfl
    · exact Nat.lt_of_lt_of_le (hw.Flt h2) hb.size
    · exact hl
  · have h1 := hw.blk b x hx
    exact h1.of_block (hb.block b h1.lt)
  · rcases h2 with h2 | rfl
    · exact hw.out b x hx h2
    · exact Nat.lt_irrefl _ (hw.blk _ x hx).lt
end
theorem bytes_flat (l : List UInt8) : (l.map fun b => [V.int .u8 (b.toNat : Int)]).flatten = l.map fun b => V.int .u8 (b.toNat : Int) := by
  induction l with
  | nil => rfl
  | cons x r ih => simp [ih]
section
variable {P : Program} {T : List (Nat × Ty)} [hT : Tys P T] {nt : Nat} {ty : TypeId} {pos : String} {af : Array Edge} {gd : Option (Nat × Bool)} {K : Kt}
/-- The bytes of a string. -/
theorem Raw.convBytes {x : Operand} {t t2 d e : Nat} {s : ByteArray} {tmT : List (Nat × SV)} {ob : List (Nat × Ob)} {i i2 i3 : Ty} (hx : evT tmT x = some (.d (.u (.str s)))) (ht : lk t T = some i) (hk : i.k = .sr) (ht2 : lk t2 T = some i2) (hk2 : i2.k = .sl e) (ht3 : lk e T = some i3) (hk3 : i3.k = .in_ .u8) (hd : Nat.blt d nt = true) (k : K ((d, .d (.u (.sl 1 (s.data.toList.map fun b => [V.int .u8 (b.toNat : Int)])))) :: tmT) ob) : Raw P nt ⟨some d, .convert t t2 x, ty, pos, af, gd⟩ tmT ob K := ⟨fun Q c tm h ρ G g => by
  obtain ⟨vx, x1, x2⟩ := g.ev hx
  cases x2 with | d x2 => cases x2 with | u x2 => cases x2 with | str _ hs =>
  have ku := (hT.ok t i ht).kind
  rw [hk] at ku
  have ku : P.underlying t = some .string := ku
  have ku2 := (hT.ok t2 i2 ht2).kind
  rw [hk2] at ku2
  have ku2 : P.underlying t2 = some (.slice e) := ku2
  have ku3 := (hT.ok e i3 ht3).kind
  rw [hk3] at ku3
  have ku3 : P.underlying e = some (.int .u8) := ku3
  obtain ⟨F, w0, hp⟩ := h
  refine OpS.of_run hd fun a w ha hw => ?_
  have hrun := Go.Lib.run_convert_string_bytes w t t2 e s ku ku2 ku3
  have hsz := Go.Lib.bytesWorld_size w e s
  have hbel : Below w.heap.size w (Go.Lib.bytesWorld w e s) := ⟨by simp [Go.Lib.bytesWorld, World.freeze]; rfl, by simp [Go.Lib.bytesWorld, World.freeze], by simp [Go.Lib.bytesWorld, World.freeze]; rfl, by omega, fun j hj => Go.Lib.bytesWorld_at_old w e s j hj⟩
  obtain ⟨g2, hw2⟩ := Gd.newF g hw hbel (by omega)
  have hcap := grownCap_ge w s.size 0 e
  refine ⟨_, _, _, by simp [execOp, ha.ev x1, hrun], hw2, .of (g2.put (d := d) (s := .d (.u (.sl 1 (s.data.toList.map fun b => [V.int .u8 (b.toNat : Int)])))) (.d (.u (.sl (b := w.heap.size) (o := 0) (s.data.toList.map fun b => Value.int .u8 (b.toNat : Int)) (by simp) hcap hs (fun r hr => ?_) (fun _ => ⟨rfl, .inr rfl⟩) (by rw [bytes_flat]; simp) (fun j u hu => ?_) ?_ (fun j y u hy hu => ?_))))) k⟩
  · obtain ⟨b, _, rfl⟩ := List.mem_map.1 hr
    rfl
  · rw [List.getElem?_map] at hu
    cases hb : s.data.toList[j]? with
    | none => rw [hb] at hu; simp at hu
    | some b =>
      rw [hb] at hu
      simp only [Option.map_some, Option.some.injEq] at hu
      subst hu
      have hj : j < s.size := by have := (List.getElem?_eq_some_iff.1 hb).1; simpa using this
      have := Go.Lib.bytesWorld_cell w e s j hj
      rw [List.getD_eq_getElem?_getD, hb] at this
      simpa using this
  · refine List.all_eq_true.2 fun v hv => ?_
    obtain ⟨b, _, rfl⟩ := List.mem_map.1 hv
    rfl
  · rw [bytes_flat, List.getElem?_map] at hy
    rw [List.getElem?_map] at hu
    cases hb : s.data.toList[j]? with
    | none => rw [hb] at hu; simp at hu
    | some b =>
      rw [hb] at hu hy
      simp only [Option.map_some, Option.some.injEq] at hu hy
      subst hu hy
      exact .int _ _⟩
end
end Go.Proofs.YtgloielnnakknaaDoor
namespace Go.Proofs.YtgloielnnakknaaDoor
open Go.RowKit
abbrev byR (s : ByteArray) : List (List V) := s.data.toList.map fun b => [V.int .u8 (b.toNat : Int)]
set_option maxHeartbeats 2000000 in
theorem isName_T (s : ByteArray) : CallsA Tryd.prog 47 [dsr s] [] (Is (db (nameB s))) := by
  have hs0 := str_nil (s := s)
  by_cases h0 : s.size = 0
  · have e : nameB s = false := by simp [nameB, h0]
    rw [decide_eq_true h0] at hs0
    rw [e]
    refine callsA_of_vc (T := tt) Tryd.func47 rfl rfl rfl rfl rfl ?_
    repeat' ((conv => whnf); first | refine Gs.id ?_ | with_reducible refine Brn.T rfl ?_ | refine Brn.T (by (try simp only [smT]); first | rfl | assumption | fail) ?_ | fail)
    all_goals (conv => whnf)
    all_goals exact Ret.is rfl
  · rw [decide_eq_false h0] at hs0
    have hp : 0 < s.size := by omega
    have hg : s.data[0]?.getD 0 = s[0] := by simp [ByteArray.getElem_eq_getElem_data, hp]
    by_cases h1 : s.size ≤ 24
    · by_cases h2 : digB (s[0].toNat : Int) = true
      · have e : nameB s = false := by simp [nameB, hg, h2]
        rw [e]
        simp only [digB, Bool.and_eq_true, decide_eq_true_eq] at h2
        obtain ⟨h2, h3⟩ := h2
        refine callsA_of_vc (T := tt) Tryd.func47 rfl rfl rfl rfl rfl ?_
        repeat' ((conv => whnf); first | refine Sbx.mk ⟨0, hp, rfl, ?_⟩ | refine Gs.id ?_ | refine Brn.T (by (try simp only [smT]); first | rfl | assumption | fail) ?_ | refine Brn.F (by (try simp only [smT]); first | rfl | assumption | omega | fail) ?_ | (refine Bnd.mk (fun hm => ?_); (try simp only [smT] at hm)) | fail)
        all_goals (conv => whnf)
        all_goals exact Ret.is rfl
      · have h2 : digB (s[0].toNat : Int) = false := by simpa using h2
        have e : nameB s = okFrom s 0 := by rw [nameB, hg, h2, decide_eq_true hp, decide_eq_true h1]; rfl
        rw [e]
        have h3 : 48 ≤ (s[0].toNat : Int) → ¬ (s[0].toNat : Int) ≤ 57 := fun a b => by simp [digB] at h2; omega
        clear h2
        have key : ∀ (_ : True), True := fun _ => trivial
        have hc48 : (s[0].toNat : Int) < 48 ∨ 57 < (s[0].toNat : Int) := by
          by_cases q : 48 ≤ (s[0].toNat : Int)
          · right; have := h3 q; omega
          · left; omega
        clear h3 key
        generalize hx0 : (s[0].toNat : Int) = x0 at hc48
        refine callsA_of_vc (T := tt) Tryd.func47 rfl rfl rfl rfl rfl ?_
        repeat' ((conv => whnf); first | (refine Sbx.mk ⟨0, hp, rfl, ?_⟩; rw [hx0]) | refine Raw.convBytes (T := tt) rfl rfl rfl rfl rfl rfl rfl rfl ?_ | refine Gs.id ?_ | with_reducible refine Brn.F rfl ?_ | refine Brn.T (by (try simp only [smT]); first | rfl | assumption | fail) ?_ | refine Brn.F (by (try simp only [smT]); first | rfl | assumption | omega | fail) ?_ | (refine Brn.mk (fun hb => ?_) (fun hb => ?_) <;> (try simp only [smT] at hb) <;> (try (exact absurd trivial hb)) <;> (try (exfalso; omega))) | (refine Bnd.mk (fun hm => ?_); (try simp only [smT] at hm)) | fail)
        all_goals (conv => whnf)
        all_goals
          refine ⟨⟨Nat, fun i => i ≤ s.size ∧ okFrom s 0 = okFrom s i, fun i => s.size - i, fun i => ⟨[(23, .d (.u (.sl 1 (byR s)))), (24, di s.size), (25, di i)], []⟩, 0, ⟨Nat.zero_le _, rfl⟩, ⟨[], ⟨by (try dsimp only); (repeat (refine LeT.cons rfl (by first | exact LeS.d (by first | exact LeD.u rfl | exact LeD.u (by simp; done) | fail) | fail) ?_)); exact LeT.nil, by (try dsimp only); repeat (first | exact LeO.nil | fail)⟩⟩, fun i hi => ?_⟩⟩
          obtain ⟨hi, he⟩ := hi
          dsimp only
          by_cases h9 : i < s.size
          · rw [okFrom_step h9] at he
            rw [he]
            clear he e hg
            have hrow : ∀ {K : List V → Prop}, K [V.int .u8 (s[i].toNat : Int)] → Ix (byR s) (i : Int) K := fun k => Ix.map rfl (by simpa using h9) k
            generalize hx : (s[i].toNat : Int) = x at *
            by_cases hc : chB x = true
            · rw [hc, Bool.true_and]
              repeat' ((conv => whnf); first | refine hrow ?_ | refine Gs.id ?_ | with_reducible refine Brn.T rfl ?_ | with_reducible refine Brn.F rfl ?_ | refine Brn.T (by (try simp only [smT]); first | rfl | assumption | omega | fail) ?_ | refine Brn.F (by (try simp only [smT]); first | rfl | assumption | omega | fail) ?_ | (refine Brn.mk (fun hb => ?_) (fun hb => ?_) <;> (try simp only [smT] at hb) <;> (try (exact absurd trivial hb)) <;> (try (exfalso; omega))) | refine Rng.mk (by (try simp only [smT]); omega) ?_ | fail)
              all_goals (conv => whnf)
              all_goals first
                | exact ⟨i + 1, ⟨by omega, rfl⟩, by omega, [], ⟨by (try dsimp only); (repeat (refine LeT.cons rfl (by first | exact LeS.d (by first | exact LeD.u rfl | fail) | fail) ?_)); exact LeT.nil, by (try dsimp only); repeat (first | exact LeO.nil | fail)⟩⟩
                | (exfalso; simp [chB, digB] at hc; simp_all; done)
                | (exfalso; simp [chB, digB] at hc; simp_all; omega)
            · have hc : chB x = false := by simpa using hc
              rw [hc, Bool.false_and]
              repeat' ((conv => whnf); first | refine hrow ?_ | refine Gs.id ?_ | with_reducible refine Brn.T rfl ?_ | with_reducible refine Brn.F rfl ?_ | refine Brn.T (by (try simp only [smT]); first | rfl | assumption | omega | fail) ?_ | refine Brn.F (by (try simp only [smT]); first | rfl | assumption | omega | fail) ?_ | (refine Brn.mk (fun hb => ?_) (fun hb => ?_) <;> (try simp only [smT] at hb) <;> (try (exact absurd trivial hb)) <;> (try (exfalso; omega))) | refine Rng.mk (by (try simp only [smT]); omega) ?_ | fail)
              all_goals (conv => whnf)
              all_goals first
                | exact Ret.is rfl
                | (exfalso; simp [chB, digB] at hc; simp_all; done)
                | (exfalso; simp [chB, digB] at hc; simp_all; omega)
          · obtain rfl : i = s.size := by omega
            rw [he, okFrom_end]
            repeat' ((conv => whnf); first | refine Gs.id ?_ | refine Brn.F (by (try simp only [smT]); first | rfl | omega | fail) ?_ | fail)
            all_goals (conv => whnf)
            all_goals exact Ret.is rfl
    · have e : nameB s = false := by simp [nameB, h1]
      rw [e]
      refine callsA_of_vc (T := tt) Tryd.func47 rfl rfl rfl rfl rfl ?_
      repeat' ((conv => whnf); first | refine Gs.id ?_ | with_reducible refine Brn.T rfl ?_ | refine Brn.T (by (try simp only [smT]); first | rfl | omega | fail) ?_ | refine Brn.F (by (try simp only [smT]); first | rfl | assumption | fail) ?_ | (refine Bnd.mk (fun hm => ?_); (try simp only [smT] at hm)) | fail)
      all_goals (conv => whnf)
      all_goals exact Ret.is rfl
end Go.Proofs.YtgloielnnakknaaDoor
namespace Go.Proofs.YtgloielnnakknaaDoor
open Go.RowKit
theorem isName_T' (s : ByteArray) : CallsA Tryd.prog 39 [dsr s] [] (Is (db (nameB s))) := by
  have h := isName_T s
  refine callsA_of_vc (T := tt) Tryd.func39 rfl rfl rfl rfl rfl ?_
  repeat' ((conv => whnf); first | refine Gs.id ?_ | (refine CL.mk (Or.inl ?_); (conv => whnf); refine Cl.is (h) rfl (by first | exact fun _ => rfl | fail) ?_) | fail)
  all_goals (conv => whnf)
  all_goals exact Ret.is rfl
def parts (s : ByteArray) : List ByteArray := (splitB s 46 (s.size + 1)).1
def dottedB (s : ByteArray) : Bool := (parts s).all nameB && decide ((s.size : Int) ≤ 60)
theorem strings_R (a b : List ByteArray) : CallsA Tryd.prog 12 [.d (.u (strs' a)), .d (.u (strs' b))] [] (Is (db (decide (a = b)))) := by
  by_cases hl : a.length = b.length
  · refine callsA_of_vc (T := tt) Tryd.func12 rfl rfl rfl rfl rfl ?_
    repeat' ((conv => whnf); first | refine Gs.id ?_ | refine Brn.F (by (try simp only [smT]); first | rfl | omega | fail) ?_ | (refine Bnd.mk (fun hm => ?_); (try simp only [smT] at hm)) | fail)
    all_goals (conv => whnf)
    refine ⟨⟨Nat, fun i => i ≤ a.length ∧ decide (a = b) = decide (a.drop i = b.drop i), fun i => a.length - i, fun i => ⟨[(0, .d (.u (strs' a))), (1, .d (.u (strs' b))), (5, di i)], []⟩, 0, ⟨Nat.zero_le _, rfl⟩, ⟨[], ⟨by (try dsimp only); (repeat (refine LeT.cons rfl (by first | exact LeS.d (by first | exact LeD.u rfl | fail) | fail) ?_)); exact LeT.nil, by (try dsimp only); repeat (first | exact LeO.nil | fail)⟩⟩, fun i hi => ?_⟩⟩
    obtain ⟨hi, he⟩ := hi
    dsimp only
    by_cases h9 : i < a.length
    · have h10 : i < b.length := by omega
      rw [List.drop_eq_getElem_cons h9, List.drop_eq_getElem_cons h10] at he
      have hra : ∀ {K : List V → Prop}, K [V.str a[i]] → Ix (strs a) (i : Int) K := fun k => Ix.map rfl h9 k
      have hrb : ∀ {K : List V → Prop}, K [V.str b[i]] → Ix (strs b) (i : Int) K := fun k => Ix.map rfl h10 k
      have hxy := toList_beq a[i] b[i]
      generalize a[i] = x at *
      generalize b[i] = y at *
      by_cases hq : x = y
      · subst hq
        rw [decide_eq_true rfl] at hxy
        have he2 : decide (a = b) = decide (a.drop (i + 1) = b.drop (i + 1)) := by rw [he]; simp
        clear he
        rw [he2]
        repeat' ((conv => whnf); first | refine hra ?_ | refine hrb ?_ | refine Gs.id ?_ | refine Brn.T (by (try simp only [smT]); first | rfl | omega | fail) ?_ | refine Brn.F (by (try simp only [smT]); first | rfl | assumption | fail) ?_ | (refine Bnd.mk (fun hm => ?_); (try simp only [smT] at hm)) | refine Rng.mk (by (try simp only [smT]); omega) ?_ | refine Drw.of (T := tt) (i := 6) [] [] [(0, true), (1, true), (2, true), (3, true), (4, true), (5, true), (6, true), (7, true), (8, true)] (by kernel_rfl) ?_)
        all_goals (conv => whnf)
        all_goals exact ⟨i + 1, ⟨by omega, rfl⟩, by omega, [], ⟨by (try dsimp only); (repeat (refine LeT.cons rfl (by first | exact LeS.d (by first | exact LeD.u rfl | fail) | fail) ?_)); exact LeT.nil, by (try dsimp only); repeat (first | exact LeO.nil | fail)⟩⟩
      · rw [decide_eq_false hq] at hxy
        have he2 : decide (a = b) = false := by rw [he]; exact decide_eq_false fun e => hq (List.cons.inj e).1
        rw [he2]
        clear he he2
        repeat' ((conv => whnf); first | refine hra ?_ | refine hrb ?_ | refine Gs.id ?_ | refine Brn.T (by (try simp only [smT]); first | rfl | assumption | omega | fail) ?_ | (refine Bnd.mk (fun hm => ?_); (try simp only [smT] at hm)) | refine Drw.of (T := tt) (i := 6) [] [] [(0, true), (1, true), (2, true), (3, true), (4, true), (5, true), (6, true), (7, true), (8, true)] (by kernel_rfl) ?_)
        all_goals (conv => whnf)
        all_goals exact Ret.is rfl
    · obtain rfl : i = a.length := by omega
      have e2 : decide (a = b) = true := by rw [he]; simp; omega
      rw [e2]
      repeat' ((conv => whnf); first | refine Gs.id ?_ | refine Brn.F (by (try simp only [smT]); first | rfl | omega | fail) ?_ | (refine Bnd.mk (fun hm => ?_); (try simp only [smT] at hm)) | fail)
      all_goals (conv => whnf)
      all_goals exact Ret.is rfl
  · have e : decide (a = b) = false := decide_eq_false fun e => hl (by rw [e])
    rw [e]
    refine callsA_of_vc (T := tt) Tryd.func12 rfl rfl rfl rfl rfl ?_
    repeat' ((conv => whnf); first | refine Gs.id ?_ | refine Brn.T (by (try simp only [smT]); first | rfl | omega | fail) ?_ | (refine Bnd.mk (fun hm => ?_); (try simp only [smT] at hm)) | fail)
    all_goals (conv => whnf)
    all_goals exact Ret.is rfl
/-- The beginnings of a string that end ahead of a full stop, among the first i bytes. -/
def headsB (s : ByteArray) : Nat → List ByteArray
  | 0 => []
  | i + 1 => if s.data[i]? = some 46 then headsB s i ++ [s.extract 0 i] else headsB s i
def chainM (s : ByteArray) : List ByteArray := headsB s s.size ++ [s]
theorem headsB_le (s : ByteArray) : ∀ i, (headsB s i).length ≤ i
  | 0 => Nat.le_refl _
  | i + 1 => by
    have := headsB_le s i
    rw [headsB]
    split
    · simp; omega
    · omega
set_option maxHeartbeats 1000000 in
theorem chain_T (s : ByteArray) (hs : s.size ≤ 1000000000000) : CallsA Tryd.prog 23 [dsr s] [] (Is (.d (.u (strs' (chainM s))))) := by
  rw [chainM]
  refine callsA_of_vc (T := tt) Tryd.func23 rfl rfl rfl rfl rfl ?_
  repeat' ((conv => whnf); first | refine Gs.id ?_ | (refine Bnd.mk (fun hm => ?_); (try simp only [smT] at hm)) | fail)
  all_goals (conv => whnf)
  refine ⟨⟨Nat, fun i => i ≤ s.size, fun i => s.size - i, fun i => match headsB s i with
    | [] => ⟨[(0, dsr s), (3, .d (.u .nl)), (6, di s.size), (7, di i)], []⟩
    | x :: r => ⟨[(0, dsr s), (3, .d (.ow 900 (x :: r).length)), (6, di s.size), (7, di i)], [(900, .ar 9 1 (strs (x :: r)))]⟩, 0, Nat.zero_le _, ⟨[], ⟨by (try dsimp only); (repeat (refine LeT.cons rfl (by first | exact LeS.d (by first | exact LeD.u rfl | fail) | fail) ?_)); exact LeT.nil, by (try dsimp only); repeat (first | exact LeO.nil | fail)⟩⟩, fun i hi => ?_⟩⟩
  dsimp only at hi ⊢
  have q1 := headsB_le s i
  have hst := headsB.eq_2 s i
  generalize hL : headsB s i = L at q1 hst ⊢
  by_cases h9 : i < s.size
  · have hget : s.data[i]? = some s[i] := by simp [ByteArray.getElem_eq_getElem_data, h9]
    rw [hget] at hst
    by_cases hc : s[i] = 46
    · rw [if_pos (by rw [hc])] at hst
      have hc2 : (s[i].toNat : Int) = 46 := by rw [hc]; rfl
      generalize hx : (s[i].toNat : Int) = x at *
      cases L with
      | nil =>
        dsimp only
        repeat' ((conv => whnf); first | (refine Sbx.mk ⟨i, h9, rfl, ?_⟩; rw [hx]) | refine Slc.mk ⟨0, i, rfl, rfl, by omega, by omega, ?_⟩ | refine Gs.id ?_ | refine Brn.T (by (try simp only [smT]); first | rfl | assumption | omega | fail) ?_ | refine Rng.mk (by (try simp only [smT]); omega) ?_ | refine Apd.mk (by first | rfl | fail) (by first | rfl | fail) (by (try simp only [smT]); first | omega | fail) (by unfold maxLen; first | (simp; done) | fail) ?_ | fail)
        all_goals (conv => whnf)
        all_goals
          refine ⟨i + 1, by omega, by omega, [(900, .k 19)], ?_⟩
          rw [hst]
          exact ⟨by (try dsimp only); (repeat (refine LeT.cons rfl (by first | exact LeS.d (by first | exact LeD.u rfl | exact LeD.ow rfl rfl | fail) | fail) ?_)); exact LeT.nil, by (try dsimp only); repeat (first | exact LeO.nil | refine LeO.ar rfl rfl (by first | rfl | fail) ?_ | fail)⟩
      | cons y r =>
        simp only [List.length_cons] at q1
        dsimp only
        repeat' ((conv => whnf); first | (refine Sbx.mk ⟨i, h9, rfl, ?_⟩; rw [hx]) | refine Slc.mk ⟨0, i, rfl, rfl, by omega, by omega, ?_⟩ | refine Gs.id ?_ | refine Brn.T (by (try simp only [smT]); first | rfl | assumption | omega | fail) ?_ | refine Rng.mk (by (try simp only [smT]); omega) ?_ | refine Apd.mk (by first | rfl | simp) (by first | rfl | fail) (by (try simp only [smT]); first | omega | fail) (by unfold maxLen; first | (simp; omega) | fail) ?_ | fail)
        all_goals (conv => whnf)
        all_goals
          refine ⟨i + 1, by omega, by omega, [(900, .k 19)], ?_⟩
          rw [hst]
          exact ⟨by (try dsimp only); (repeat (refine LeT.cons rfl (by first | exact LeS.d (by first | exact LeD.u rfl | exact LeD.ow rfl (by simp) | fail) | fail) ?_)); exact LeT.nil, by (try dsimp only); repeat (first | exact LeO.nil | refine LeO.ar rfl rfl (by first | simp) ?_ | fail)⟩
    · rw [if_neg (by simpa using hc)] at hst
      have hc2 : ¬ (s[i].toNat : Int) = 46 := fun e => hc (UInt8.toNat_inj.1 (by have : (46 : UInt8).toNat = 46 := rfl; omega))
      generalize hx : (s[i].toNat : Int) = x at *
      cases L with
      | nil =>
        dsimp only
        repeat' ((conv => whnf); first | (refine Sbx.mk ⟨i, h9, rfl, ?_⟩; rw [hx]) | refine Gs.id ?_ | refine Brn.T (by (try simp only [smT]); first | rfl | omega | fail) ?_ | refine Brn.F (by (try simp only [smT]); first | rfl | assumption | fail) ?_ | refine Rng.mk (by (try simp only [smT]); omega) ?_ | fail)
        all_goals (conv => whnf)
        all_goals
          refine ⟨i + 1, by omega, by omega, [], ?_⟩
          rw [hst]
          exact ⟨by (try dsimp only); (repeat (refine LeT.cons rfl (by first | exact LeS.d (by first | exact LeD.u rfl | fail) | fail) ?_)); exact LeT.nil, by (try dsimp only); repeat (first | exact LeO.nil | fail)⟩
      | cons y r =>
        dsimp only
        repeat' ((conv => whnf); first | (refine Sbx.mk ⟨i, h9, rfl, ?_⟩; rw [hx]) | refine Gs.id ?_ | refine Brn.T (by (try simp only [smT]); first | rfl | omega | fail) ?_ | refine Brn.F (by (try simp only [smT]); first | rfl | assumption | fail) ?_ | refine Rng.mk (by (try simp only [smT]); omega) ?_ | fail)
        all_goals (conv => whnf)
        all_goals
          refine ⟨i + 1, by omega, by omega, [(900, .k 900)], ?_⟩
          rw [hst]
          exact ⟨by (try dsimp only); (repeat (refine LeT.cons rfl (by first | exact LeS.d (by first | exact LeD.u rfl | exact LeD.ow rfl rfl | fail) | fail) ?_)); exact LeT.nil, by (try dsimp only); repeat (first | exact LeO.nil | refine LeO.ar rfl rfl (by first | rfl | fail) ?_ | fail)⟩
  · obtain rfl : i = s.size := by omega
    rw [hL]
    cases L with
    | nil =>
      dsimp only
      repeat' ((conv => whnf); first | refine Gs.id ?_ | refine Brn.F (by (try simp only [smT]); first | rfl | omega | fail) ?_ | refine Len.mk (by first | rfl | fail) ?_ | refine Apd.mk (by first | rfl | fail) (by first | rfl | fail) (by (try simp only [smT]); first | omega | fail) (by unfold maxLen; first | (simp; done) | fail) ?_ | fail)
      all_goals (conv => whnf)
      all_goals exact Ret.is (by simp [tupT, SC.up])
    | cons y r =>
      simp only [List.length_cons] at q1
      dsimp only
      repeat' ((conv => whnf); first | refine Gs.id ?_ | refine Brn.F (by (try simp only [smT]); first | rfl | omega | fail) ?_ | refine Len.mk (by first | rfl | fail) ?_ | refine Apd.mk (by first | rfl | simp) (by first | rfl | fail) (by (try simp only [smT]); first | omega | fail) (by unfold maxLen; first | (simp; omega) | fail) ?_ | fail)
      all_goals (conv => whnf)
      all_goals exact Ret.is (by simp [tupT, SC.up])
end Go.Proofs.YtgloielnnakknaaDoor
namespace Go.Proofs.YtgloielnnakknaaDoor
open Go.RowKit
section
variable {P : Program} {T : List (Nat × Ty)} [hT : Tys P T] {nt : Nat} {ty : TypeId} {pos : String} {af : Array Edge} {gd : Option (Nat × Bool)} {K : Kt}
omit hT in
theorem Raw.extSB {f : FuncId} {fn : Func} {e : Array Value → Sem Value} {x y : Operand} {ts : Array TypeId} {d : Nat} {st : ByteArray} {b r : Int} {tmT : List (Nat × SV)} {ob : List (Nat × Ob)} (hx : evT tmT x = some (.d (.u (.str st)))) (hy : evT tmT y = some (.d (.u (.int .u8 b)))) (hf : P.funcs[f]? = some fn) (hname : (fn.name == "runtime.NumGoroutine") = false) (hb : fn.body.isNone = true) (hn : Extern.findNext fn = none) (he : Extern.find fn = some e) (hr : ∀ w, (e #[.string st, .int .u8 b]).run P w = .ok (.int .i64 r) w) (hd : Nat.blt d nt = true) (k : K ((d, .d (.u (.int .i64 r))) :: tmT) ob) : Raw P nt ⟨some d, .call ⟨.value (.func f), #[x, y], ts⟩, ty, pos, af, gd⟩ tmT ob K := ⟨fun Q c tm h ρ G g => by
  obtain ⟨vx, x1, x2⟩ := g.ev hx
  cases x2 with | d x2 => cases x2 with | u x2 => cases x2 with | str _ hs =>
  have y1 := evT_int g hy
  refine OpS.yd (v := .int .i64 r) ⟨fun a w ha hw => ?_⟩ hd (.of (g.put (.d (.u (.int _ _)))) k)
  have hargs : #[x, y].map a.eval = #[.string st, .int .u8 b] := by simp [ha.ev x1, ha.ev y1]
  simp only [execOp, resolve, Sem.run_bind, hargs, Deferred.ofValue, Act.eval, invoke]
  simp [run_callFunc_extern hf hname hb hn he, hr]⟩
end
end Go.Proofs.YtgloielnnakknaaDoor
namespace Go.Proofs.YtgloielnnakknaaDoor
open Go.RowKit
theorem byte_back (c : UInt8) : ((c.toNat : Int)).toNat.toUInt8 = c := by simp
theorem indexByte_T (s : ByteArray) (c : UInt8) : CallsA Tryd.prog 77 [dsr s, dby c.toNat] [] (Is (di (Go.Lib.indexByte s.data.toList c))) := by
  have hr : ∀ w, (Extern.BytealgIndexByte.indexByte #[.string s, .int .u8 (c.toNat : Int)]).run Tryd.prog w = .ok (.int .i64 (Go.Lib.indexByte s.data.toList c)) w := fun w => by
    rw [Go.Lib.run_indexByteString, byte_back]
  have hf := Tryd.func84
  refine callsA_of_vc (T := tt) Tryd.func77 rfl rfl rfl rfl rfl ?_
  repeat' ((conv => whnf); first | (refine CL.mk (Or.inr (Raw.extSB (e := Extern.BytealgIndexByte.indexByte) rfl rfl hf (by kernel_rfl) (by kernel_rfl) (by kernel_rfl) (by kernel_rfl) hr rfl ?_))) | refine Gs.id ?_ | fail)
  all_goals (conv => whnf)
  all_goals exact Ret.is rfl
abbrev dot : ByteArray := ⟨#[46]⟩
theorem indexByte_T' (s : ByteArray) : CallsA Tryd.prog 77 [dsr s, dby 46] [] (Is (di (Go.Lib.indexByte s.data.toList 46))) := indexByte_T s 46
theorem index0_T (s : ByteArray) : CallsA Tryd.prog 68 [dsr s, dsr dot] [] (Is (di (if s = dot then 0 else Go.Lib.indexByte s.data.toList 46))) := by
  have hb := toList_beq dot s
  have hi := indexByte_T' s
  have hd : (dot[0].toNat : Int) = 46 := rfl
  by_cases h : s = dot
  · rw [if_pos h]
    rw [decide_eq_true h.symm] at hb
    refine callsA_of_vc (T := tt) Tryd.func68 rfl rfl rfl rfl rfl ?_
    repeat' ((conv => whnf); first | refine Gs.id ?_ | with_reducible refine Brn.F rfl ?_ | refine Brn.T (by (try simp only [smT]); first | rfl | assumption | fail) ?_ | (refine Bnd.mk (fun hm => ?_); (try simp only [smT] at hm)) | fail)
    all_goals (conv => whnf)
    all_goals exact Ret.is rfl
  · rw [if_neg h]
    rw [decide_eq_false fun e => h e.symm] at hb
    refine callsA_of_vc (T := tt) Tryd.func68 rfl rfl rfl rfl rfl ?_
    repeat' ((conv => whnf); first | (refine Sbx.mk ⟨0, (by decide), rfl, ?_⟩; rw [hd]) | refine Gs.id ?_ | with_reducible refine Brn.T rfl ?_ | with_reducible refine Brn.F rfl ?_ | refine Brn.F (by (try simp only [smT]); first | rfl | assumption | fail) ?_ | (refine Bnd.mk (fun hm => ?_); (try simp only [smT] at hm)) | (refine CL.mk (Or.inl ?_); (conv => whnf); refine Cl.is (hi) rfl (by first | exact fun _ => rfl | fail) ?_) | fail)
    all_goals (conv => whnf)
    all_goals exact Ret.is rfl
theorem count_T (s : ByteArray) : CallsA Tryd.prog 57 [dsr s, dsr dot] [] (Is (di (Go.Lib.countByte s.data.toList 46))) := by
  have hd : (dot[0].toNat : Int) = 46 := rfl
  have hr : ∀ w, (Extern.BytealgCount.count #[.string s, .int .u8 46]).run Tryd.prog w = .ok (.int .i64 (Go.Lib.countByte s.data.toList 46)) w := fun w => by
    rw [Go.Lib.run_countString]; rfl
  have hf := Tryd.func67
  refine callsA_of_vc (T := tt) Tryd.func57 rfl rfl rfl rfl rfl ?_
  repeat' ((conv => whnf); first | (refine CL.mk (Or.inr (Raw.extSB (e := Extern.BytealgCount.count) rfl rfl hf (by kernel_rfl) (by kernel_rfl) (by kernel_rfl) (by kernel_rfl) hr rfl ?_))) | (refine Sbx.mk ⟨0, (by decide), rfl, ?_⟩; rw [hd]) | refine Gs.id ?_ | with_reducible refine Brn.T rfl ?_ | with_reducible refine Brn.F rfl ?_ | (refine Bnd.mk (fun hm => ?_); (try simp only [smT] at hm)) | fail)
  all_goals (conv => whnf)
  all_goals exact Ret.is rfl
theorem index_T (s : ByteArray) : CallsA Tryd.prog 58 [dsr s, dsr dot] [] (Is (di (Go.Lib.indexByte s.data.toList 46))) := by
  have h := index0_T s
  have e : (if s = dot then 0 else Go.Lib.indexByte s.data.toList 46) = Go.Lib.indexByte s.data.toList 46 := by
    by_cases h : s = dot
    · subst h; decide
    · rw [if_neg h]
  rw [e] at h
  refine callsA_of_vc (T := tt) Tryd.func58 rfl rfl rfl rfl rfl ?_
  repeat' ((conv => whnf); first | refine Gs.id ?_ | (refine CL.mk (Or.inl ?_); (conv => whnf); refine Cl.is (h) rfl (by first | exact fun _ => rfl | fail) ?_) | fail)
  all_goals (conv => whnf)
  all_goals exact Ret.is rfl
end Go.Proofs.YtgloielnnakknaaDoor
namespace Go.Proofs.YtgloielnnakknaaDoor
open Go.RowKit
def cutI (s : ByteArray) : Int := Go.Lib.indexByte s.data.toList 46
def stI (s : ByteArray) : Nat → ByteArray × List ByteArray
  | 0 => (s, [])
  | i + 1 => ((stI s i).1.extract ((cutI (stI s i).1).toNat + 1) (stI s i).1.size, (stI s i).2 ++ [(stI s i).1.extract 0 (cutI (stI s i).1).toNat])
def cntB (s : ByteArray) : Nat := Go.Lib.countByte s.data.toList 46
theorem idx_cnt : ∀ (l : List UInt8), 0 < l.count 46 → 0 ≤ Go.Lib.indexByte l 46 ∧ (Go.Lib.indexByte l 46).toNat < l.length ∧ (l.drop ((Go.Lib.indexByte l 46).toNat + 1)).count 46 + 1 = l.count 46
  | [], h => by simp at h
  | b :: l, h => by
    by_cases hb : b = 46
    · subst hb
      simp [Go.Lib.indexByte]
    · have hc : (b :: l).count 46 = l.count 46 := by rw [List.count_cons]; simp [hb]
      rw [hc] at h
      obtain ⟨h1, h2, h3⟩ := idx_cnt l h
      have e : Go.Lib.indexByte (b :: l) 46 = Go.Lib.indexByte l 46 + 1 := by
        rw [Go.Lib.indexByte]
        have h4 : (b == 46) = false := by simpa using hb
        have h5 : (Go.Lib.indexByte l 46 == -1) = false := by simp; omega
        rw [h4, h5]; rfl
      rw [e, hc]
      have e2 : (Go.Lib.indexByte l 46 + 1).toNat = (Go.Lib.indexByte l 46).toNat + 1 := by omega
      rw [e2]
      exact ⟨by omega, by simp; omega, by simpa using h3⟩
theorem cut_ok {s : ByteArray} (h : 0 < cntB s) : 0 ≤ cutI s ∧ (cutI s).toNat < s.size ∧ cntB (s.extract ((cutI s).toNat + 1) s.size) + 1 = cntB s := by
  obtain ⟨h1, h2, h3⟩ := idx_cnt s.data.toList h
  refine ⟨h1, by simpa [cutI] using h2, ?_⟩
  have e : (s.extract ((cutI s).toNat + 1) s.size).data.toList = s.data.toList.drop ((cutI s).toNat + 1) := by
    simp [ByteArray.data_extract, Array.toList_extract, List.extract_eq_take_drop]
    rw [List.take_of_length_le (by simp)]
  rw [cntB, e]
  exact h3
theorem stI_ok (s : ByteArray) : ∀ i, i ≤ cntB s → cntB (stI s i).1 + i = cntB s ∧ (stI s i).2.length = i ∧ (stI s i).1.size ≤ s.size
  | 0, _ => ⟨rfl, rfl, Nat.le_refl _⟩
  | i + 1, h => by
    obtain ⟨h1, h2, h3⟩ := stI_ok s i (by omega)
    obtain ⟨c1, c2, c3⟩ := cut_ok (s := (stI s i).1) (by omega)
    refine ⟨by rw [stI]; dsimp only; omega, by rw [stI]; simp [h2], ?_⟩
    rw [stI]
    simp
    omega
theorem cnt_le (s : ByteArray) : cntB s ≤ s.size := by
  have := List.count_le_length (a := (46 : UInt8)) (l := s.data.toList)
  simpa [cntB, Go.Lib.countByte] using this
abbrev zs (n : Nat) : List (List V) := List.replicate n [V.str (ByteArray.mk #[])]
theorem zs_set (L : List ByteArray) (n : Nat) (x : ByteArray) : (strs L ++ zs (n + 1)).set L.length [V.str x] = strs (L ++ [x]) ++ zs n := by
  rw [List.set_append_right _ _ (by simp)]
  simp [List.replicate_succ]
def splitM (s : ByteArray) : List ByteArray := (stI s (cntB s)).2 ++ [(stI s (cntB s)).1]
set_option maxHeartbeats 2000000 in
theorem genSplit_T (s : ByteArray) (hs : s.size ≤ 60) : CallsA Tryd.prog 46 [dsr s, dsr dot, di 0, di (-1)] [] (Is (.d (.u (.sl 1 (strs (splitM s)))))) := by
  have hc := count_T s
  have hle := cnt_le s
  have hix := fun r : ByteArray => index_T r
  have hcn : (Go.Lib.countByte s.data.toList 46 : Nat) = cntB s := rfl
  rw [hcn] at hc
  have hok := stI_ok s
  rw [splitM]
  have hcut : ∀ i, i < cntB s → 0 ≤ cutI (stI s i).1 ∧ (cutI (stI s i).1).toNat < (stI s i).1.size := fun i hi => by
    obtain ⟨h1, _, _⟩ := hok i (by omega)
    obtain ⟨c1, c2, _⟩ := cut_ok (s := (stI s i).1) (by omega)
    exact ⟨c1, c2⟩
  have hcc : ∀ i, i ≤ cntB s → (stI s i).2.length = i ∧ (stI s i).1.size ≤ s.size := fun i hi => (hok i hi).2
  clear hok
  generalize cntB s = n at *
  have hmin : min (n : Int) (s.size : Int) = n := by omega
  refine callsA_of_vc (T := tt) Tryd.func46 rfl rfl rfl rfl rfl ?_
  repeat' ((conv => whnf); first | refine Raw.makeSlice (T := tt) (n + 1) rfl rfl (by omega) (by omega) rfl rfl rfl rfl rfl rfl rfl (by omega) (by omega) ?_ | refine Gs.id ?_ | with_reducible refine Brn.T rfl ?_ | with_reducible refine Brn.F rfl ?_ | refine Brn.F (by (try simp only [smT]); first | rfl | (simp [*]; done) | fail) ?_ | (refine Bnd.mk (fun hm => ?_); (try simp only [smT] at hm)) | refine Rng.mk (by (try simp only [smT]); omega) ?_ | (refine CL.mk (Or.inl ?_); (conv => whnf); refine Cl.is (hc) rfl (by first | exact fun _ => rfl | fail) ?_) | fail)
  all_goals (conv => whnf)
  refine ⟨⟨Nat, fun i => i ≤ n, fun i => n - i, fun i => ⟨[(0, dsr (stI s i).1), (1, dsr dot), (2, di 0), (3, di n), (9, .d (.ow 900 (n + 1))), (10, di i)], [(900, .ar 9 1 (strs (stI s i).2 ++ zs (n + 1 - i)))]⟩, 0, Nat.zero_le _, ⟨[(900, .k 31)], ⟨by (try dsimp only); (repeat (refine LeT.cons rfl (by first | exact LeS.d (by first | exact LeD.u rfl | exact LeD.ow rfl rfl | exact LeD.u (by simp [hmin]; done) | fail) | fail) ?_)); exact LeT.nil, by (try dsimp only); repeat (first | exact LeO.nil | refine LeO.ar rfl rfl (by first | rfl | fail) ?_ | fail)⟩⟩, fun i hi => ?_⟩⟩
  dsimp only at hi ⊢
  obtain ⟨l1, l2⟩ := hcc i hi
  by_cases h9 : i < n
  · obtain ⟨c1, c2⟩ := hcut i h9
    have hst := stI.eq_2 s i
    have hi2 : CallsA Tryd.prog 58 [dsr (stI s i).1, dsr dot] [] (Is (di (cutI (stI s i).1))) := hix (stI s i).1
    generalize cutI (stI s i).1 = m at *
    obtain ⟨m, rfl⟩ : ∃ k : Nat, m = (k : Int) := ⟨m.toNat, by omega⟩
    rw [Int.toNat_natCast] at hst c2
    generalize (stI s i).1 = r at *
    generalize (stI s i).2 = L at *
    have hds : dot.size = 1 := rfl
    have hzz : zs (n + 1 - i) = zs ((n - i) + 1) := by rw [show n + 1 - i = n - i + 1 by omega]
    have hset := zs_set L (n - i) (r.extract 0 m)
    rw [l1] at hset
    rw [hzz]
    have hrw : ∀ {K : List V → Prop}, K [V.str (ByteArray.mk #[])] → Rw (strs L ++ zs (n - i + 1)) i K := fun k => Rw.get (by rw [List.getElem?_append_right (by simp [l1])]; simp [l1]) k
    repeat' ((conv => whnf); first | refine Slc.mk ⟨0, m, rfl, (by omega), by omega, by omega, ?_⟩ | refine Slc.mk ⟨(m + 1), r.size, (by rw [hds]; omega), rfl, by omega, by omega, ?_⟩ | refine Ixo.mk ⟨i, rfl, by omega, ?_⟩ | refine hrw ?_ | refine Gs.id ?_ | with_reducible refine Brn.F rfl ?_ | refine Brn.T (by (try simp only [smT]); first | rfl | omega | fail) ?_ | (refine Bnd.mk (fun hm => ?_); (try simp only [smT] at hm)) | refine Rng.mk (by (try simp only [smT]); omega) ?_ | (refine CL.mk (Or.inl ?_); (conv => whnf); refine Cl.is (hi2) rfl (by first | exact fun _ => rfl | fail) ?_) | fail)
    all_goals (conv => whnf)
    have hz2 : n + 1 - (i + 1) = n - i := by omega
    all_goals
      refine ⟨i + 1, by omega, by omega, [(900, .k 900)], ?_⟩
      rw [hst, hz2]
      exact ⟨by (try dsimp only); (repeat (refine LeT.cons rfl (by first | exact LeS.d (by first | exact LeD.u rfl | exact LeD.ow rfl rfl | fail) | fail) ?_)); exact LeT.nil, by (try dsimp only); repeat (first | exact LeO.nil | refine LeO.ar rfl rfl (by first | simp [hset]) ?_ | fail)⟩
  · obtain rfl : i = n := by omega
    clear hcut hcc hmin
    generalize (stI s i).1 = r at *
    generalize (stI s i).2 = L at *
    have hzz : zs (i + 1 - i) = zs (0 + 1) := by rw [show i + 1 - i = 1 by omega]
    have hset := zs_set L 0 r
    rw [l1] at hset
    rw [hzz]
    have hrw : ∀ {K : List V → Prop}, K [V.str (ByteArray.mk #[])] → Rw (strs L ++ zs (0 + 1)) i K := fun k => Rw.get (by rw [List.getElem?_append_right (by simp [l1])]; simp [l1]) k
    repeat' ((conv => whnf); first | refine Ixo.mk ⟨i, rfl, by omega, ?_⟩ | refine hrw ?_ | refine Slc.mk ⟨0, i + 1, rfl, rfl, by omega, by simp [l1], ?_⟩ | refine Gs.id ?_ | refine Brn.F (by (try simp only [smT]); first | rfl | omega | fail) ?_ | refine Rng.mk (by (try simp only [smT]); omega) ?_ | fail)
    all_goals (conv => whnf)
    all_goals
      refine Len.mk (by simp [l1]) ?_
      exact Ret.is (by simp at hset; simp [tupT, SC.up]; exact hset)
end Go.Proofs.YtgloielnnakknaaDoor
namespace Go.Proofs.YtgloielnnakknaaDoor
open Go.RowKit
theorem split_T (s : ByteArray) (hs : s.size ≤ 60) : CallsA Tryd.prog 37 [dsr s, dsr dot] [] (Is (.d (.u (.sl 1 (strs (splitM s)))))) := by
  have h := genSplit_T s hs
  refine callsA_of_vc (T := tt) Tryd.func37 rfl rfl rfl rfl rfl ?_
  repeat' ((conv => whnf); first | refine Gs.id ?_ | (refine CL.mk (Or.inl ?_); (conv => whnf); refine Cl.is (h) rfl (by first | (intro e; cases e; done) | fail) ?_) | fail)
  all_goals (conv => whnf)
  all_goals exact Ret.is rfl
theorem notName_T (s : ByteArray) : CallsA Tryd.prog 38 [dsr s] [] (Is (db (!nameB s))) := by
  have h := isName_T' s
  refine callsA_of_vc (T := tt) Tryd.func38 rfl rfl rfl rfl rfl ?_
  repeat' ((conv => whnf); first | refine Gs.id ?_ | (refine CL.mk (Or.inl ?_); (conv => whnf); refine Cl.is (h) rfl (by first | exact fun _ => rfl | fail) ?_) | fail)
  all_goals (conv => whnf)
  all_goals exact Ret.is rfl
/-- Where the first stands that is no name, from i on; -1: nowhere. -/
def badI : List ByteArray → Nat → Int
  | [], _ => -1
  | x :: l, i => if nameB x then badI l (i + 1) else i
theorem badI_all : ∀ (l : List ByteArray) (i : Nat), decide (0 ≤ badI l i) = !l.all nameB
  | [], i => rfl
  | x :: l, i => by
    rw [badI, List.all_cons]
    cases nameB x
    · simp
    · simpa using badI_all l (i + 1)
abbrev fnD : V := .fn 38
theorem indexFunc_T (l : List ByteArray) (hl : l.length ≤ 1000000) : CallsA Tryd.prog 45 [.d (.u (.sl 1 (strs l))), .d (.u fnD)] [] (Is (di (badI l 0))) := by
  refine callsA_of_vc (T := tt) Tryd.func45 rfl rfl rfl rfl rfl ?_
  repeat' ((conv => whnf); first | refine Gs.id ?_ | (refine Bnd.mk (fun hm => ?_); (try simp only [smT] at hm)) | fail)
  all_goals (conv => whnf)
  refine ⟨⟨Nat, fun i => i ≤ l.length ∧ badI l 0 = badI (l.drop i) i, fun i => l.length - i, fun i => ⟨[(0, .d (.u (.sl 1 (strs l)))), (1, .d (.u fnD)), (7, di l.length), (8, di i)], []⟩, 0, ⟨Nat.zero_le _, rfl⟩, ⟨[], ⟨by (try dsimp only); (repeat (refine LeT.cons rfl (by first | exact LeS.d (by first | exact LeD.u rfl | exact LeD.u (by simp; done) | fail) | fail) ?_)); exact LeT.nil, by (try dsimp only); repeat (first | exact LeO.nil | fail)⟩⟩, fun i hi => ?_⟩⟩
  obtain ⟨hi, he⟩ := hi
  dsimp only
  rw [he]
  by_cases h9 : i < l.length
  · rw [List.drop_eq_getElem_cons h9, badI]
    have hrow : ∀ {K : List V → Prop}, K [V.str l[i]] → Ix (strs l) (i : Int) K := fun k => Ix.map rfl h9 k
    generalize l[i] = x at *
    have hn := notName_T x
    cases hx : nameB x
    · rw [hx] at hn
      repeat' ((conv => whnf); first | refine hrow ?_ | refine Gs.id ?_ | with_reducible refine Brn.T rfl ?_ | refine Brn.T (by (try simp only [smT]); first | rfl | omega | fail) ?_ | (refine Raw.callF [] [] rfl rfl rfl rfl rfl rfl rfl rfl (hn) ?_; rintro _ _ ⟨rfl, rfl⟩; refine Bk.mk rfl rfl ?_))
      all_goals (conv => whnf)
      all_goals exact Ret.is rfl
    · rw [hx] at hn
      repeat' ((conv => whnf); first | refine hrow ?_ | refine Gs.id ?_ | with_reducible refine Brn.F rfl ?_ | refine Brn.T (by (try simp only [smT]); first | rfl | omega | fail) ?_ | refine Rng.mk (by (try simp only [smT]); omega) ?_ | (refine Raw.callF [] [] rfl rfl rfl rfl rfl rfl rfl rfl (hn) ?_; rintro _ _ ⟨rfl, rfl⟩; refine Bk.mk rfl rfl ?_))
      all_goals (conv => whnf)
      all_goals exact ⟨i + 1, ⟨by omega, by rw [if_pos rfl]⟩, by omega, [], ⟨by (try dsimp only); (repeat (refine LeT.cons rfl (by first | exact LeS.d (by first | exact LeD.u rfl | fail) | fail) ?_)); exact LeT.nil, by (try dsimp only); repeat (first | exact LeO.nil | fail)⟩⟩
  · obtain rfl : i = l.length := by omega
    rw [List.drop_length, badI]
    repeat' ((conv => whnf); first | refine Gs.id ?_ | refine Brn.F (by (try simp only [smT]); first | rfl | omega | fail) ?_ | fail)
    all_goals (conv => whnf)
    all_goals exact Ret.is rfl
theorem containsFunc_T (l : List ByteArray) (hl : l.length ≤ 1000000) : CallsA Tryd.prog 36 [.d (.u (.sl 1 (strs l))), .d (.u fnD)] [] (Is (db (!l.all nameB))) := by
  have h := indexFunc_T l hl
  rw [← badI_all l 0]
  refine callsA_of_vc (T := tt) Tryd.func36 rfl rfl rfl rfl rfl ?_
  repeat' ((conv => whnf); first | refine Gs.id ?_ | (refine CL.mk (Or.inl ?_); (conv => whnf); refine Cl.is (h) rfl (by first | exact fun _ => rfl | fail) ?_) | fail)
  all_goals (conv => whnf)
  all_goals exact Ret.is rfl
theorem splitM_len (s : ByteArray) : (splitM s).length ≤ s.size + 1 := by
  have h1 := (stI_ok s (cntB s) (Nat.le_refl _)).2.1
  have h2 := cnt_le s
  simp [splitM, h1]
  omega
def dottedM (s : ByteArray) : Bool := decide ((s.size : Int) ≤ 60) && (splitM s).all nameB
theorem dotted_T (s : ByteArray) : CallsA Tryd.prog 22 [dsr s] [] (Is (db (dottedM s))) := by
  by_cases h : (s.size : Int) ≤ 60
  · have e : dottedM s = (splitM s).all nameB := by simp [dottedM, h]
    rw [e]
    have h1 := split_T s (by omega)
    have h2 := containsFunc_T (splitM s) (by have := splitM_len s; omega)
    have h3 : (!!(splitM s).all nameB) = (splitM s).all nameB := by simp
    refine callsA_of_vc (T := tt) Tryd.func22 rfl rfl rfl rfl rfl ?_
    repeat' ((conv => whnf); first | refine Gs.id ?_ | refine Brn.T (by (try simp only [smT]); first | rfl | assumption | fail) ?_ | (refine Bnd.mk (fun hm => ?_); (try simp only [smT] at hm)) | (refine CL.mk (Or.inl ?_); (conv => whnf); first | refine Cl.is (h1) rfl (by first | (intro e; cases e; done) | fail) ?_ | refine Cl.is (h2) rfl (by first | exact fun _ => rfl | fail) ?_) | fail)
    all_goals (conv => whnf)
    all_goals exact Ret.is (by simp [tupT, SC.up])
  · have e : dottedM s = false := by simp [dottedM, h]
    rw [e]
    refine callsA_of_vc (T := tt) Tryd.func22 rfl rfl rfl rfl rfl ?_
    repeat' ((conv => whnf); first | refine Gs.id ?_ | refine Brn.F (by (try simp only [smT]); first | rfl | omega | fail) ?_ | (refine Bnd.mk (fun hm => ?_); (try simp only [smT] at hm)) | fail)
    all_goals (conv => whnf)
    all_goals exact Ret.is rfl
end Go.Proofs.YtgloielnnakknaaDoor
namespace Go.Proofs.YtgloielnnakknaaDoor
def dotL : List UInt8 → List (List UInt8)
  | [] => [[]]
  | b :: l => if b = 46 then [] :: dotL l else match dotL l with
    | [] => [[b]]
    | x :: r => (b :: x) :: r
def preL (x : List UInt8) : List (List UInt8) → List (List UInt8)
  | [] => [x]
  | y :: r => (x ++ y) :: r
abbrev tl (l : List ByteArray) : List (List UInt8) := l.map fun s => s.data.toList
end Go.Proofs.YtgloielnnakknaaDoor
namespace Go.Proofs.YtgloielnnakknaaDoor
open Go.RowKit
theorem chainOk_T (s : ByteArray) (h : dottedM s = true) : CallsA Tryd.prog 8 [dsr s] [] (Is (.t [.d (.u (strs' (chainM s))), .a [.u (.int .i64 0), .u (.int .i64 0)]])) := by
  have h1 := dotted_T s
  rw [h] at h1
  have hs : s.size ≤ 60 := by simp [dottedM] at h; omega
  have h2 := chain_T s (by omega)
  refine callsA_of_vc (T := tt) Tryd.func8 rfl rfl rfl rfl rfl ?_
  repeat' ((conv => whnf); first | refine Gs.id ?_ | with_reducible refine Brn.F rfl ?_ | (refine CL.mk (Or.inl ?_); (conv => whnf); first | refine Cl.is (h1) rfl (by first | exact fun _ => rfl | fail) ?_ | refine Cl.is (h2) rfl (by first | (intro e; cases e; done) | fail) ?_) | fail)
  all_goals (conv => whnf)
  all_goals exact Ret.is rfl
end Go.Proofs.YtgloielnnakknaaDoor
namespace Go.Proofs.YtgloielnnakknaaDoor
open Go.RowKit
/-- The last c among the first i bytes; -1: none. -/
def lastB (s : ByteArray) (c : UInt8) : Nat → Int
  | 0 => -1
  | i + 1 => if s.data[i]? = some c then i else lastB s c i
theorem lastIdx0_T (s : ByteArray) (c : UInt8) (hs : s.size ≤ 1000000000000) : CallsA Tryd.prog 86 [dsr s, dby c.toNat] [] (Is (di (lastB s c s.size))) := by
  refine callsA_of_vc (T := tt) Tryd.func86 rfl rfl rfl rfl rfl ?_
  repeat' ((conv => whnf); first | refine Gs.id ?_ | (refine Bnd.mk (fun hm => ?_); (try simp only [smT] at hm)) | refine Rng.mk (by (try simp only [smT]); omega) ?_ | fail)
  all_goals (conv => whnf)
  refine ⟨⟨Nat, fun i => i ≤ s.size ∧ lastB s c s.size = lastB s c i, fun i => i, fun i => ⟨[(0, dsr s), (1, dby c.toNat), (5, di ((i : Int) - 1))], []⟩, s.size, ⟨Nat.le_refl _, rfl⟩, ⟨[], ⟨by (try dsimp only); (repeat (refine LeT.cons rfl (by first | exact LeS.d (by first | exact LeD.u rfl | fail) | fail) ?_)); exact LeT.nil, by (try dsimp only); repeat (first | exact LeO.nil | fail)⟩⟩, fun i hi => ?_⟩⟩
  obtain ⟨hi, he⟩ := hi
  dsimp only
  rw [he]
  cases i with
  | zero =>
    rw [lastB]
    repeat' ((conv => whnf); first | refine Gs.id ?_ | with_reducible refine Brn.F rfl ?_ | fail)
    all_goals (conv => whnf)
    all_goals exact Ret.is rfl
  | succ i =>
    have h9 : i < s.size := by omega
    have hget : s.data[i]? = some s[i] := by simp [ByteArray.getElem_eq_getElem_data, h9]
    have hcast : ((i + 1 : Nat) : Int) - 1 = (i : Int) := by omega
    rw [lastB, hget, hcast]
    by_cases hc : s[i] = c
    · rw [if_pos (by rw [hc])]
      have hcn : (s[i].toNat : Int) = (c.toNat : Int) := by rw [hc]
      generalize hx : (s[i].toNat : Int) = x at *
      repeat' ((conv => whnf); first | (refine Sbx.mk ⟨i, h9, rfl, ?_⟩; rw [hx]) | refine Gs.id ?_ | with_reducible refine Brn.T rfl ?_ | refine Brn.T (by (try simp only [smT]); first | rfl | assumption | fail) ?_ | fail)
      all_goals (conv => whnf)
      all_goals exact Ret.is rfl
    · rw [if_neg (by simpa using hc)]
      have hcn : ¬ (s[i].toNat : Int) = (c.toNat : Int) := fun e => hc (UInt8.toNat_inj.1 (by omega))
      generalize hx : (s[i].toNat : Int) = x at *
      repeat' ((conv => whnf); first | (refine Sbx.mk ⟨i, h9, rfl, ?_⟩; rw [hx]) | refine Gs.id ?_ | with_reducible refine Brn.T rfl ?_ | refine Brn.F (by (try simp only [smT]); first | rfl | assumption | fail) ?_ | refine Rng.mk (by (try simp only [smT]); omega) ?_ | fail)
      all_goals (conv => whnf)
      all_goals exact ⟨i, ⟨by omega, by simp [lastB, hget, hc] at he ⊢⟩, by omega, [], ⟨by (try dsimp only); (repeat (refine LeT.cons rfl (by first | exact LeS.d (by first | exact LeD.u rfl | fail) | fail) ?_)); exact LeT.nil, by (try dsimp only); repeat (first | exact LeO.nil | fail)⟩⟩
theorem lastIdx_T (s : ByteArray) (c : UInt8) (hs : s.size ≤ 1000000000000) : CallsA Tryd.prog 81 [dsr s, dby c.toNat] [] (Is (di (lastB s c s.size))) := by
  have h := lastIdx0_T s c hs
  refine callsA_of_vc (T := tt) Tryd.func81 rfl rfl rfl rfl rfl ?_
  repeat' ((conv => whnf); first | refine Gs.id ?_ | (refine CL.mk (Or.inl ?_); (conv => whnf); refine Cl.is (h) rfl (by first | exact fun _ => rfl | fail) ?_) | fail)
  all_goals (conv => whnf)
  all_goals exact Ret.is rfl
theorem indexS_T (s : ByteArray) : CallsA Tryd.prog 68 [dsr s, dsr dot] [] (Is (di (cutI s))) := by
  have h := index0_T s
  have e : (if s = dot then 0 else Go.Lib.indexByte s.data.toList 46) = cutI s := by
    by_cases h : s = dot
    · subst h; decide
    · rw [if_neg h]; rfl
  rw [e] at h
  exact h
end Go.Proofs.YtgloielnnakknaaDoor
namespace Go.Proofs.YtgloielnnakknaaDoor
open Go.RowKit
structure Stp where
  kind : Int
  name : ByteArray
  part : ByteArray
structure Un where
  name : ByteArray
  steps : List Stp
def Stp.row (s : Stp) : List V := [.int .i64 s.kind, .str s.name, .str s.part]
def Un.row (u : Un) : List V := [.str u.name, .sl 3 (u.steps.map Stp.row)]
def emp : ByteArray := ⟨#[]⟩
def simpleM (k : Int) : Bool := decide (k = 1) || decide (k = 2)
def badNameM (s : Stp) : Bool := (simpleM s.kind && !nameB s.name) || ((!simpleM s.kind && !dottedM s.name) || (decide (s.kind = 4) && !nameB s.part))
def stepM (s : Stp) : Int := if s.kind < 1 ∨ 5 < s.kind then 5 else if badNameM s = true then 7 else if s.kind ≠ 4 ∧ s.part ≠ emp then 6 else 0
theorem emp_beq (a : ByteArray) : (a.toList == (⟨#[]⟩ : ByteArray).toList) = decide (a = emp) := toList_beq a emp
theorem step_T (s : Stp) : CallsA Tryd.prog 30 [.a [.u (.int .i64 s.kind), .u (.str s.name), .u (.str s.part)]] [] (Is (di (stepM s))) := by
  obtain ⟨k, n, p⟩ := s
  have h1 := isName_T' n
  have h2 := dotted_T n
  have h3 := isName_T' p
  have h4 := emp_beq p
  dsimp only
  by_cases hk : k < 1 ∨ 5 < k
  · have e : stepM ⟨k, n, p⟩ = 5 := by simp only [stepM]; rw [if_pos hk]
    rw [e]
    refine callsA_of_vc (T := tt) Tryd.func30 rfl rfl rfl rfl rfl ?_
    repeat' ((conv => whnf); first | refine Gs.id ?_ | with_reducible refine Brn.T rfl ?_ | refine Brn.T (by (try simp only [smT]); first | rfl | assumption | omega | fail) ?_ | refine Brn.F (by (try simp only [smT]); first | rfl | assumption | omega | fail) ?_ | (refine Brn.mk (fun hb => ?_) (fun hb => ?_) <;> (try simp only [smT] at hb) <;> (try (exact absurd trivial hb)) <;> (try (exfalso; omega))) | fail)
    all_goals (conv => whnf)
    all_goals first | exact Ret.is rfl | (exfalso; simp_all; omega)
  · by_cases hb0 : badNameM ⟨k, n, p⟩ = true
    · have e : stepM ⟨k, n, p⟩ = 7 := by simp only [stepM]; rw [if_neg hk, if_pos hb0]
      rw [e]
      simp only [badNameM, simpleM] at hb0
      refine callsA_of_vc (T := tt) Tryd.func30 rfl rfl rfl rfl rfl ?_
      repeat' ((conv => whnf); first | refine Gs.id ?_ | with_reducible refine Brn.T rfl ?_ | with_reducible refine Brn.F rfl ?_ | refine Brn.T (by (try simp only [smT]); first | rfl | assumption | omega | fail) ?_ | refine Brn.F (by (try simp only [smT]); first | rfl | assumption | omega | fail) ?_ | (refine Brn.mk (fun hb => ?_) (fun hb => ?_) <;> (try simp only [smT] at hb) <;> (try (exact absurd trivial hb)) <;> (try (exfalso; omega))) | (refine CL.mk (Or.inl ?_); (conv => whnf); first | refine Cl.is (h1) rfl (by first | exact fun _ => rfl | fail) ?_ | refine Cl.is (h2) rfl (by first | exact fun _ => rfl | fail) ?_ | refine Cl.is (h3) rfl (by first | exact fun _ => rfl | fail) ?_) | fail)
      all_goals (conv => whnf)
      all_goals first | exact Ret.is rfl | (exfalso; simp_all; done) | (exfalso; simp_all; omega)
    · have e : stepM ⟨k, n, p⟩ = if k ≠ 4 ∧ p ≠ emp then 6 else 0 := by simp only [stepM]; rw [if_neg hk, if_neg hb0]
      rw [e]
      simp only [badNameM, simpleM] at hb0
      refine callsA_of_vc (T := tt) Tryd.func30 rfl rfl rfl rfl rfl ?_
      repeat' ((conv => whnf); first | refine Gs.id ?_ | with_reducible refine Brn.T rfl ?_ | with_reducible refine Brn.F rfl ?_ | refine Brn.T (by (try simp only [smT]); first | rfl | assumption | omega | fail) ?_ | refine Brn.F (by (try simp only [smT]); first | rfl | assumption | omega | fail) ?_ | (refine Brn.mk (fun hb => ?_) (fun hb => ?_) <;> (try simp only [smT] at hb) <;> (try (exact absurd trivial hb)) <;> (try (exfalso; omega))) | (refine CL.mk (Or.inl ?_); (conv => whnf); first | refine Cl.is (h1) rfl (by first | exact fun _ => rfl | fail) ?_ | refine Cl.is (h2) rfl (by first | exact fun _ => rfl | fail) ?_ | refine Cl.is (h3) rfl (by first | exact fun _ => rfl | fail) ?_) | fail)
      all_goals (conv => whnf)
      all_goals first | (exfalso; simp_all; done) | (exfalso; simp_all; omega) | (refine Ret.is ?_; simp_all; rfl) | (refine Ret.is ?_; simp_all; done)
end Go.Proofs.YtgloielnnakknaaDoor
namespace Go.Proofs.YtgloielnnakknaaDoor
open Go.RowKit
def mainB : ByteArray := ⟨#[109, 97, 105, 110]⟩
theorem main_beq (a : ByteArray) : (a.toList == (⟨#[109, 97, 105, 110]⟩ : ByteArray).toList) = decide (a = mainB) := toList_beq a mainB
/-- Names in a map. -/
def ents (l : List ByteArray) : List (List V × List V) := l.map fun n => ([V.str n], [V.bool true])
def inL (n : ByteArray) (l : List ByteArray) : Bool := l.any fun m => decide (n = m)
def sput (l : List ByteArray) (n : ByteArray) : List ByteArray := if inL n l = true then l else l ++ [n]
theorem ents_ok (l : List ByteArray) : ∀ e ∈ ents l, keyT .sr e.1 = true := by
  intro e he
  simp only [ents, List.mem_map] at he
  obtain ⟨n, _, rfl⟩ := he
  rfl
theorem eqC_str (a b : ByteArray) : eqCs [V.str a] [V.str b] = decide (a = b) := by rw [eqCs_one]; rfl
theorem ents_get (n : ByteArray) : ∀ l, mgetT (ents l) [.str n] [.bool false] = [.bool (inL n l)] ∧ mhasT (ents l) [.str n] = inL n l ∧ mputT (ents l) [.str n] [.bool true] = ents (sput l n)
  | [] => ⟨rfl, rfl, rfl⟩
  | m :: l => by
    obtain ⟨h1, h2, h3⟩ := ents_get n l
    simp only [ents, inL, List.map_cons, mgetT, mhasT, mputT, eqC_str, List.any_cons] at *
    by_cases h : n = m
    · subst h; simp [sput, inL, ents]
    · simp only [h, decide_false, cond_false, Bool.false_or]
      refine ⟨h1, h2, ?_⟩
      rw [h3]
      simp only [sput, inL, List.any_cons, h, decide_false, Bool.false_or]
      split <;> simp_all
def unit0M (u : Un) (i : Nat) (seen : List ByteArray) : Int := if dottedM u.name = false then 7 else if inL u.name seen = true then 8 else if i = 0 ∧ u.name ≠ mainB then 19 else if 30 < (u.steps.length : Int) then 2 else 0
def stepsM : Int → List Stp → Int
  | c, [] => c
  | c, s :: r => stepsM (if c = 0 then stepM s else c) r
def unitM (u : Un) (i : Nat) (seen : List ByteArray) : Int := stepsM (unit0M u i seen) u.steps
def validM : List Un → Nat → List ByteArray → Int × Int
  | [], _, _ => (0, 0)
  | u :: r, i, seen => if unitM u i seen ≠ 0 then (unitM u i seen, i) else validM r (i + 1) (sput seen u.name)
def validateM (l : List Un) : Int × Int := if l.length = 0 then (10, -1) else if 40 < l.length then (2, -1) else validM l 0 []
abbrev uns (l : List Un) : V := .sl 2 (l.map Un.row)
def fd (p : Int × Int) : List D := [.u (.int .i64 p.1), .u (.int .i64 p.2)]
set_option maxHeartbeats 2000000 in
theorem validate_T (l : List Un) : CallsA Tryd.prog 16 [.d (.u (uns l))] [] (Is (.a (fd (validateM l)))) := by
  by_cases h0 : l.length = 0
  · have e : validateM l = (10, -1) := by simp [validateM, h0]
    rw [e]
    refine callsA_of_vc (T := tt) Tryd.func16 rfl rfl rfl rfl rfl ?_
    repeat' ((conv => whnf); first | refine Gs.id ?_ | refine Brn.T (by (try simp only [smT]); first | rfl | omega | fail) ?_ | (refine Bnd.mk (fun hm => ?_); (try simp only [smT] at hm)) | fail)
    all_goals (conv => whnf)
    all_goals first | exact Ret.is rfl | (exfalso; simp_all; omega)
  · by_cases h40 : 40 < l.length
    · have e : validateM l = (2, -1) := by simp [validateM, h0, h40]
      rw [e]
      refine callsA_of_vc (T := tt) Tryd.func16 rfl rfl rfl rfl rfl ?_
      repeat' ((conv => whnf); first | refine Gs.id ?_ | refine Brn.T (by (try simp only [smT]); first | rfl | omega | fail) ?_ | refine Brn.F (by (try simp only [smT]); first | rfl | omega | fail) ?_ | (refine Bnd.mk (fun hm => ?_); (try simp only [smT] at hm)) | fail)
      all_goals (conv => whnf)
      all_goals first | exact Ret.is rfl | (exfalso; simp_all; omega)
    · have e : validateM l = validM l 0 [] := by simp only [validateM]; rw [if_neg h0, if_neg h40]
      rw [e]
      refine callsA_of_vc (T := tt) Tryd.func16 rfl rfl rfl rfl rfl ?_
      repeat' ((conv => whnf); first | refine Gs.id ?_ | refine Brn.F (by (try simp only [smT]); first | rfl | omega | fail) ?_ | (refine Bnd.mk (fun hm => ?_); (try simp only [smT] at hm)) | refine Raw.makeMap (T := tt) rfl rfl rfl rfl rfl rfl (.inl rfl) rfl rfl ?_ | fail)
      all_goals (conv => whnf)
      all_goals first | (exfalso; simp_all; omega) | skip
      refine ⟨⟨Nat × List ByteArray, fun x => x.1 ≤ l.length ∧ validM l 0 [] = validM (l.drop x.1) x.1 x.2, fun x => l.length - x.1, fun x => ⟨[(2, .d (.p 2 0)), (3, .d (.mp 903)), (20, .d (.u (uns l))), (21, di l.length), (22, di x.1)], [(903, .mp false false (ents x.2)), (2, .bx 24 [.u (.int .i64 0), .u (.int .i64 0)])]⟩, (0, []), ⟨by dsimp only; omega, rfl⟩, ⟨[(2, .k 2), (903, .k 19)], ⟨by (try dsimp only); (repeat (refine LeT.cons rfl (by first | exact LeS.d (by first | exact LeD.u rfl | exact LeD.p rfl | exact LeD.u (by simp; done) | exact LeD.mp rfl | fail) | fail) ?_)); exact LeT.nil, by (try dsimp only); repeat (first | exact LeO.nil | refine LeO.bx rfl rfl (by repeat (first | exact LeL.nil | refine LeL.cons (by first | exact LeD.u rfl | fail) ?_)) ?_ | refine LeO.mp rfl rfl (by first | rfl | fail) ?_ | fail)⟩⟩, fun x ⟨hi, he⟩ => ?_⟩⟩
      obtain ⟨i, seen⟩ := x
      dsimp only at *
      by_cases h9 : i < l.length
      · rw [List.drop_eq_getElem_cons h9, validM] at he
        have hrow : ∀ {K : List V → Prop}, K (l[i]).row → Ix (l.map Un.row) (i : Int) K := fun k => Ix.map rfl h9 k
        generalize l[i] = u at *
        obtain ⟨n, st⟩ := u
        have hd := dotted_T n
        obtain ⟨m1, m2, m3⟩ := ents_get n seen
        have hok := ents_ok seen
        have hm := main_beq n
        dsimp only at he
        rw [he]
        generalize hC : unitM ⟨n, st⟩ i seen = C
        rw [unitM] at hC
        simp only [unit0M] at hC
        generalize hV : validM (l.drop (i + 1)) (i + 1) (sput seen n) = W
        refine' cutR (fun c0 : Int => stepsM c0 st = C) (fun c0 => ⟨[(2, .d (.p 2 0)), (3, .d (.mp 903)), (4, di i), (5, .d (.p 5 0)), (6, di c0), (20, .d (.u (uns l))), (21, di l.length), (22, di i)], [(5, .bx 49 [.u (.str n), .u (.sl 3 (st.map Stp.row))]), (903, .mp false false (ents seen)), (2, .bx 24 [.u (.int .i64 0), .u (.int .i64 0)])]⟩) _ (fun hR => ?_) ?_
        rotate_left
        · repeat' ((conv => whnf); first | refine hrow ?_ | refine Mlk.of _ _ (by kernel_rfl) hok m1 m2 ?_ | exact Gs.cut (i := 18) (by assumption) _ [(2, .k 2), (903, .k 903), (5, .k 5)] rfl ⟨by (try dsimp only); (repeat (refine LeT.cons rfl (by first | exact LeS.d (by first | exact LeD.u rfl | exact LeD.p rfl | exact LeD.mp rfl | fail) | fail) ?_)); (first | exact LeT.nil | fail), by (try dsimp only); (repeat (first | exact LeO.nil | refine LeO.bx rfl rfl (by repeat (first | exact LeL.nil | refine LeL.cons (by first | exact LeD.u rfl | fail) ?_)) ?_ | refine LeO.mp rfl rfl (by first | rfl | fail) ?_ | fail)); done⟩ (by clear hR hrow; subst hC; first | (simp_all; done) | (simp_all; rw [if_neg (by omega)])) | refine Gs.id ?_ | with_reducible refine Brn.F rfl ?_ | refine Brn.T (by (try simp only [smT]); first | rfl | assumption | omega | fail) ?_ | refine Brn.F (by (try simp only [smT]); first | rfl | assumption | fail) ?_ | (refine Brn.mk (fun hb => ?_) (fun hb => ?_) <;> (try simp only [smT] at hb) <;> (try (exact absurd trivial hb)) <;> (try (exfalso; omega))) | (refine Bnd.mk (fun hm => ?_); (try simp only [smT] at hm)) | (refine CL.mk (Or.inl ?_); (conv => whnf); refine Cl.is (hd) rfl (by first | exact fun _ => rfl | fail) ?_) | fail)
        · intro c0 hC
          dsimp only
          clear hd m1 m2 hrow hm
          repeat' ((conv => whnf); first | refine Gs.id ?_ | (refine Bnd.mk (fun hm => ?_); (try simp only [smT] at hm)) | refine Raw.mapUpdate (T := tt) (.inl rfl) rfl rfl rfl rfl rfl rfl rfl rfl rfl rfl rfl (by assumption) ?_ | fail)
          all_goals (conv => whnf)
          refine ⟨⟨Nat × Int, fun x => x.1 ≤ st.length ∧ stepsM x.2 (st.drop x.1) = C, fun x => st.length - x.1, fun x => ⟨[(2, .d (.p 2 0)), (3, .d (.mp 903)), (4, di i), (6, di x.2), (20, .d (.u (uns l))), (21, di l.length), (22, di i), (54, .d (.u (.sl 3 (st.map Stp.row)))), (55, di st.length), (56, di x.1)], [(903, .mp false false (ents (sput seen n))), (2, .bx 24 [.u (.int .i64 0), .u (.int .i64 0)])]⟩, (0, c0), ⟨Nat.zero_le _, hC⟩, ⟨[(2, .k 2), (903, .k 903)], ⟨by (try dsimp only); (repeat (refine LeT.cons rfl (by first | exact LeS.d (by first | exact LeD.u rfl | exact LeD.p rfl | exact LeD.u (by simp [m3]; done) | exact LeD.mp rfl | fail) | fail) ?_)); exact LeT.nil, by (try dsimp only); repeat (first | exact LeO.nil | refine LeO.bx rfl rfl (by repeat (first | exact LeL.nil | refine LeL.cons (by first | exact LeD.u rfl | fail) ?_)) ?_ | refine LeO.mp rfl rfl (by first | simp [m3]) ?_ | fail)⟩⟩, fun x ⟨hq, hx⟩ => ?_⟩⟩
          obtain ⟨q, c⟩ := x
          dsimp only at *
          clear hok m3
          by_cases h10 : q < st.length
          · rw [List.drop_eq_getElem_cons h10, stepsM] at hx
            have hrow2 : ∀ {K : List V → Prop}, K (st[q]).row → Ix (st.map Stp.row) (q : Int) K := fun k => Ix.map rfl h10 k
            have hs := step_T st[q]
            generalize st[q] = s at *
            obtain ⟨a1, a2, a3⟩ := s
            dsimp only at hs
            generalize stepM ⟨a1, a2, a3⟩ = cc at *
            repeat' ((conv => whnf); first | refine hrow2 ?_ | refine Gs.id ?_ | refine Brn.T (by (try simp only [smT]); first | rfl | omega | fail) ?_ | (refine Brn.mk (fun hb => ?_) (fun hb => ?_) <;> (try simp only [smT] at hb) <;> (try (exact absurd trivial hb)) <;> (try (exfalso; omega))) | refine Rng.mk (by (try simp only [smT]); omega) ?_ | (refine CL.mk (Or.inl ?_); (conv => whnf); refine Cl.is (hs) rfl (by first | exact fun _ => rfl | fail) ?_) | fail)
            all_goals (conv => whnf)
            · rw [if_pos (by assumption)] at hx
              exact ⟨(q + 1, cc), ⟨by dsimp only; omega, hx⟩, by dsimp only; omega, [(2, .k 2), (903, .k 903)], ⟨by (try dsimp only); (repeat (refine LeT.cons rfl (by first | exact LeS.d (by first | exact LeD.u rfl | exact LeD.p rfl | exact LeD.mp rfl | fail) | fail) ?_)); exact LeT.nil, by (try dsimp only); repeat (first | exact LeO.nil | refine LeO.bx rfl rfl (by repeat (first | exact LeL.nil | refine LeL.cons (by first | exact LeD.u rfl | fail) ?_)) ?_ | refine LeO.mp rfl rfl (by first | rfl | fail) ?_ | fail)⟩⟩
            · rw [if_neg (by simpa using (by assumption))] at hx
              exact ⟨(q + 1, c), ⟨by dsimp only; omega, hx⟩, by dsimp only; omega, [(2, .k 2), (903, .k 903)], ⟨by (try dsimp only); (repeat (refine LeT.cons rfl (by first | exact LeS.d (by first | exact LeD.u rfl | exact LeD.p rfl | exact LeD.mp rfl | fail) | fail) ?_)); exact LeT.nil, by (try dsimp only); repeat (first | exact LeO.nil | refine LeO.bx rfl rfl (by repeat (first | exact LeL.nil | refine LeL.cons (by first | exact LeD.u rfl | fail) ?_)) ?_ | refine LeO.mp rfl rfl (by first | rfl | fail) ?_ | fail)⟩⟩
          · obtain rfl : q = st.length := by omega
            rw [List.drop_length, stepsM] at hx
            subst hx
            repeat' ((conv => whnf); first | refine Gs.id ?_ | refine Brn.F (by (try simp only [smT]); first | rfl | omega | fail) ?_ | (refine Brn.mk (fun hb => ?_) (fun hb => ?_) <;> (try simp only [smT] at hb) <;> (try (exact absurd trivial hb)) <;> (try (exfalso; omega))) | refine Rng.mk (by (try simp only [smT]); omega) ?_ | fail)
            all_goals (conv => whnf)
            · rw [if_pos (by simpa using (by assumption))]; exact Ret.is rfl
            · exact ⟨(i + 1, sput seen n), ⟨by dsimp only; omega, by dsimp only; rw [if_neg (by simpa using (by assumption))]; exact hV.symm⟩, by dsimp only; omega, [(2, .k 2), (903, .k 903)], ⟨by (try dsimp only); (repeat (refine LeT.cons rfl (by first | exact LeS.d (by first | exact LeD.u rfl | exact LeD.p rfl | exact LeD.mp rfl | fail) | fail) ?_)); exact LeT.nil, by (try dsimp only); repeat (first | exact LeO.nil | refine LeO.bx rfl rfl (by repeat (first | exact LeL.nil | refine LeL.cons (by first | exact LeD.u rfl | fail) ?_)) ?_ | refine LeO.mp rfl rfl (by first | rfl | fail) ?_ | fail)⟩⟩
      · obtain rfl : i = l.length := by omega
        rw [List.drop_length, validM] at he
        rw [he]
        repeat' ((conv => whnf); first | refine Gs.id ?_ | refine Brn.F (by (try simp only [smT]); first | rfl | omega | fail) ?_ | fail)
        all_goals (conv => whnf)
        all_goals exact Ret.is rfl
end Go.Proofs.YtgloielnnakknaaDoor
namespace Go.Proofs.YtgloielnnakknaaDoor
open Go.RowKit
/-- An attribute: a module's number, or none. -/
structure At where
  name : ByteArray
  mod : Option Nat
def ptrV : Option Nat → V
  | none => .pn
  | some i => .m 2 i 0
abbrev At.v (a : At) : List V := [.str a.name, ptrV a.mod]
structure Md where
  name : ByteArray
  run : Int
  ats : List At
abbrev Md.row (m : Md) : List E := [.v (.str m.name), .v (.int .i64 m.run), .os 84 2 (m.ats.map At.v)]
structure Ev where
  kind : Int
  name : ByteArray
abbrev Ev.v (e : Ev) : List V := [.int .i64 e.kind, .str e.name]
abbrev uents (us : List Un) : List (List V × List V) := us.map fun u => ([V.str u.name], u.row)
abbrev ptr1 (t : List Nat) : List (List V) := t.map fun i => [V.m 2 i 0]
abbrev ldRow (us : List Un) (table : List Nat) (log : List Ev) (full : Bool) : List E := [.v (.fz true (uents us)), .os 71 1 (ptr1 table), .os 43 2 (log.map Ev.v), .v (.bool full)]
abbrev ldOb (us : List Un) (mods : List Md) (table : List Nat) (log : List Ev) (full : Bool) : List (Nat × Ob) := [(1, .fm 63 [ldRow us table log full]), (2, .fm 82 (mods.map Md.row))]
abbrev ldP : SV := .d (.u (.m 1 0 0))
abbrev mdP (i : Nat) : SV := .d (.u (.m 2 i 0))
def noteFull (log : List Ev) (full : Bool) : Bool := full || decide (log.length = 5000)
def noteLog (log : List Ev) (full : Bool) (k : Int) (n : ByteArray) : List Ev := if noteFull log full = true then log else log ++ [⟨k, n⟩]
theorem note_T (us : List Un) (mods : List Md) (table : List Nat) (log : List Ev) (full : Bool) (k : Int) (n : ByteArray) (hl : log.length ≤ 5000) : CallsA Tryd.prog 48 [ldP, di k, dsr n] (ldOb us mods table log full) (Iso (.t []) (ldOb us mods table (noteLog log full k n) (noteFull log full))) := by
  cases full
  · by_cases h5 : log.length = 5000
    · have e : noteFull log false = true := by simp [noteFull, h5]
      have e2 : noteLog log false k n = log := by simp [noteLog, e]
      rw [e, e2]
      have h5' : (log.length : Int) = 5000 := by omega
      refine callsA_of_vcO (T := tt) Tryd.func48 rfl rfl rfl rfl rfl ?_
      repeat' ((conv => whnf); first | refine Gs.id ?_ | with_reducible refine Brn.F rfl ?_ | refine Brn.F (by (try simp only [smT]); first | rfl | assumption | fail) ?_ | (refine Bnd.mk (fun hm => ?_); (try simp only [smT] at hm)) | refine Rw.lit rfl ?_ | fail)
      all_goals (conv => whnf)
      all_goals exact RetO.mk ⟨[], _, _, .ts .nil, LeO.fm rfl (by simp [h5']) (LeO.fm rfl rfl .nil), rfl, rfl⟩
    · have e : noteFull log false = false := by simp [noteFull, h5]
      have e2 : noteLog log false k n = log ++ [⟨k, n⟩] := by simp [noteLog, e]
      rw [e, e2]
      have h5' : ¬ (log.length : Int) = 5000 := by omega
      refine callsA_of_vcO (T := tt) Tryd.func48 rfl rfl rfl rfl rfl ?_
      repeat' ((conv => whnf); first | refine Gs.id ?_ | with_reducible refine Brn.F rfl ?_ | refine Brn.T (by (try simp only [smT]); first | rfl | assumption | fail) ?_ | (refine Bnd.mk (fun hm => ?_); (try simp only [smT] at hm)) | refine Rw.lit rfl ?_ | refine Len.mk (by first | rfl | fail) ?_ | refine Apd.mk (by first | rfl | fail) (by first | rfl | fail) (by (try simp only [smT]); first | omega | fail) (by unfold maxLen; first | (simp; omega) | fail) ?_ | (refine Raw.appendR (T := tt) ?_; (conv => whnf); first | refine Rw.lit rfl ?_ | fail) | fail)
      all_goals (conv => whnf)
      all_goals exact RetO.mk ⟨[], _, _, .ts .nil, LeO.fm rfl (by simp [h5']) (LeO.fm rfl rfl .nil), rfl, rfl⟩
  · have e : noteFull log true = true := by simp [noteFull]
    have e2 : noteLog log true k n = log := by simp [noteLog, e]
    rw [e, e2]
    refine callsA_of_vcO (T := tt) Tryd.func48 rfl rfl rfl rfl rfl ?_
    repeat' ((conv => whnf); first | refine Gs.id ?_ | with_reducible refine Brn.T rfl ?_ | with_reducible refine Brn.F rfl ?_ | refine Rw.lit rfl ?_ | fail)
    all_goals (conv => whnf)
    all_goals exact RetO.mk ⟨[], _, _, .ts .nil, LeO.fm rfl (by simp) (LeO.fm rfl rfl .nil), rfl, rfl⟩
end Go.Proofs.YtgloielnnakknaaDoor
namespace Go.Proofs.YtgloielnnakknaaDoor
open Go.RowKit
/-- Where the first attribute of a name stands, from i on; -1: nowhere. -/
def aix (n : ByteArray) : List At → Nat → Int
  | [], _ => -1
  | a :: r, i => if a.name = n then i else aix n r (i + 1)
abbrev fnA (n : ByteArray) : V := .cl 70 [[.str n]]
theorem afind1_T (a : At) (n : ByteArray) : CallsA Tryd.prog 70 [.a [.u (.str a.name), .u (ptrV a.mod)], .d (.q [.str n] 0)] [] (Is (db (decide (a.name = n)))) := by
  have e : (a.name.toList == n.toList) = decide (a.name = n) := toList_beq a.name n
  rw [← e]
  refine callsA_of_vc (T := tt) Tryd.func70 rfl rfl rfl rfl rfl ?_
  repeat' ((conv => whnf); first | refine Gs.id ?_ | fail)
  all_goals (conv => whnf)
  · exact Ret.is rfl
end Go.Proofs.YtgloielnnakknaaDoor
namespace Go.Proofs.YtgloielnnakknaaDoor
open Go.RowKit
theorem Rw_md {l : List Md} {n : Nat} {t : Md} {K : List E → Prop} (h : l[n]? = some t) (k : K t.row) : Rw (l.map Md.row) n K := ⟨_, by simp [h], k⟩
abbrev mdOb (mods : List Md) : List (Nat × Ob) := [(2, .fm 82 (mods.map Md.row))]
/-- The slice stays where it is. -/
theorem aindexR_T (mods : List Md) (i0 : Nat) (mn : ByteArray) (mr : Int) (l : List At) (hmd : mods[i0]? = some ⟨mn, mr, l⟩) (n : ByteArray) (hl : l.length ≤ 1000000) (n0 : Nat) (e0 : n0 = l.length) : CallsA Tryd.prog 69 [.d (.r 2 i0 2 2 n0), .d (.u (fnA n))] (mdOb mods) (Iso (di (aix n l 0)) (mdOb mods)) := by
  subst e0
  refine callsA_of_vcO (T := tt) Tryd.func69 rfl rfl rfl rfl rfl ?_
  repeat' ((conv => whnf); first | refine Gs.id ?_ | (refine Bnd.mk (fun hm => ?_); (try simp only [smT] at hm)) | fail)
  all_goals (conv => whnf)
  refine ⟨⟨Nat, fun i => i ≤ l.length ∧ aix n l 0 = aix n (l.drop i) i, fun i => l.length - i, fun i => ⟨[(0, .d (.r 2 i0 2 2 l.length)), (1, .d (.u (fnA n))), (7, di l.length), (8, di i)], mdOb mods⟩, 0, ⟨Nat.zero_le _, rfl⟩, ⟨[(2, .k 2)], ⟨by (try dsimp only); (repeat (refine LeT.cons rfl (by first | exact LeS.d (by first | exact LeD.u rfl | exact LeD.r rfl | fail) | fail) ?_)); exact LeT.nil, by (try dsimp only); repeat (first | exact LeO.nil | refine LeO.fm rfl (by first | rfl | fail) ?_ | fail)⟩⟩, fun i hi => ?_⟩⟩
  obtain ⟨hi, he⟩ := hi
  dsimp only
  rw [he]
  by_cases h9 : i < l.length
  · rw [List.drop_eq_getElem_cons h9, aix]
    obtain ⟨⟨an, am⟩, hji⟩ : ∃ j, l[i] = j := ⟨_, rfl⟩
    have hrow : ∀ {K : List V → Prop}, K (At.v ⟨an, am⟩) → Rw (l.map At.v) i K := fun k => ⟨_, by rw [List.getElem?_map, List.getElem?_eq_getElem h9, hji]; rfl, k⟩
    have hn := afind1_T ⟨an, am⟩ n
    rw [hji]
    dsimp only [At.v] at hn ⊢
    by_cases hx : an = n
    · rw [decide_eq_true hx] at hn
      rw [if_pos hx]
      repeat' ((conv => whnf); first | refine hrow ?_ | refine Rw_md hmd ?_ | refine Gs.id ?_ | with_reducible refine Brn.T rfl ?_ | refine Brn.T (by (try simp only [smT]); first | rfl | omega | fail) ?_ | refine Ixo.mk ⟨_, rfl, (by (try simp only [smT]); omega), ?_⟩ | (refine Raw.callF [] [] rfl rfl rfl rfl rfl rfl rfl rfl (hn) ?_; rintro _ _ ⟨rfl, rfl⟩; refine Bk.mk rfl rfl ?_))
      all_goals (conv => whnf)
      all_goals exact RetO.mk ⟨[], _, _, (by first | exact LeS.d (by first | exact LeD.u rfl | fail) | fail), LeO.fm rfl rfl .nil, rfl, rfl⟩
    · rw [decide_eq_false hx] at hn
      rw [if_neg hx]
      repeat' ((conv => whnf); first | refine hrow ?_ | refine Rw_md hmd ?_ | refine Gs.id ?_ | with_reducible refine Brn.F rfl ?_ | refine Brn.T (by (try simp only [smT]); first | rfl | omega | fail) ?_ | refine Rng.mk (by (try simp only [smT]); omega) ?_ | refine Ixo.mk ⟨_, rfl, (by (try simp only [smT]); omega), ?_⟩ | (refine Raw.callF [] [] rfl rfl rfl rfl rfl rfl rfl rfl (hn) ?_; rintro _ _ ⟨rfl, rfl⟩; refine Bk.mk rfl rfl ?_))
      all_goals (conv => whnf)
      all_goals exact ⟨i + 1, ⟨by omega, rfl⟩, by omega, [(2, .k 2)], ⟨by (try dsimp only); (repeat (refine LeT.cons rfl (by first | exact LeS.d (by first | exact LeD.u rfl | exact LeD.r rfl | fail) | fail) ?_)); exact LeT.nil, by (try dsimp only); repeat (first | exact LeO.nil | refine LeO.fm rfl (by first | rfl | fail) ?_ | fail)⟩⟩
  · obtain rfl : i = l.length := by omega
    rw [List.drop_length, aix]
    repeat' ((conv => whnf); first | refine Gs.id ?_ | refine Brn.F (by (try simp only [smT]); first | rfl | omega | fail) ?_ | fail)
    all_goals (conv => whnf)
    all_goals exact RetO.mk ⟨[], _, _, (by first | exact LeS.d (by first | exact LeD.u rfl | fail) | fail), LeO.fm rfl rfl .nil, rfl, rfl⟩
theorem mfind_T (us : List Un) (mods : List Md) (table : List Nat) (log : List Ev) (full : Bool) (i : Nat) (mn : ByteArray) (mr : Int) (ma : List At) (hmd : mods[i]? = some ⟨mn, mr, ma⟩) (hl : ma.length ≤ 1000000) (n : ByteArray) : CallsA Tryd.prog 60 [mdP i, dsr n] (ldOb us mods table log full) (Iso (di (aix n ma 0)) (ldOb us mods table log full)) := by
  have hx := aindexR_T mods i mn mr ma hmd n hl
  generalize aix n ma 0 = r at *
  refine callsA_of_vcO (T := tt) Tryd.func60 rfl rfl rfl rfl rfl ?_
  repeat' ((conv => whnf); first | refine Rw_md hmd ?_ | refine Gs.go (i := 1) (Ghost.frzB 3 rfl rfl) ?_ | refine Gs.id ?_ | (refine CL.mk (Or.inr (Raw.callI [2] [2] rfl rfl rfl rfl rfl rfl rfl (hx _ (by simp)) ?_)); rintro _ _ ⟨rfl, rfl⟩; refine Bk.mk rfl rfl ?_))
  all_goals (conv => whnf)
  all_goals exact RetO.mk ⟨[], _, _, (by first | exact LeS.d (by first | exact LeD.u rfl | fail) | fail), LeO.fm rfl rfl (LeO.fm rfl rfl .nil), rfl, rfl⟩
def nmOf (mods : List Md) (j : Nat) : Option ByteArray := (mods[j]?).map Md.name
/-- Where the first of these modules stands that has the name, among these numbers. -/
def tix (mods : List Md) (n : ByteArray) : List Nat → Nat → Int
  | [], _ => -1
  | j :: r, i => if nmOf mods j = some n then i else tix mods n r (i + 1)
abbrev fnL (n : ByteArray) : V := .cl 73 [[.str n]]
theorem lfind1_T (mods : List Md) (j : Nat) (mn : ByteArray) (mr : Int) (ma : List At) (hmd : mods[j]? = some ⟨mn, mr, ma⟩) (n : ByteArray) : CallsA Tryd.prog 73 [mdP j, .d (.q [.str n] 0)] (mdOb mods) (Iso (db (decide (mn = n))) (mdOb mods)) := by
  have e : (mn.toList == n.toList) = decide (mn = n) := toList_beq mn n
  rw [← e]
  refine callsA_of_vcO (T := tt) Tryd.func73 rfl rfl rfl rfl rfl ?_
  repeat' ((conv => whnf); first | refine Rw_md hmd ?_ | refine Gs.id ?_ | refine Drw.of (T := tt) (i := 1) [] [] [(0, true), (1, true), (2, true), (3, true), (4, true), (5, true), (6, true)] (by kernel_rfl) ?_)
  all_goals (conv => whnf)
  all_goals exact RetO.mk ⟨[], _, _, (by first | exact LeS.d (by first | exact LeD.u rfl | fail) | fail), LeO.fm rfl rfl .nil, rfl, rfl⟩
theorem lindex_T (us : List Un) (mods : List Md) (table : List Nat) (log : List Ev) (full : Bool) (n : ByteArray) (hl : table.length ≤ 1000000) (ht : ∀ j ∈ table, j < mods.length) : CallsA Tryd.prog 72 [.d (.r 1 0 1 1 table.length), .d (.u (fnL n))] (ldOb us mods table log full) (Iso (di (tix mods n table 0)) (ldOb us mods table log full)) := by
  refine callsA_of_vcO (T := tt) Tryd.func72 rfl rfl rfl rfl rfl ?_
  repeat' ((conv => whnf); first | refine Gs.id ?_ | (refine Bnd.mk (fun hm => ?_); (try simp only [smT] at hm)) | fail)
  all_goals (conv => whnf)
  refine ⟨⟨Nat, fun i => i ≤ table.length ∧ tix mods n table 0 = tix mods n (table.drop i) i, fun i => table.length - i, fun i => ⟨[(0, .d (.r 1 0 1 1 table.length)), (1, .d (.u (fnL n))), (7, di table.length), (8, di i)], ldOb us mods table log full⟩, 0, ⟨Nat.zero_le _, rfl⟩, ⟨[(1, .k 1), (2, .k 2)], ⟨by (try dsimp only); (repeat (refine LeT.cons rfl (by first | exact LeS.d (by first | exact LeD.u rfl | exact LeD.r rfl | fail) | fail) ?_)); exact LeT.nil, by (try dsimp only); repeat (first | exact LeO.nil | refine LeO.fm rfl (by first | rfl | fail) ?_ | fail)⟩⟩, fun i hi => ?_⟩⟩
  obtain ⟨hi, he⟩ := hi
  dsimp only
  rw [he]
  by_cases h9 : i < table.length
  · rw [List.drop_eq_getElem_cons h9, tix]
    obtain ⟨j, hji⟩ : ∃ j, table[i] = j := ⟨_, rfl⟩
    have hrow : ∀ {K : List V → Prop}, K [V.m 2 j 0] → Rw (ptr1 table) i K := fun k => ⟨_, by rw [List.getElem?_map, List.getElem?_eq_getElem h9, hji]; rfl, k⟩
    have hj := ht _ (List.getElem_mem h9)
    rw [hji] at hj ⊢
    obtain ⟨⟨mn, mr, ma⟩, hmd⟩ : ∃ m, mods[j]? = some m := ⟨_, List.getElem?_eq_getElem hj⟩
    have hn := lfind1_T mods j mn mr ma hmd n
    have hnm : nmOf mods j = some mn := by simp [nmOf, hmd]
    by_cases hx : mn = n
    · rw [decide_eq_true hx] at hn
      rw [if_pos (by rw [hnm, hx])]
      repeat' ((conv => whnf); first | refine hrow ?_ | refine Gs.id ?_ | with_reducible refine Brn.T rfl ?_ | refine Brn.T (by (try simp only [smT]); first | rfl | omega | fail) ?_ | refine Ixo.mk ⟨_, rfl, (by (try simp only [smT]); omega), ?_⟩ | refine Rw.lit rfl ?_ | (refine Raw.callF [2] [2] rfl rfl rfl rfl rfl rfl rfl rfl (hn) ?_; rintro _ _ ⟨rfl, rfl⟩; refine Bk.mk rfl rfl ?_))
      all_goals (conv => whnf)
      all_goals exact RetO.mk ⟨[], _, _, (by first | exact LeS.d (by first | exact LeD.u rfl | fail) | fail), LeO.fm rfl rfl (LeO.fm rfl rfl .nil), rfl, rfl⟩
    · rw [decide_eq_false hx] at hn
      rw [if_neg (by rw [hnm]; simpa using hx)]
      repeat' ((conv => whnf); first | refine hrow ?_ | refine Gs.id ?_ | with_reducible refine Brn.F rfl ?_ | refine Brn.T (by (try simp only [smT]); first | rfl | omega | fail) ?_ | refine Rng.mk (by (try simp only [smT]); omega) ?_ | refine Ixo.mk ⟨_, rfl, (by (try simp only [smT]); omega), ?_⟩ | refine Rw.lit rfl ?_ | (refine Raw.callF [2] [2] rfl rfl rfl rfl rfl rfl rfl rfl (hn) ?_; rintro _ _ ⟨rfl, rfl⟩; refine Bk.mk rfl rfl ?_))
      all_goals (conv => whnf)
      all_goals exact ⟨i + 1, ⟨by omega, rfl⟩, by omega, [(1, .k 1), (2, .k 2)], ⟨by (try dsimp only); (repeat (refine LeT.cons rfl (by first | exact LeS.d (by first | exact LeD.u rfl | exact LeD.r rfl | fail) | fail) ?_)); exact LeT.nil, by (try dsimp only); repeat (first | exact LeO.nil | refine LeO.fm rfl (by first | rfl | fail) ?_ | fail)⟩⟩
  · obtain rfl : i = table.length := by omega
    rw [List.drop_length, tix]
    repeat' ((conv => whnf); first | refine Gs.id ?_ | refine Brn.F (by (try simp only [smT]); first | rfl | omega | fail) ?_ | fail)
    all_goals (conv => whnf)
    all_goals exact RetO.mk ⟨[], _, _, (by first | exact LeS.d (by first | exact LeD.u rfl | fail) | fail), LeO.fm rfl rfl (LeO.fm rfl rfl .nil), rfl, rfl⟩
end Go.Proofs.YtgloielnnakknaaDoor
namespace Go.Proofs.YtgloielnnakknaaDoor
open Go.RowKit
def setA : List At → ByteArray → Option Nat → List At
  | [], n, v => [⟨n, v⟩]
  | a :: r, n, v => if a.name = n then ⟨n, v⟩ :: r else a :: setA r n v
def lookA : List At → ByteArray → Option (Option Nat)
  | [], _ => none
  | a :: r, n => if a.name = n then some a.mod else lookA r n
def dropA : List At → ByteArray → List At
  | [], _ => []
  | a :: r, n => if a.name = n then r else a :: dropA r n
theorem aix_cases (n : ByteArray) : ∀ (l : List At) (k : Nat), (aix n l k = -1 ∧ lookA l n = none ∧ dropA l n = l ∧ (∀ v, setA l n v = l ++ [⟨n, v⟩]) ∧ ∀ a ∈ l, ¬ a.name = n) ∨ ∃ (i : Nat) (a : At), l[i]? = some a ∧ aix n l k = ((k + i : Nat) : Int) ∧ a.name = n ∧ lookA l n = some a.mod ∧ dropA l n = l.eraseIdx i ∧ ∀ v, setA l n v = l.set i ⟨n, v⟩
  | [], k => .inl ⟨rfl, rfl, rfl, fun _ => rfl, fun _ h => by cases h⟩
  | a :: r, k => by
    by_cases h : a.name = n
    · exact .inr ⟨0, a, rfl, by simp [aix, h], h, by simp [lookA, h], by simp [dropA, h], fun v => by simp [setA, h]⟩
    · rcases aix_cases n r (k + 1) with ⟨h1, h2, h3, h4, h5⟩ | ⟨i, b, h1, h2, h3, h4, h5, h6⟩
      · exact .inl ⟨by rw [aix, if_neg h, h1], by rw [lookA, if_neg h, h2], by rw [dropA, if_neg h, h3], fun v => by rw [setA, if_neg h, h4]; rfl, fun x hx => by
          rcases List.mem_cons.1 hx with rfl | hx
          · exact h
          · exact h5 x hx⟩
      · exact .inr ⟨i + 1, b, by simpa using h1, by rw [aix, if_neg h, h2]; congr 1; omega, h3, by rw [lookA, if_neg h, h4], by rw [dropA, if_neg h, h5]; rfl, fun v => by rw [setA, if_neg h, h6]; rfl⟩
def tfind (mods : List Md) (n : ByteArray) : List Nat → Option Nat
  | [] => none
  | j :: r => if nmOf mods j = some n then some j else tfind mods n r
theorem tix_cases (mods : List Md) (n : ByteArray) : ∀ (l : List Nat) (k : Nat), (tix mods n l k = -1 ∧ tfind mods n l = none) ∨ ∃ (i j : Nat), l[i]? = some j ∧ tix mods n l k = ((k + i : Nat) : Int) ∧ tfind mods n l = some j ∧ nmOf mods j = some n
  | [], k => .inl ⟨rfl, rfl⟩
  | j :: r, k => by
    by_cases h : nmOf mods j = some n
    · exact .inr ⟨0, j, rfl, by simp [tix, h], by simp [tfind, h], h⟩
    · rcases tix_cases mods n r (k + 1) with ⟨h1, h2⟩ | ⟨i, b, h1, h2, h3, h4⟩
      · exact .inl ⟨by rw [tix, if_neg h, h1], by rw [tfind, if_neg h, h2]⟩
      · exact .inr ⟨i + 1, b, by simpa using h1, by rw [tix, if_neg h, h2]; congr 1; omega, by rw [tfind, if_neg h, h3], h4⟩
theorem Rw_get {l : List Nat} {i j : Nat} {K : List V → Prop} (h : l[i]? = some j) (k : K [V.m 2 j 0]) : Rw (ptr1 l) i K := ⟨_, by simp [h], k⟩
theorem lt_get {α : Type} {l : List α} {n : Nat} {t : α} (h : l[n]? = some t) : n < l.length := (List.getElem?_eq_some_iff.1 h).1
theorem lfind_T (us : List Un) (mods : List Md) (table : List Nat) (log : List Ev) (full : Bool) (n : ByteArray) (hl : table.length ≤ 1000000) (ht : ∀ j ∈ table, j < mods.length) : CallsA Tryd.prog 62 [ldP, dsr n] (ldOb us mods table log full) (Iso (.d (.u (ptrV (tfind mods n table)))) (ldOb us mods table log full)) := by
  have hx : ∀ n0, n0 = table.length → CallsA Tryd.prog 72 [.d (.r 1 0 1 1 n0), .d (.u (fnL n))] (ldOb us mods table log full) (Iso (di (tix mods n table 0)) (ldOb us mods table log full)) := fun n0 e => by
    rw [e]; exact lindex_T us mods table log full n hl ht
  rcases tix_cases mods n table 0 with ⟨h1, h2⟩ | ⟨i, j, h1, h2, h3, _⟩
  · rw [h1] at hx
    rw [h2]
    refine callsA_of_vcO (T := tt) Tryd.func62 rfl rfl rfl rfl rfl ?_
    repeat' ((conv => whnf); first | refine Gs.go (i := 1) (Ghost.frzB 3 rfl rfl) ?_ | refine Gs.id ?_ | with_reducible refine Brn.T rfl ?_ | refine Rw.lit rfl ?_ | (refine CL.mk (Or.inr (Raw.callI [1,2] [1,2] rfl rfl rfl rfl rfl rfl rfl (hx _ (by simp)) ?_)); rintro _ _ ⟨rfl, rfl⟩; refine Bk.mk rfl rfl ?_))
    all_goals (conv => whnf)
    all_goals exact RetO.mk ⟨[], _, _, (by first | exact LeS.d (by first | exact LeD.u rfl | fail) | fail), LeO.fm rfl rfl (LeO.fm rfl rfl .nil), rfl, rfl⟩
  · rw [h2, Nat.zero_add] at hx
    rw [h3]
    have hil := lt_get h1
    refine callsA_of_vcO (T := tt) Tryd.func62 rfl rfl rfl rfl rfl ?_
    repeat' ((conv => whnf); first | refine Rw_get h1 ?_ | refine Gs.go (i := 1) (Ghost.frzB 3 rfl rfl) ?_ | refine Gs.id ?_ | with_reducible refine Brn.F rfl ?_ | refine Ixo.mk ⟨_, rfl, (by (try simp only [smT]); omega), ?_⟩ | refine Rw.lit rfl ?_ | (refine CL.mk (Or.inr (Raw.callI [1,2] [1,2] rfl rfl rfl rfl rfl rfl rfl (hx _ (by simp)) ?_)); rintro _ _ ⟨rfl, rfl⟩; refine Bk.mk rfl rfl ?_))
    all_goals (conv => whnf)
    all_goals exact RetO.mk ⟨[], _, _, (by first | exact LeS.d (by first | exact LeD.u rfl | fail) | fail), LeO.fm rfl rfl (LeO.fm rfl rfl .nil), rfl, rfl⟩
theorem mset_T (us : List Un) (mods : List Md) (table : List Nat) (log : List Ev) (full : Bool) (i : Nat) (mn : ByteArray) (mr : Int) (ma : List At) (hmd : mods[i]? = some ⟨mn, mr, ma⟩) (hl : ma.length ≤ 1000000) (n : ByteArray) (v : Option Nat) : CallsA Tryd.prog 59 [mdP i, dsr n, .d (.u (ptrV v))] (ldOb us mods table log full) (Iso (.t []) (ldOb us (mods.set i ⟨mn, mr, setA ma n v⟩) table log full)) := by
  have hx := mfind_T us mods table log full i mn mr ma hmd hl n
  have hi := lt_get hmd
  rcases aix_cases n ma 0 with ⟨h1, _, _, h4, _⟩ | ⟨k, a, h1, h2, h3, _, _, h6⟩
  · rw [h1] at hx
    rw [h4]
    refine callsA_of_vcO (T := tt) Tryd.func59 rfl rfl rfl rfl rfl ?_
    repeat' ((conv => whnf); first | refine Rw_md hmd ?_ | refine Gs.id ?_ | with_reducible refine Brn.F rfl ?_ | refine Rw.self (by (try simp only [smT]); omega) ?_ | refine Len.mk (by first | rfl | fail) ?_ | refine Apd.mk (by first | rfl | fail) (by first | rfl | fail) (by (try simp only [smT]); first | omega | fail) (by unfold maxLen; first | (simp; omega) | fail) ?_ | (refine Raw.appendR (T := tt) ?_; (conv => whnf); first | refine Rw_md hmd ?_ | fail) | (refine CL.mk (Or.inr (Raw.callI [1,2] [1,2] rfl rfl rfl rfl rfl rfl rfl (hx) ?_)); rintro _ _ ⟨rfl, rfl⟩; refine Bk.mk rfl rfl ?_))
    all_goals (conv => whnf)
    all_goals exact RetO.mk ⟨[], _, _, .ts .nil, LeO.fm rfl rfl (LeO.fm rfl (by simp [List.map_set, Md.row]) .nil), rfl, rfl⟩
  · rw [h2, Nat.zero_add] at hx
    rw [h6]
    have hkl := lt_get h1
    obtain ⟨an, am⟩ := a
    dsimp only at h3
    subst h3
    refine callsA_of_vcO (T := tt) Tryd.func59 rfl rfl rfl rfl rfl ?_
    repeat' ((conv => whnf); first | refine Raw.storeRe (T := tt) (i := ⟨_, 1, _, _⟩) (row := Md.row ⟨mn, mr, ma⟩) (r2 := At.v ⟨an, am⟩) rfl rfl rfl rfl rfl rfl rfl rfl (by rw [List.getElem?_map, hmd]; rfl) rfl (by rw [List.getElem?_map, h1]; rfl) (by simp) ?_ | refine Rw_md hmd ?_ | refine Gs.id ?_ | with_reducible refine Brn.T rfl ?_ | refine Ixo.mk ⟨_, rfl, (by (try simp only [smT]); omega), ?_⟩ | (refine CL.mk (Or.inr (Raw.callI [1,2] [1,2] rfl rfl rfl rfl rfl rfl rfl (hx) ?_)); rintro _ _ ⟨rfl, rfl⟩; refine Bk.mk rfl rfl ?_))
    all_goals (conv => whnf)
    all_goals exact RetO.mk ⟨[], _, _, .ts .nil, LeO.fm rfl rfl (LeO.fm rfl (by simp [List.map_set, Md.row]) .nil), rfl, rfl⟩
end Go.Proofs.YtgloielnnakknaaDoor
namespace Go.Proofs.YtgloielnnakknaaDoor
open Go.RowKit
/-- No part of it lies in frozen memory. -/
def mfV : V → Bool
  | .sl _ _ => false
  | .cl _ _ => false
  | .fz _ _ => false
  | _ => true
def MfE : E → Prop
  | .v x => mfV x = true
  | .os _ _ rs => ∀ r ∈ rs, ∀ x ∈ r, mfV x = true
  | .hl => True
def MfO (ob : List (Nat × Ob)) : Prop := ∀ p ∈ ob, ∃ t rs, p.2 = .fm t rs ∧ ∀ row ∈ rs, ∀ e ∈ row, MfE e
def MfS (s : SV) : Prop := ∃ x, s = .d (.u x) ∧ mfV x = true
theorem DenV.mf {z z' : Fz} (hG : z'.G.fam = z.G.fam) {x : V} {v : Value} (hf : mfV x = true) (h : DenV z x v) : DenV z' x v := by
  cases h with
  | sl => cases hf
  | cl => cases hf
  | fz => cases hf
  | int => exact .int _ _
  | bool => exact .bool _
  | str _ hs => exact .str _ hs
  | nl => exact .nl
  | pn => exact .pn
  | fn => exact .fn
  | v h => exact .v h
  | m h => exact .m (by rw [hG]; exact h)
theorem DenVL.mf {z z' : Fz} (hG : z'.G.fam = z.G.fam) {cs : List V} {us : List Value} (hf : ∀ x ∈ cs, mfV x = true) (h : DenVL z cs us) : DenVL z' cs us :=
  ⟨h.len, h.one, fun j d u e1 e2 => (h.den j d u e1 e2).mf hG (hf d (List.mem_of_getElem? e1))⟩
theorem CellOk.mf {ρ : Rho} {z z' : Fz} (hG : z'.G.fam = z.G.fam) {k i o : Nat} {e : E} {u : Value} {X : List (Nat × Hb)} (hf : MfE e) (h : CellOk ρ z k i o e u X) : CellOk ρ z' k i o e u X := by
  cases e with
  | v x => exact ⟨h.1, h.2.mf hG hf⟩
  | os ty sz rs =>
    obtain ⟨A, c, us, h1, h2, h3, h4, h5, h6⟩ := h
    refine ⟨A, c, us, h1, h2, h3, h4, h5.mf hG fun x hx => ?_, h6⟩
    obtain ⟨r, q1, q2⟩ := List.mem_flatten.1 hx
    exact hf r q1 x q2
  | hl => exact h
theorem CellsOk.mf {ρ : Rho} {z z' : Fz} (hG : z'.G.fam = z.G.fam) {k i o : Nat} {es : List E} {us : List Value} {X : List (Nat × Hb)} (h : CellsOk ρ z k i o es us X) : (∀ e ∈ es, MfE e) → CellsOk ρ z' k i o es us X := by
  induction h with
  | nil => exact fun _ => .nil
  | cons h1 _ ih => exact fun hf => .cons (h1.mf hG (hf _ (by simp))) (ih fun e he => hf e (by simp [he]))
theorem FamOk.mf {ρ : Rho} {z z' : Fz} (hG : z'.G.fam = z.G.fam) {k : Nat} {ty : TypeId} {i : Nat} {bs : List Nat} {rs : List (List E)} {X : List (Nat × Hb)} (h : FamOk ρ z k ty i bs rs X) : (∀ row ∈ rs, ∀ e ∈ row, MfE e) → FamOk ρ z' k ty i bs rs X := by
  induction h with
  | nil => exact fun _ => .nil
  | cons h1 _ ih => exact fun hf => .cons (h1.mf hG (hf _ (by simp))) (ih fun row hr => hf row (by simp [hr]))
theorem ObsOk.mf {ρ : Rho} {z z' : Fz} (hG : z'.G.fam = z.G.fam) (hO : z'.G.own = z.G.own) : ∀ {ob : List (Nat × Ob)} {hp : List (Nat × Hb)}, MfO ob → ObsOk ρ z ob hp → ObsOk ρ z' ob hp
  | [], _, _, h => h
  | (k, o) :: r, hp, hf, ⟨X, hp', h1, h2, h3⟩ => by
    refine ⟨X, hp', h1, ?_, h3.mf hG hO fun p hp => hf p (by simp [hp])⟩
    obtain ⟨t, rs, e, q⟩ := hf (k, o) (by simp)
    dsimp only at e
    subst e
    obtain ⟨a1, a2⟩ := h2
    exact ⟨by rw [hG]; exact a1.mf hG q, by rw [hO]; exact a2⟩
section
variable {P : Program} {T : List (Nat × Ty)} {nt : Nat} {Q : Exit → Act → World → Prop} {c : Cx} {st : St} {tm : List (Nat × Value)} {h : Hs} {ρ : Rho} {G : FG} {ty : TypeId} {pos : String} {af : Array Edge} {gd : Option (Nat × Bool)} {K : Kt}
theorem callB_vals {f : FuncId} {ss : List SV} {obP obF : List (Nat × Ob)} {tmS tmK : List (Nat × SV)} {ns : List Nat} {QS : SV → List (Nat × Ob) → Prop} {F : Nat → Prop} {w0 : World} {hpP hpF : List (Nat × Hb)} (g : Gd c ⟨tmS, obP ++ obF⟩ tm ⟨F, w0, hpP ++ hpF⟩ ρ G) (oP : ObsOk ρ ⟨G, w0⟩ obP hpP) (oF : ObsOk ρ ⟨G, w0⟩ obF hpF) {vs : List Value} (a2 : vs.length = ss.length) (a3 : ∀ w, Hp ⟨F, w0, hpF⟩ w → ∀ (j : Nat) s v, ss[j]? = some s → vs[j]? = some v → DenS ρ ⟨G.or (Bl hpF), w⟩ s v) (hk : ∀ k s, lk k tmK = some s → lk k tmS = some s)
    (h1 : okTm (fun k => !inN ns k) tmK = true) (h2 : okO (fun k => !inN ns k) obF = true) (h3 : okO (inN ns) obP = true) (hc : CallsA P f ss obP QS) (hmf : ∀ s ob', QS s ob' → MfS s ∧ MfO ob') :
    ∀ w, Hp ⟨F, w0, hpP ++ hpF⟩ w → Calls P f vs.toArray w fun e w' => ∃ v h' s ob' ρ' G', e = .returned v ∧ Hp h' w' ∧ QS s ob' ∧ (s.okP (inN ns) = true → okO (inN ns) ob' = true → DenS ρ' ⟨G', h'.w0⟩ s v ∧ Gd c ⟨tmK, ob' ++ obF⟩ tm h' ρ' G') := by
  intro w hw
  have hwF : Hp ⟨F, w0, hpF⟩ w := hw.sub (List.sublist_append_right _ _)
  have hnd := hw.nd
  rw [List.map_append, List.nodup_append] at hnd
  have hbF : ∀ b, Bl hpF b → ¬ F b := fun b ⟨x, hx⟩ => hw.out b x (List.mem_append_right _ hx)
  have hPF : ∀ b x, (b, x) ∈ hpP → ¬ Bl hpF b := fun b x hx ⟨y, hy⟩ => hnd.2.2 b (List.mem_map_of_mem (f := Prod.fst) hx) b (List.mem_map_of_mem (f := Prod.fst) hy) rfl
  have hm0 : Mz ⟨G, w0⟩ ⟨⟨fun b => G b ∨ Bl hpF b, G.fam, famIn obP⟩, w⟩ := ⟨fun _ h => .inl h, fun b hb => hw.same.block b (g.gF b hb), fun _ _ _ h => h⟩
  have hm1 : Mz ⟨G.or (Bl hpF), w⟩ ⟨⟨fun b => G b ∨ Bl hpF b, G.fam, famIn obP⟩, w⟩ := ⟨fun _ h => h, fun b hb => rfl, fun _ _ _ h => h⟩
  refine (hc.out ⟨fun b => F b ∨ Bl hpF b, w, ⟨fun b => G b ∨ Bl hpF b, G.fam, famIn obP⟩⟩ ρ hpP vs w ⟨Same.refl _ _, fun b hb => ?_, fun b x hx => hw.blk b x (List.mem_append_left _ hx), hnd.1, fun b x hx hb => ?_⟩ a2 ⟨fun _ h => h, Same.refl _ _, fun b hb => hb.imp (g.gF b) id, fun b hb => .inl hb, .refl _, fun k s hk => ?_, ?_⟩).mono ?_
  · rcases hb with hb | ⟨x, hx⟩
    · exact hw.Flt hb
    · exact (hw.blk b x (List.mem_append_right _ hx)).lt
  · rcases hb with hb | hb
    · exact hw.out b x (List.mem_append_left _ hx) hb
    · exact hPF b x hx hb
  · obtain ⟨q1, q2⟩ := lk_slT hk
    have hlt : k - 0 < vs.length := by rw [a2]; exact (List.getElem?_eq_some_iff.1 q2).1
    exact ⟨vs[k - 0], lk_slots q1 (List.getElem?_eq_getElem hlt), (a3 w hwF _ s _ q2 (List.getElem?_eq_getElem hlt)).mono hm1 .refl⟩
  · refine oP.monoF hm0 .refl fun k o hm => ?_
    refine Fms.of fun t rs e => ?_
    subst e
    exact ⟨rfl, fun _ => ⟨_, _, hm⟩⟩
  · rintro e w' ⟨v, h', s, ob', ρ', G', rfl, hw', g', hq⟩
    obtain ⟨⟨x0, rfl, hx0⟩, hmo⟩ := hmf s ob' hq
    obtain ⟨v', e1, e2⟩ := g'.tm 0 _ rfl
    simp only [lk, Nat.beq_refl, cond_true, Option.some.injEq] at e1
    subst e1
    have hkeep : ∀ b, F b ∨ Bl hpF b → w'.heap[b]? = w.heap[b]? := fun b hb => (hw'.same.block b (g'.fF b hb)).trans (g'.fw.block b hb)
    let ρ2 : Rho := ⟨fun k => if inN ns k = true then ρ' k else ρ k, fun k => if inN ns k = true then ρ'.os k else ρ.os k⟩
    let GN : FG := ⟨fun b => G' b ∧ ¬ Bl hpF b, G'.fam, G'.own⟩
    let G2 : FG := ⟨fun b => G b ∨ (G' b ∧ ¬ Bl hpF b), G'.fam, G.own⟩
    have hob' : ObsOk ρ' ⟨GN, h'.w0⟩ ob' h'.hp := ObsOk.mf (z := ⟨G', h'.w0⟩) (z' := ⟨GN, h'.w0⟩) rfl rfl hmo g'.ob
    have hsv : DenS ρ' ⟨GN, h'.w0⟩ (.d (.u x0)) v := by
      cases e2 with | d e2 => cases e2 with | u e2 => exact .d (.u (DenV.mf (z := ⟨G', h'.w0⟩) (z' := ⟨GN, h'.w0⟩) rfl hx0 e2))
    refine ⟨v, ⟨fun b => h'.F b ∧ ¬ Bl hpF b, h'.w0, h'.hp ++ hpF⟩, _, ob', ρ2, G2, rfl, ⟨hw'.same.mono fun _ hb => hb.1, fun b hb => hw'.inF b hb.1, fun b x hx => ?_, ?_, fun b x hx hb => ?_⟩, hq, fun hs ho => ⟨?_, ?_⟩⟩
    · rcases List.mem_append.1 hx with hx | hx
      · exact hw'.blk b x hx
      · exact (hw.blk b x (List.mem_append_right _ hx)).of_block (hkeep b (.inr ⟨x, hx⟩))
    · rw [List.map_append, List.nodup_append]
      refine ⟨hw'.nd, hnd.2.1, fun a ha b hb hab => ?_⟩
      subst hab
      obtain ⟨⟨_, x⟩, hx, rfl⟩ := List.mem_map.1 ha
      obtain ⟨⟨_, y⟩, hy, hxy⟩ := List.mem_map.1 hb
      dsimp only at hxy
      subst hxy
      exact hw'.out _ x hx (g'.fF _ (.inr ⟨y, hy⟩))
    · rcases List.mem_append.1 hx with hx | hx
      · exact hw'.out b x hx hb.1
      · exact hb.2 ⟨x, hx⟩
    · refine DenS.okP (p := inN ns) (fun k hk => ?_) (fun k hk i o => ?_) hs (DenS.mono (z := ⟨GN, h'.w0⟩) (z' := ⟨G2, h'.w0⟩) ⟨fun _ hb => Or.inr hb, fun _ _ => rfl, fun _ _ _ h => h⟩ .refl hsv)
      · simp only [ρ2, hk, if_true]
      · simp only [ρ2, hk, if_true]
    · have hm : Mz ⟨G, w0⟩ ⟨G2, h'.w0⟩ := ⟨fun _ hb => .inl hb, fun b hb => (g'.fw.block b (.inl (g.gF b hb))).trans (hw.same.block b (g.gF b hb)), fun k i b hb => g'.fm.gr k i b hb⟩
      have hno : ∀ k, (!inN ns k) = true → ¬ inN ns k = true := fun k hk => by simpa using hk
      have ee : ∀ k, (!inN ns k) = true → ρ2 k = ρ k := fun k hk => by show (if inN ns k = true then ρ' k else ρ k) = _; rw [if_neg (hno k hk)]
      have eo : ∀ k, (!inN ns k) = true → ∀ i o, ρ2.os k i o = ρ.os k i o := fun k hk i o => by show (if inN ns k = true then ρ'.os k else ρ.os k) i o = _; rw [if_neg (hno k hk)]
      have hfp : ∀ k, ¬ famIn obP k → G'.fam k = G.fam k := fun k hk => g'.fm.eq k hk
      refine ⟨fun b hb => ⟨g'.fF b (.inl (g.fF b hb)), fun hbl => hbF b hbl (g.fF b hb)⟩, (g.fw.trans (hw.same.mono g.fF)).trans (g'.fw.mono fun b hb => .inl (g.fF b hb)), fun b hb => ?_, fun b hb => ?_, ⟨g.fm.own, fun k hk => ?_, fun k i b hb => g'.fm.gr k i b (g.fm.gr k i b hb)⟩, fun k s0 hk0 => ?_, ObsOk.append ?_ ?_⟩
      · rcases hb with hb | hb
        · exact ⟨g'.fF b (.inl (g.gF b hb)), fun hbl => hbF b hbl (g.gF b hb)⟩
        · exact ⟨g'.gF b hb.1, hb.2⟩
      · rcases hb with hb | hb
        · exact g.gx b hb
        · rcases g'.gx b hb.1 with (q | q) | q
          · exact g.gx b q
          · exact absurd q hb.2
          · exact .inr fun h0 => q (.inl (g.fF b h0))
      · refine (hfp k fun hf => hk ?_).trans (g.fm.eq k hk)
        rw [← g.fm.own]
        exact oP.fam k hf
      · obtain ⟨u, u1, u2⟩ := g.tm k s0 (hk k s0 hk0)
        exact ⟨u, u1, (u2.mono hm .refl).okP ee eo (okTm_get h1 k s0 hk0)⟩
      · refine ObsOk.okP (p := inN ns) (fun k hk => ?_) (fun k hk i o => ?_) ho (ObsOk.monoF (z := ⟨GN, h'.w0⟩) (z' := ⟨G2, h'.w0⟩) ⟨fun _ hb => Or.inr hb, fun _ _ => rfl, fun _ _ _ h => h⟩ .refl (fun k o hm' => ?_) hob')
        · simp only [ρ2, hk, if_true]
        · simp only [ρ2, hk, if_true]
        · cases o <;> simp only [Fms]
          refine ⟨rfl, fun hown => ?_⟩
          have hown' : famIn obP k := by have := hown; rwa [show GN.own = G'.own from rfl, g'.fm.own] at this
          exact oP.fam k hown'
      · refine ObsOk.okP ee eo h2 (oF.monoF hm .refl fun k o hm' => ?_)
        refine Fms.of fun t rs e => ?_
        subst e
        refine ⟨hfp k fun ⟨t, rs, hf⟩ => ?_, id⟩
        have q1 := okO_mem h3 k _ hf
        have q2 := okO_mem h2 k _ hm'
        rw [q1] at q2
        cases q2
/-- A call that lends the objects ps and reads own arrays that it does not lend. -/
theorem Raw.callB {f : FuncId} {xs : Array Operand} {ts : Array TypeId} {d : Option Tmp} {tmT tmK : List (Nat × SV)} {ob obP obF : List (Nat × Ob)} (ps ns : List Nat) {ss : List SV} {QS : SV → List (Nat × Ob) → Prop} (hT : keepTm (fun k => !inN ns k) [] tmT = tmK) (hO : (splitOb ps ob).1 = obP) (hO' : (splitOb ps ob).2 = obF) (hx : argsT obF tmT xs.toList = some ss)
    (h2 : okO (fun k => !inN ns k) obF = true) (h3 : okO (inN ns) obP = true) (hd : (match d with | some d => Nat.blt d nt | none => true) = true) (hn : needA obF tmT True xs.toList) (hc : CallsA P f ss obP QS) (hmf : ∀ s ob', QS s ob' → MfS s ∧ MfO ob') (k : ∀ s ob', QS s ob' → Bk d ns tmK obF K s ob') : Raw P nt ⟨d, .call ⟨.value (.func f), xs, ts⟩, ty, pos, af, gd⟩ tmT ob K := ⟨fun Q c tm h ρ G g => by
  obtain ⟨F, w0, hp⟩ := h
  obtain ⟨ha, hb, o1, o2, o3⟩ := splitOb_ok (ps := ps) g.ob
  rw [hO] at o1
  rw [hO'] at o2
  have g2 : Gd c ⟨tmT, obP ++ obF⟩ tm ⟨F, w0, ha ++ hb⟩ ρ G := ⟨g.fF, g.fw, g.gF, g.gx, g.fm, g.tm, o1.append o2⟩
  have g3 : Gd c ⟨tmT, obF⟩ tm ⟨F, w0, hb⟩ ρ G := ⟨g.fF, g.fw, g.gF, g.gx, g.fm, g.tm, o2⟩
  have hh : ∀ w, Hp ⟨F, w0, hp⟩ w → Hp ⟨F, w0, ha ++ hb⟩ w := fun w hw => hw.perm o3
  subst hT
  obtain ⟨vs, a1, a2, a3⟩ := argsT_ev (ρ' := ρ) g3 hx
  have hcall := callB_vals (tmK := keepTm (fun k => !inN ns k) [] tmT) g2 o1 o2 a2 (fun w hw => (a3 w hw True hn).2.1) (fun k s h => (keepTm_get h).2) keepTm_ok h2 h3 hc hmf
  obtain ⟨fn, cd, f1, f2, f3⟩ := hc.fn
  have hxs : xs = xs.toList.toArray := by simp
  rw [hxs]
  cases d with
  | some d =>
    refine OpS.call (P := P) (nt := nt) (Q := Q) (fun v h2 => Kd c K ((d, v) :: tm) h2) f1 f2 f3 a1 hd (fun w hw => (hcall w (hh w hw)).mono ?_) fun _ _ hk => hk
    rintro e w' ⟨v, h3, s, ob', ρ', G', rfl, hw3, hq, hg⟩
    obtain ⟨b1, b2, b3⟩ := k s ob' hq
    obtain ⟨q1, q2⟩ := hg b1 b2
    exact ⟨v, h3, rfl, hw3, .of (q2.put q1) b3⟩
  | none =>
    refine OpS.call0 (P := P) (nt := nt) (Q := Q) (fun v h2 => Kd c K tm h2) f1 f2 f3 a1 (fun w hw => (hcall w (hh w hw)).mono ?_) fun _ _ hk => hk
    rintro e w' ⟨v, h3, s, ob', ρ', G', rfl, hw3, hq, hg⟩
    obtain ⟨b1, b2, b3⟩ := k s ob' hq
    obtain ⟨q1, q2⟩ := hg b1 b2
    exact ⟨v, h3, rfl, hw3, .of q2 b3⟩⟩
end
/-- An own box becomes the first member of an empty family. -/
theorem Ghost.toFam {tmT : List (Nat × SV)} {ob : List (Nat × Ob)} (k0 t0 K0 : Nat) (sp : List (Nat × (Nat × Nat))) {t ty : TypeId} {cs : List D} {ys : List V} (hx : lk t0 tmT = some (.d (.p k0 0))) (hk : lk k0 ob = some (.bx t cs)) (hb : borL [] cs = some ys) (hK : lk K0 (obr k0 ob) = some (.fm ty [])) (hf : famT t (obu K0 (.fm t []) (obr k0 ob)) = some (K0, [])) (h1 : famOne K0 (obu K0 (.fm t []) (obr k0 ob)) = true) :
    Ghost tmT ob ((t0, .d (.u (.m K0 0 0))) :: dropT K0 tmT) (dropO K0 (obu K0 (.fm t ([] ++ [mkE sp 0 ys])) (obu K0 (.fm t []) (obr k0 ob)))) := ⟨fun c tm h ρ G w g hw => by
  obtain ⟨F, w0, hp⟩ := h
  obtain ⟨vx, x1, x2⟩ := g.tm t0 _ hx
  obtain ⟨Y, f, ⟨b, us, rfl, g2, g3⟩, g6, _, g8⟩ := g.ob.set hk
  have g4 := borL_nil_den hb g3
  have hperm : hp.Perm ([(b, ⟨t, us, cs.length⟩)] ++ f []) := by have := g6.perm [(b, (⟨t, us, cs.length⟩ : Hb))]; rwa [g6.eq] at this
  obtain ⟨X, f2, ⟨q1, q1'⟩, q2, q3, _⟩ := g8.set hK
  have hX : ∀ {bs : List Nat}, FamOk ρ ⟨G, w0⟩ K0 ty 0 bs [] X → X = [] ∧ bs = [] := fun h => by
    cases h
    exact ⟨rfl, rfl⟩
  obtain ⟨rfl, hfam⟩ := hX q1
  have hnew : ObOk ρ ⟨G, w0⟩ K0 (.fm t []) [] := ⟨by show FamOk _ _ _ _ _ (G.fam K0) _ _; rw [show G.fam K0 = [] from hfam]; exact .nil, q1'⟩
  have g1 : Gd c ⟨tmT, obu K0 (.fm t []) (obr k0 ob)⟩ tm ⟨F, w0, f2 []⟩ ρ G := ⟨g.fF, g.fw, g.gF, g.gx, g.fm, g.tm, q3 (.fm t []) [] hnew⟩
  obtain ⟨hp', G', ρ', z1, z2, z3⟩ := g1.newFam hf h1 g4 b sp
  have hlen : us.length = cs.length := g3.len
  have e2 : f2 [] = f [] := q2.eq
  cases x2 with | d x2 => cases x2 with | @p _ _ b' _ _ h0 =>
  rw [g2] at h0
  injection h0 with h0
  injection h0 with e1 _ _
  injection e1 with e1
  injection e1 with e1 _ _
  subst e1
  refine ⟨⟨F, w0, hp'⟩, ρ', G', z1.slot x1 (.d (.u (.m z3))), hw.perm (hperm.trans ?_)⟩
  rw [← hlen]
  refine List.Perm.trans ?_ z2.symm
  rw [e2]
  exact List.Perm.refl _⟩
/-- A nil slice is seen as an own array without rows. -/
theorem Ghost.nlOw {tmT : List (Nat × SV)} {ob : List (Nat × Ob)} (t K0 e sz : Nat) (hx : lk t tmT = some (.d (.u .nl))) (hn : newN K0 tmT ob = true) : Ghost tmT ob ((t, .d (.ow K0 0)) :: tmT) ((K0, .ar e sz []) :: ob) := ⟨fun c tm h ρ G w g hw => by
  obtain ⟨F, w0, hp⟩ := h
  obtain ⟨vx, x1, x2⟩ := g.tm t _ hx
  cases x2 with | d x2 => cases x2 with | u x2 => cases x2 with | nl =>
  have ho : ObOk (upd ρ K0 ⟨none, 0, sz⟩) ⟨G, w0⟩ K0 (.ar e sz []) [] := ⟨none, 0, [], rfl, upd_self, OkA.nil sz, .nil, by simp⟩
  exact ⟨⟨F, w0, hp⟩, _, G, (g.new hn ho).slot x1 (.d (.ow (l := ⟨none, 0, sz⟩) upd_self (fun _ => rfl) (Nat.zero_le _))), hw⟩⟩
end Go.Proofs.YtgloielnnakknaaDoor
namespace Go.Proofs.YtgloielnnakknaaDoor
open Go.RowKit
theorem mdOb_mf (mods : List Md) : MfO (mdOb mods) := by
  intro p hp
  simp only [mdOb, List.mem_singleton] at hp
  subst hp
  refine ⟨_, _, rfl, fun row hr e he => ?_⟩
  obtain ⟨m, _, rfl⟩ := List.mem_map.1 hr
  simp only [Md.row, List.mem_cons, List.not_mem_nil, or_false] at he
  rcases he with rfl | rfl | rfl
  · rfl
  · rfl
  · intro r hr x hx
    obtain ⟨a, _, rfl⟩ := List.mem_map.1 hr
    simp only [At.v, List.mem_cons, List.not_mem_nil, or_false] at hx
    rcases hx with rfl | rfl
    · rfl
    · cases a.mod <;> rfl
abbrev fnK (i : Nat) : V := .cl 83 [[.m 2 i 0]]
theorem mk1_T (mods : List Md) (j i : Nat) (hj : j < mods.length) (hi : i < mods.length) : CallsA Tryd.prog 83 [mdP j, .d (.q [.m 2 i 0] 0)] (mdOb mods) (Iso (db (decide (j = i))) (mdOb mods)) := by
  refine callsA_of_vcO (T := tt) Tryd.func83 rfl rfl rfl rfl rfl ?_
  repeat' ((conv => whnf); first | refine Gs.id ?_ | refine Pm.mk (by first | assumption | (simp; omega)) (by first | assumption | (simp; omega)) ?_ | fail)
  all_goals (conv => whnf)
  all_goals exact RetO.mk ⟨[], _, _, (by first | exact LeS.d (by first | exact LeD.u rfl | fail) | fail), LeO.fm rfl rfl .nil, rfl, rfl⟩
def pix (m : Nat) : List Nat → Nat → Int
  | [], _ => -1
  | j :: r, i => if j = m then i else pix m r (i + 1)
theorem pindex_T (mods : List Md) (l : List Nat) (m : Nat) (hl : l.length ≤ 1000000) (ht : ∀ j ∈ l, j < mods.length) (hmm : m < mods.length) : CallsA Tryd.prog 72 [.d (.u (.sl 1 (ptr1 l))), .d (.u (fnK m))] (mdOb mods) (Iso (di (pix m l 0)) (mdOb mods)) := by
  refine callsA_of_vcO (T := tt) Tryd.func72 rfl rfl rfl rfl rfl ?_
  repeat' ((conv => whnf); first | refine Gs.id ?_ | (refine Bnd.mk (fun hm => ?_); (try simp only [smT] at hm)) | fail)
  all_goals (conv => whnf)
  refine ⟨⟨Nat, fun i => i ≤ l.length ∧ pix m l 0 = pix m (l.drop i) i, fun i => l.length - i, fun i => ⟨[(0, .d (.u (.sl 1 (ptr1 l)))), (1, .d (.u (fnK m))), (7, di l.length), (8, di i)], mdOb mods⟩, 0, ⟨Nat.zero_le _, rfl⟩, ⟨[(2, .k 2)], ⟨by (try dsimp only); (repeat (refine LeT.cons rfl (by first | exact LeS.d (by first | exact LeD.u rfl | exact LeD.u (by simp; done) | fail) | fail) ?_)); exact LeT.nil, by (try dsimp only); repeat (first | exact LeO.nil | refine LeO.fm rfl (by first | rfl | fail) ?_ | fail)⟩⟩, fun i hi => ?_⟩⟩
  obtain ⟨hi, he⟩ := hi
  dsimp only
  rw [he]
  by_cases h9 : i < l.length
  · rw [List.drop_eq_getElem_cons h9, pix]
    obtain ⟨j, hji⟩ : ∃ j, l[i] = j := ⟨_, rfl⟩
    have hrow : ∀ {K : List V → Prop}, K [V.m 2 j 0] → Ix (ptr1 l) (i : Int) K := fun k => Ix.map rfl h9 (by rw [hji]; exact k)
    have hj := ht _ (List.getElem_mem h9)
    rw [hji] at hj ⊢
    have hn := mk1_T mods j m hj hmm
    by_cases hx : j = m
    · rw [decide_eq_true hx] at hn
      rw [if_pos hx]
      repeat' ((conv => whnf); first | refine hrow ?_ | refine Gs.id ?_ | with_reducible refine Brn.T rfl ?_ | refine Brn.T (by (try simp only [smT]); first | rfl | omega | fail) ?_ | (refine Raw.callF [2] [2] rfl rfl rfl rfl rfl rfl rfl rfl (hn) ?_; rintro _ _ ⟨rfl, rfl⟩; refine Bk.mk rfl rfl ?_))
      all_goals (conv => whnf)
      all_goals exact RetO.mk ⟨[], _, _, (by first | exact LeS.d (by first | exact LeD.u rfl | fail) | fail), LeO.fm rfl rfl .nil, rfl, rfl⟩
    · rw [decide_eq_false hx] at hn
      rw [if_neg hx]
      repeat' ((conv => whnf); first | refine hrow ?_ | refine Gs.id ?_ | with_reducible refine Brn.F rfl ?_ | refine Brn.T (by (try simp only [smT]); first | rfl | omega | fail) ?_ | refine Rng.mk (by (try simp only [smT]); omega) ?_ | (refine Raw.callF [2] [2] rfl rfl rfl rfl rfl rfl rfl rfl (hn) ?_; rintro _ _ ⟨rfl, rfl⟩; refine Bk.mk rfl rfl ?_))
      all_goals (conv => whnf)
      all_goals exact ⟨i + 1, ⟨by omega, rfl⟩, by omega, [(2, .k 2)], ⟨by (try dsimp only); (repeat (refine LeT.cons rfl (by first | exact LeS.d (by first | exact LeD.u rfl | fail) | fail) ?_)); exact LeT.nil, by (try dsimp only); repeat (first | exact LeO.nil | refine LeO.fm rfl (by first | rfl | fail) ?_ | fail)⟩⟩
  · obtain rfl : i = l.length := by omega
    rw [List.drop_length, pix]
    repeat' ((conv => whnf); first | refine Gs.id ?_ | refine Brn.F (by (try simp only [smT]); first | rfl | omega | fail) ?_ | fail)
    all_goals (conv => whnf)
    all_goals exact RetO.mk ⟨[], _, _, (by first | exact LeS.d (by first | exact LeD.u rfl | fail) | fail), LeO.fm rfl rfl .nil, rfl, rfl⟩
end Go.Proofs.YtgloielnnakknaaDoor
namespace Go.Proofs.YtgloielnnakknaaDoor
open Go.RowKit
theorem pix_cases (m : Nat) : ∀ (ws : List Nat) (k : Nat), (pix m ws k = -1 ∧ (ws.filter fun w => w != m) = ws) ∨ ∃ i : Nat, i < ws.length ∧ pix m ws k = ((k + i : Nat) : Int) ∧ ((ws.take (i + 1)).filter fun w => w != m) = ws.take i
  | [], k => .inl ⟨rfl, rfl⟩
  | w :: r, k => by
    by_cases h : w = m
    · exact .inr ⟨0, by simp, by simp [pix, h], by simp [h]⟩
    · rcases pix_cases m r (k + 1) with ⟨h1, h2⟩ | ⟨i, h1, h2, h3⟩
      · exact .inl ⟨by rw [pix, if_neg h, h1], by rw [List.filter_cons_of_pos (by simpa using h), h2]⟩
      · refine .inr ⟨i + 1, by simpa using h1, by rw [pix, if_neg h, h2]; congr 1; omega, ?_⟩
        rw [List.take_succ_cons, List.filter_cons_of_pos (by simpa using h), h3, List.take_succ_cons]
theorem putR_take {α : Type} (rs new : List α) (n : Nat) (h : n ≤ rs.length) : (putR rs new n).take n = rs.take n := by
  rw [putR, List.append_assoc, List.take_append_of_le_length (by simp; omega), List.take_take, Nat.min_self]
theorem del_rows {α : Type} (rs z : List α) (i : Nat) (hi : i < rs.length) : (putR (putR rs ((rs.drop (i + 1)).take (rs.length - (i + 1))) i) z (i + (rs.length - (i + 1)))).take (rs.length - 1) = rs.eraseIdx i := by
  have e1 : (rs.drop (i + 1)).take (rs.length - (i + 1)) = rs.drop (i + 1) := List.take_of_length_le (by simp)
  have e2 : i + (rs.length - (i + 1)) = rs.length - 1 := by omega
  have e3 : putR rs (rs.drop (i + 1)) i = rs.eraseIdx i ++ rs.drop (i + (rs.length - (i + 1))) := by
    rw [putR, List.eraseIdx_eq_take_drop_succ]; simp
  have e4 : (rs.eraseIdx i).length = rs.length - 1 := List.length_eraseIdx_of_lt hi
  rw [e1, e3, e2, putR, List.append_assoc, List.take_append_of_le_length (by simp; omega), List.take_take, Nat.min_self, List.take_left' e4]
theorem deleteA_T (l : List At) (i : Nat) (hi : i < l.length) (hl : l.length ≤ 1000000) (n0 : Nat) (e0 : n0 = l.length) : CallsA Tryd.prog 71 [.d (.ow 902 n0), di i, di (i + 1)] [(902, .ar 84 2 (l.map At.v))] (Iso (.d (.ow 902 (l.eraseIdx i).length)) [(902, .ar 84 2 ((l.eraseIdx i).map At.v))]) := by
  subst e0
  refine callsA_of_vcO (T := tt) Tryd.func71 rfl rfl rfl rfl rfl ?_
  repeat' ((conv => whnf); first | refine Gs.id ?_ | refine Brn.F (by (try simp only [smT]); first | rfl | omega | fail) ?_ | (refine Bnd.mk (fun hm => ?_); (try simp only [smT] at hm)) | refine Raw.appendIn (T := tt) rfl rfl rfl rfl rfl rfl rfl rfl rfl rfl (by (try simp only [smT]); omega) (by (try simp only [smT]); omega) ?_ | refine Raw.clear (T := tt) rfl rfl rfl rfl rfl rfl rfl (by (try simp only [smT]); omega) ?_ | refine Slc.mk ⟨_, _, rfl, rfl, (by (try simp only [smT]); omega), (by (try simp only [smT]); omega), ?_⟩ | refine Slc3.mk ⟨_, _, _, rfl, rfl, rfl, (by (try simp only [smT]); omega), (by (try simp only [smT]); omega), (by (try simp only [smT]); omega)⟩ ?_ | refine Drw.of (T := tt) (i := 5) [6, 7] [] [(0, true), (1, true), (2, true), (3, true), (4, true), (5, true), (6, false), (7, false)] (by kernel_rfl) ?_)
  all_goals (conv => whnf)
  · have e : i + (l.length - (i + 1)) = (l.eraseIdx i).length := by rw [List.length_eraseIdx_of_lt hi]; omega
    refine RetO.mk ⟨[(902, .k 902)], _, _, .d (.ow rfl e), LeO.tr (m := l.length - 1) rfl rfl ?_ ?_ .nil, rfl, rfl⟩
    · simp only [smT]; omega
    · have := del_rows (l.map At.v) (List.replicate (l.length - (i + (l.length - (i + 1)))) [V.str ⟨#[]⟩, V.pn]) i (by simpa using hi)
      simp only [List.length_map] at this
      rw [this]
      simp only [List.eraseIdx_eq_take_drop_succ, List.map_take, List.map_drop, List.map_append]
abbrev pArr (l : List Nat) : Nat × Ob := (900, .ar 71 1 (ptr1 l))
set_option maxHeartbeats 1000000 in
theorem pdel_T (mods : List Md) (ws : List Nat) (m : Nat) (hl : ws.length ≤ 1000000) (ht : ∀ j ∈ ws, j < mods.length) (hmm : m < mods.length) (n0 : Nat) (e0 : n0 = ws.length) : CallsA Tryd.prog 82 [.d (.ow 900 n0), .d (.u (fnK m))] [pArr ws, (2, .fm 82 (mods.map Md.row))] (Iso (.d (.ow 900 (ws.filter fun w => w != m).length)) [pArr (ws.filter fun w => w != m), (2, .fm 82 (mods.map Md.row))]) := by
  subst e0
  rcases pix_cases m ws 0 with ⟨h1, h2⟩ | ⟨i0, h1, h2, h3⟩
  · rw [h2]
    have hx := pindex_T mods ws m hl ht hmm
    rw [h1] at hx
    refine callsA_of_vcO (T := tt) Tryd.func82 rfl rfl rfl rfl rfl ?_
    repeat' ((conv => whnf); first | refine Gs.id ?_ | with_reducible refine Brn.T rfl ?_ | (refine CL.mk (Or.inr (Raw.callB [2] [2] rfl rfl rfl rfl rfl rfl rfl (by (conv => whnf); (repeat (refine Len.mk (by first | rfl | (simp; done) | fail) ?_)); exact trivial) (hx) (by rintro _ _ ⟨rfl, rfl⟩; exact ⟨⟨_, rfl, rfl⟩, mdOb_mf mods⟩) ?_)); rintro _ _ ⟨rfl, rfl⟩; refine Bk.mk rfl rfl ?_))
    all_goals (conv => whnf)
    all_goals exact RetO.mk ⟨[(900, .k 900)], _, _, (by first | exact LeS.d (by first | exact LeD.ow rfl rfl | fail) | fail), (by repeat (first | exact LeO.nil | refine LeO.ar rfl rfl (by first | rfl | fail) ?_ | refine LeO.fm rfl (by first | rfl | fail) ?_ | fail)), rfl, rfl⟩
  · have hx := pindex_T mods ws m hl ht hmm
    rw [h2, Nat.zero_add] at hx
    refine callsA_of_vcO (T := tt) Tryd.func82 rfl rfl rfl rfl rfl ?_
    repeat' ((conv => whnf); first | refine Gs.id ?_ | with_reducible refine Brn.F rfl ?_ | refine Rng.mk (by (try simp only [smT]); omega) ?_ | (refine CL.mk (Or.inr (Raw.callB [2] [2] rfl rfl rfl rfl rfl rfl rfl (by (conv => whnf); (repeat (refine Len.mk (by first | rfl | (simp; done) | fail) ?_)); exact trivial) (hx) (by rintro _ _ ⟨rfl, rfl⟩; exact ⟨⟨_, rfl, rfl⟩, mdOb_mf mods⟩) ?_)); rintro _ _ ⟨rfl, rfl⟩; refine Bk.mk rfl rfl ?_))
    all_goals (conv => whnf)
    · refine ⟨⟨Nat × Nat × List Nat, fun x => x.1 < x.2.1 ∧ x.2.1 ≤ ws.length ∧ x.2.2.length = ws.length ∧ x.2.2.take x.1 = ((ws.take x.2.1).filter fun w => w != m) ∧ x.2.2.drop x.2.1 = ws.drop x.2.1, fun x => ws.length - x.2.1, fun x => ⟨[(0, .d (.ow 900 ws.length)), (1, .d (.u (fnK m))), (5, di x.1), (6, di x.2.1)], [pArr x.2.2, (2, .fm 82 (mods.map Md.row))]⟩, (i0, i0 + 1, ws), ⟨by dsimp only; omega, by dsimp only; omega, rfl, h3.symm, rfl⟩, ⟨[(900, .k 900), (2, .k 2)], ⟨by (try dsimp only); (repeat (refine LeT.cons rfl (by first | exact LeS.d (by first | exact LeD.u rfl | exact LeD.ow rfl rfl | fail) | fail) ?_)); exact LeT.nil, by (try dsimp only); repeat (first | exact LeO.nil | refine LeO.ar rfl rfl (by first | rfl | fail) ?_ | refine LeO.fm rfl (by first | rfl | fail) ?_ | fail)⟩⟩, fun ⟨i, j, a⟩ ⟨q1, q2, q3, q4, q5⟩ => ?_⟩⟩
      dsimp only at q1 q2 q3 q4 q5 ⊢
      by_cases h9 : j < ws.length
      · have hv : a[j]'(by omega) = ws[j] := by
          have := congrArg List.head? q5
          simpa [List.head?_drop, h9, show j < a.length by omega] using this
        have hjj := ht _ (List.getElem_mem h9)
        obtain ⟨w, hw⟩ : ∃ w, ws[j] = w := ⟨_, rfl⟩
        rw [hw] at hv hjj
        have hrow : ∀ {K : List V → Prop}, K [V.m 2 w 0] → Rw (ptr1 a) j K := fun k => ⟨_, by rw [List.getElem?_map, List.getElem?_eq_getElem (show j < a.length by omega), hv]; rfl, k⟩
        have hn := mk1_T mods w m hjj hmm
        by_cases hx : w = m
        · rw [decide_eq_true hx] at hn
          repeat' ((conv => whnf); first | refine hrow ?_ | refine Gs.id ?_ | with_reducible refine Brn.F rfl ?_ | refine Brn.T (by (try simp only [smT]); first | rfl | omega | fail) ?_ | (refine Bnd.mk (fun hm => ?_); (try simp only [smT] at hm)) | refine Rng.mk (by (try simp only [smT]); omega) ?_ | refine Ixo.mk ⟨_, rfl, (by (try simp only [smT]); omega), ?_⟩ | (refine Raw.callF [2] [2] rfl rfl rfl rfl rfl rfl rfl rfl (hn) ?_; rintro _ _ ⟨rfl, rfl⟩; refine Bk.mk rfl rfl ?_))
          all_goals (conv => whnf)
          all_goals refine ⟨(i, j + 1, a), ⟨by dsimp only; omega, by dsimp only; omega, q3, ?_, ?_⟩, by dsimp only; omega, [(900, .k 900), (2, .k 2)], ⟨by (try dsimp only); (repeat (refine LeT.cons rfl (by first | exact LeS.d (by first | exact LeD.u rfl | exact LeD.ow rfl rfl | fail) | fail) ?_)); exact LeT.nil, by (try dsimp only); repeat (first | exact LeO.nil | refine LeO.ar rfl rfl (by first | rfl | fail) ?_ | refine LeO.fm rfl (by first | rfl | fail) ?_ | fail)⟩⟩
          · dsimp only
            rw [List.take_succ_eq_append_getElem h9, List.filter_append, ← q4, hw, List.filter_cons_of_neg (by simpa using hx), List.filter_nil, List.append_nil]
          · dsimp only
            rw [← List.tail_drop, q5, List.tail_drop]
        · rw [decide_eq_false hx] at hn
          repeat' ((conv => whnf); first | refine hrow ?_ | refine Gs.id ?_ | with_reducible refine Brn.T rfl ?_ | refine Brn.T (by (try simp only [smT]); first | rfl | omega | fail) ?_ | (refine Bnd.mk (fun hm => ?_); (try simp only [smT] at hm)) | refine Rng.mk (by (try simp only [smT]); omega) ?_ | refine Ixo.mk ⟨_, rfl, (by (try simp only [smT]); omega), ?_⟩ | refine Rw.map (by (try simp only [smT]); omega) ?_ | (refine Raw.callF [2] [2] rfl rfl rfl rfl rfl rfl rfl rfl (hn) ?_; rintro _ _ ⟨rfl, rfl⟩; refine Bk.mk rfl rfl ?_))
          all_goals (conv => whnf)
          all_goals refine ⟨(i + 1, j + 1, a.set i w), ⟨by dsimp only; omega, by dsimp only; omega, by simp [q3], ?_, ?_⟩, by dsimp only; omega, [(900, .k 900), (2, .k 2)], ⟨by (try dsimp only); (repeat (refine LeT.cons rfl (by first | exact LeS.d (by first | exact LeD.u rfl | exact LeD.ow rfl rfl | fail) | fail) ?_)); exact LeT.nil, by (try dsimp only); repeat (first | exact LeO.nil | refine LeO.ar rfl rfl (by first | rfl | simp [List.map_set]) ?_ | refine LeO.fm rfl (by first | rfl | fail) ?_ | fail)⟩⟩
          · dsimp only
            rw [List.take_succ_eq_append_getElem h9, List.filter_append, ← q4, hw, List.filter_cons_of_pos (by simpa using hx), List.filter_nil, List.take_succ_eq_append_getElem (by simp; omega), List.take_set_of_le (Nat.le_refl _), List.getElem_set_self]
          · dsimp only
            rw [List.drop_set_of_lt (by omega), ← List.tail_drop, q5, List.tail_drop]
      · obtain rfl : j = ws.length := by omega
        rw [List.take_length] at q4
        repeat' ((conv => whnf); first | refine Gs.id ?_ | refine Brn.F (by (try simp only [smT]); first | rfl | omega | fail) ?_ | (refine Bnd.mk (fun hm => ?_); (try simp only [smT] at hm)) | refine Raw.clear (T := tt) rfl rfl rfl rfl rfl rfl rfl (by (try simp only [smT]); omega) ?_ | refine Slc.mk ⟨_, _, rfl, rfl, (by (try simp only [smT]); omega), (by (try simp only [smT]); omega), ?_⟩ | fail)
        all_goals (conv => whnf)
        have hl2 : i = (ws.filter fun w => w != m).length := by rw [← q4]; simp; omega
        refine RetO.mk ⟨[(900, .k 900), (2, .k 2)], _, _, .d (.ow rfl hl2), LeO.tr (m := i) rfl rfl ?_ ?_ (LeO.fm rfl rfl .nil), rfl, rfl⟩
        · simp [putR]; omega
        · rw [putR_take _ _ _ (by simp; omega), ← List.map_take, q4]
end Go.Proofs.YtgloielnnakknaaDoor
namespace Go.Proofs.YtgloielnnakknaaDoor
open Go.RowKit
theorem mdrop_T (us : List Un) (mods : List Md) (table : List Nat) (log : List Ev) (full : Bool) (i : Nat) (mn : ByteArray) (mr : Int) (ma : List At) (hmd : mods[i]? = some ⟨mn, mr, ma⟩) (hl : ma.length ≤ 1000000) (k : Nat) (hkl : k < ma.length) : CallsA Tryd.prog 61 [mdP i, di k] (ldOb us mods table log full) (Iso (.t []) (ldOb us (mods.set i ⟨mn, mr, ma.eraseIdx k⟩) table log full)) := by
  have hi := lt_get hmd
  have hc := deleteA_T ma k hkl hl
  refine callsA_of_vcO (T := tt) Tryd.func61 rfl rfl rfl rfl rfl ?_
  repeat' ((conv => whnf); first | refine Rw_md hmd ?_ | refine Rw.self (by simpa using hi) ?_ | refine Gs.id ?_ | refine Rng.mk (by (try simp only [smT]); omega) ?_ | refine Len.mk (by first | rfl | (simp; done) | fail) ?_ | (refine CL.mk (Or.inr (Raw.take 902 8 rfl rfl rfl ((by rw [List.getElem?_map, hmd]; rfl)) rfl rfl rfl (Raw.callI [902] [902] rfl rfl rfl rfl rfl rfl rfl (hc _ (by simp)) ?_))); rintro _ _ ⟨rfl, rfl⟩; refine Bk.mk rfl rfl ?_))
  all_goals (conv => whnf)
  all_goals exact RetO.mk ⟨[], _, _, .ts .nil, LeO.fm rfl rfl (LeO.fm rfl (by simp [List.map_set, Md.row]) .nil), rfl, rfl⟩
def cutM (s : ByteArray) : ByteArray := if 0 ≤ cutI s then s.extract 0 (cutI s).toNat else s
def cutA (s : ByteArray) : ByteArray := if 0 ≤ cutI s then s.extract ((cutI s).toNat + 1) s.size else emp
theorem idx_lt : ∀ (l : List UInt8), 0 ≤ Go.Lib.indexByte l 46 → (Go.Lib.indexByte l 46).toNat < l.length
  | [], h => by simp [Go.Lib.indexByte] at h
  | b :: l, h => by
    by_cases hb : b = 46
    · subst hb; simp [Go.Lib.indexByte]
    · have h4 : (b == 46) = false := by simpa using hb
      rw [Go.Lib.indexByte, h4] at h ⊢
      simp only [Bool.false_eq_true, if_false] at h ⊢
      by_cases h5 : Go.Lib.indexByte l 46 = -1
      · rw [h5] at h; simp at h
      · have h6 : (Go.Lib.indexByte l 46 == -1) = false := by simpa using h5
        rw [h6] at h ⊢
        simp only [Bool.false_eq_true, if_false] at h ⊢
        by_cases h7 : 0 ≤ Go.Lib.indexByte l 46
        · have := idx_lt l h7
          rw [List.length_cons]; omega
        · rw [List.length_cons]; omega
theorem cutI_lt (s : ByteArray) (h : 0 ≤ cutI s) : (cutI s).toNat < s.size := by
  have := idx_lt s.data.toList h
  simpa [cutI] using this
theorem cut0_T (s : ByteArray) (hs : s.size ≤ 1000000) : CallsA Tryd.prog 75 [dsr s, dsr dot] [] (Is (.t [.d (.u (.str (cutM s))), .d (.u (.str (cutA s))), .d (.u (.bool (decide (0 ≤ cutI s))))])) := by
  have h := indexS_T s
  by_cases h0 : 0 ≤ cutI s
  · obtain ⟨m, hm0⟩ : ∃ m : Nat, cutI s = m := ⟨(cutI s).toNat, by omega⟩
    have hlt := cutI_lt s h0
    have e1 : cutM s = s.extract 0 m := by rw [cutM, if_pos h0, hm0]; rfl
    have e2 : cutA s = s.extract (m + 1) s.size := by rw [cutA, if_pos h0, hm0]; rfl
    rw [e1, e2, decide_eq_true h0]
    rw [hm0] at h hlt
    simp only [Int.toNat_natCast] at hlt
    have hd : dot.size = 1 := rfl
    refine callsA_of_vc (T := tt) Tryd.func75 rfl rfl rfl rfl rfl ?_
    repeat' ((conv => whnf); first | refine Gs.id ?_ | with_reducible refine Brn.T rfl ?_ | (refine Bnd.mk (fun hm => ?_); (try simp only [smT] at hm)) | refine Rng.mk (by (try simp only [smT]); omega) ?_ | refine Slc.mk ⟨_, _, rfl, rfl, (by (try simp only [smT]); omega), (by (try simp only [smT]); omega), ?_⟩ | refine Drw.of (T := tt) (i := 3) [] [] [(0, true), (1, true), (2, true), (3, true), (4, true), (5, true), (6, true), (7, true), (8, true), (9, true), (10, true), (11, true)] (by kernel_rfl) ?_ | (refine CL.mk (Or.inl ?_); (conv => whnf); refine Cl.is (h) rfl (by first | exact fun _ => rfl | fail) ?_) | fail)
    all_goals (conv => whnf)
    all_goals exact Ret.is rfl
  · have e1 : cutM s = s := by rw [cutM, if_neg h0]
    have e2 : cutA s = emp := by rw [cutA, if_neg h0]
    rw [e1, e2, decide_eq_false h0]
    refine callsA_of_vc (T := tt) Tryd.func75 rfl rfl rfl rfl rfl ?_
    repeat' ((conv => whnf); first | refine Gs.id ?_ | refine Brn.F (by (try simp only [smT]); first | rfl | omega | fail) ?_ | (refine CL.mk (Or.inl ?_); (conv => whnf); refine Cl.is (h) rfl (by first | exact fun _ => rfl | fail) ?_) | fail)
    all_goals (conv => whnf)
    all_goals exact Ret.is rfl
theorem cut_T (s : ByteArray) (hs : s.size ≤ 1000000) : CallsA Tryd.prog 64 [dsr s, dsr dot] [] (Is (.t [.d (.u (.str (cutM s))), .d (.u (.str (cutA s))), .d (.u (.bool (decide (0 ≤ cutI s))))])) := by
  have h := cut0_T s hs
  refine callsA_of_vc (T := tt) Tryd.func64 rfl rfl rfl rfl rfl ?_
  repeat' ((conv => whnf); first | refine Gs.id ?_ | (refine CL.mk (Or.inl ?_); (conv => whnf); refine Cl.is (h) rfl (by first | exact fun _ => rfl | fail) ?_) | fail)
  all_goals (conv => whnf)
  all_goals exact Ret.is rfl
end Go.Proofs.YtgloielnnakknaaDoor
namespace Go.Proofs.YtgloielnnakknaaDoor
open Go.RowKit
structure Ld where
  mods : List Md
  table : List Nat
  log : List Ev
  full : Bool
def updM (mods : List Md) (i : Nat) (f : Md → Md) : List Md := match mods[i]? with
  | some m => mods.set i (f m)
  | none => mods
def noteS (s : Ld) (k : Int) (n : ByteArray) : Ld := ⟨s.mods, s.table, noteLog s.log s.full k n, noteFull s.log s.full⟩
def updS (s : Ld) (i : Nat) (f : Md → Md) : Ld := ⟨updM s.mods i f, s.table, s.log, s.full⟩
def setS (s : Ld) (i : Nat) (n : ByteArray) (v : Option Nat) : Ld := updS s i fun m => ⟨m.name, m.run, setA m.ats n v⟩
def dropS (s : Ld) (i : Nat) (n : ByteArray) : Ld := updS s i fun m => ⟨m.name, m.run, dropA m.ats n⟩
def runS (s : Ld) (i : Nat) (d : Int) : Ld := updS s i fun m => ⟨m.name, m.run + d, m.ats⟩
def nameS (s : Ld) (i : Nat) : ByteArray := (nmOf s.mods i).getD emp
def atsS (s : Ld) (i : Nat) : List At := match s.mods[i]? with
  | some m => m.ats
  | none => []
def runOf (s : Ld) (i : Nat) : Int := match s.mods[i]? with
  | some m => m.run
  | none => 0
def findS (s : Ld) (n : ByteArray) : Option Nat := tfind s.mods n s.table
def unitS : List Un → ByteArray → List Stp
  | [], _ => []
  | u :: r, n => if n = u.name then u.steps else unitS r n
def hasU : List Un → ByteArray → Bool
  | [], _ => false
  | u :: r, n => if n = u.name then true else hasU r n
def stepsW (St : Ld → Nat → Stp → Ld × Bool) (i : Nat) : Ld → List Stp → Ld × Bool
  | s, [] => (s, true)
  | s, t :: r => if s.full = true then (s, false) else if (St s i t).2 = true then stepsW St i (St s i t).1 r else ((St s i t).1, false)
/-- Ahead of the steps of a run. -/
def beginS (s : Ld) (i : Nat) : Ld := runS (noteS s 1 (nameS s i)) i 1
def endS (s : Ld) (i : Nat) (ok : Bool) : Ld := noteS (runS s i (-1)) (if ok = true then 2 else 3) (nameS s i)
def runW (St : Ld → Nat → Stp → Ld × Bool) (us : List Un) (s : Ld) (i : Nat) : Ld × Bool := (endS (stepsW St i (beginS s i) (unitS us (nameS s i))).1 i (stepsW St i (beginS s i) (unitS us (nameS s i))).2, (stepsW St i (beginS s i) (unitS us (nameS s i))).2)
def dotAt (n : ByteArray) : Int := lastB n 46 n.size
def parB (n : ByteArray) : ByteArray := n.extract 0 (dotAt n).toNat
def lastP (n : ByteArray) : ByteArray := if 0 ≤ dotAt n then n.extract ((dotAt n).toNat + 1) n.size else n
def pushS (s : Ld) (n : ByteArray) : Ld := ⟨s.mods ++ [⟨n, 0, []⟩], s.table ++ [s.mods.length], s.log, s.full⟩
/-- Where the parent of a new module stands. -/
def parS (s : Ld) (n : ByteArray) : Option Nat := if 0 ≤ dotAt n then findS (pushS s n) (parB n) else none
def linkS (s : Ld) (n : ByteArray) : Ld := match parS s n with
  | some p => setS (pushS s n) p (lastP n) (some s.mods.length)
  | none => pushS s n
def goneS (s : Ld) (i : Nat) (p : Option Nat) (n : ByteArray) : Ld := match p with
  | some p => if lookA (atsS s p) n = some (some i) then dropS ⟨s.mods, s.table.filter fun j => j != i, s.log, s.full⟩ p n else ⟨s.mods, s.table.filter fun j => j != i, s.log, s.full⟩
  | none => ⟨s.mods, s.table.filter fun j => j != i, s.log, s.full⟩
def makeW (R : Ld → Nat → Ld × Bool) (s : Ld) (n : ByteArray) : Ld × Bool := if (R (linkS s n) s.mods.length).2 = true then R (linkS s n) s.mods.length else (goneS (R (linkS s n) s.mods.length).1 s.mods.length (parS s n) (lastP n), false)
def loadW (R : Ld → Nat → Ld × Bool) (us : List Un) : Ld → List ByteArray → Ld × Bool
  | s, [] => (s, true)
  | s, n :: r => match findS s n with
    | some j => loadW R us (noteS s (if 0 < runOf s j then 5 else 4) n) r
    | none => if hasU us n = true then (if (makeW R s n).2 = true then loadW R us (makeW R s n).1 r else ((makeW R s n).1, false)) else (noteS s 6 n, false)
def wholeB (t : Stp) : ByteArray := t.name ++ dot ++ t.part
def partW (R : Ld → Nat → Ld × Bool) (us : List Un) (s : Ld) (i : Nat) (t : Stp) : Ld × Bool := match findS s t.name with
  | none => (s, false)
  | some j => match lookA (atsS s j) t.part with
    | some v => (setS s i t.part v, true)
    | none => if hasU us (wholeB t) = true then (if (loadW R us s (chainM (wholeB t))).2 = true then (setS (loadW R us s (chainM (wholeB t))).1 i t.part (findS (loadW R us s (chainM (wholeB t))).1 (wholeB t)), true) else ((loadW R us s (chainM (wholeB t))).1, false)) else (s, false)
def stepW (R : Ld → Nat → Ld × Bool) (us : List Un) (s : Ld) (i : Nat) (t : Stp) : Ld × Bool :=
  if t.kind = 1 then (setS s i t.name none, true)
  else if t.kind = 2 then (if (lookA (atsS s i) t.name).isSome = true then (dropS s i t.name, true) else (s, false))
  else if t.kind = 5 then (match findS s t.name with
    | some j => R s j
    | none => (s, false))
  else if (loadW R us s (chainM t.name)).2 = true then
    (if t.kind = 3 then (setS (loadW R us s (chainM t.name)).1 i (cutM t.name) (findS (loadW R us s (chainM t.name)).1 (cutM t.name)), true)
    else partW R us (loadW R us s (chainM t.name)).1 i t)
  else ((loadW R us s (chainM t.name)).1, false)
def runM (us : List Un) : Nat → Ld → Nat → Ld × Bool
  | 0 => runW (fun s _ _ => (s, false)) us
  | n + 1 => runW (stepW (runM us n) us) us
/-- How many events can still come. -/
def left (s : Ld) : Nat := if s.full = true then 0 else 5001 - s.log.length
/-- Names that attributes can have. -/
def namesA (us : List Un) : List ByteArray := us.flatMap fun u => lastP u.name :: u.steps.flatMap fun t => [t.name, t.part, cutM t.name]
structure Uok (us : List Un) : Prop where
  len : us.length ≤ 40
  name : ∀ u ∈ us, u.name.size ≤ 60
  steps : ∀ u ∈ us, u.steps.length ≤ 30
  step : ∀ u ∈ us, ∀ t ∈ u.steps, t.name.size ≤ 60 ∧ t.part.size ≤ 60
structure Inv (us : List Un) (s : Ld) : Prop where
  log : s.log.length ≤ 5000
  tab : ∀ j ∈ s.table, j < s.mods.length
  tnd : (s.table.map (nmOf s.mods)).Nodup
  nm : ∀ m ∈ s.mods, hasU us m.name = true
  nd : ∀ m ∈ s.mods, (m.ats.map At.name).Nodup
  sub : ∀ m ∈ s.mods, ∀ a ∈ m.ats, a.name ∈ namesA us
  ptr : ∀ m ∈ s.mods, ∀ a ∈ m.ats, ∀ j, a.mod = some j → j < s.mods.length
structure Keep (s s' : Ld) : Prop where
  len : s.mods.length ≤ s'.mods.length
  get : ∀ (i : Nat) m, s.mods[i]? = some m → ∃ m', s'.mods[i]? = some m' ∧ m'.name = m.name ∧ m'.run = m.run
  new : ∀ (i : Nat) m, s.mods.length ≤ i → s'.mods[i]? = some m → m.run = 0
  log : s.log.length ≤ s'.log.length
  full : s.full = true → s'.full = true
def RunB (s : Ld) (n : Nat) : Prop := ∀ m ∈ s.mods, 0 ≤ m.run ∧ m.run + n ≤ 10000
theorem Keep.refl (s : Ld) : Keep s s := ⟨Nat.le_refl _, fun _ m h => ⟨m, h, rfl, rfl⟩, fun i m h1 h2 => by have := lt_get h2; omega, Nat.le_refl _, id⟩
theorem Keep.trans {a b c : Ld} (h : Keep a b) (k : Keep b c) : Keep a c := ⟨Nat.le_trans h.len k.len, fun i m e => by
  obtain ⟨m1, q1, q2, q3⟩ := h.get i m e
  obtain ⟨m2, r1, r2, r3⟩ := k.get i m1 q1
  exact ⟨m2, r1, r2.trans q2, r3.trans q3⟩, fun i m h1 h2 => by
  by_cases hi : b.mods.length ≤ i
  · exact k.new i m hi h2
  · have hlt : i < b.mods.length := by omega
    have e := List.getElem?_eq_getElem hlt
    obtain ⟨m2, r1, _, r3⟩ := k.get i _ e
    rw [h2] at r1
    injection r1 with r1
    subst r1
    rw [r3]
    exact h.new i _ h1 e, Nat.le_trans h.log k.log, fun e => k.full (h.full e)⟩
theorem Keep.lf {s s' : Ld} (h : Keep s s') : left s' ≤ left s := by
  unfold left
  have h1 := h.full
  have h2 := h.log
  cases hf : s.full <;> cases hf' : s'.full <;> simp_all <;> omega
theorem Keep.runB {s s' : Ld} {n : Nat} (h : Keep s s') (b : RunB s n) (hn : n ≤ 10000) : RunB s' n := fun m hm => by
  obtain ⟨i, hi⟩ := List.getElem?_of_mem hm
  by_cases hlt : s.mods.length ≤ i
  · rw [h.new i m hlt hi]; omega
  · have e := List.getElem?_eq_getElem (show i < s.mods.length by omega)
    obtain ⟨m2, r1, _, r3⟩ := h.get i _ e
    rw [hi] at r1
    injection r1 with r1
    subst r1
    rw [r3]
    exact b _ (List.mem_of_getElem? e)
theorem Keep.nm {s s' : Ld} (h : Keep s s') {j : Nat} {n : ByteArray} (e : nmOf s.mods j = some n) : nmOf s'.mods j = some n := by
  unfold nmOf at *
  cases hm : s.mods[j]? with
  | none => rw [hm] at e; cases e
  | some m =>
    obtain ⟨m', q1, q2, _⟩ := h.get j m hm
    rw [hm] at e
    rw [q1]
    simp only [Option.map_some] at e ⊢
    rw [q2]; exact e
theorem noteFull_mono {log : List Ev} {full : Bool} (h : full = true) : noteFull log full = true := by simp [noteFull, h]
theorem noteLog_len (log : List Ev) (full : Bool) (k : Int) (n : ByteArray) (h : log.length ≤ 5000) : log.length ≤ (noteLog log full k n).length ∧ (noteLog log full k n).length ≤ 5000 := by
  unfold noteLog
  split
  · exact ⟨Nat.le_refl _, h⟩
  · rename_i hf
    simp [noteFull] at hf
    simp; omega
theorem Keep.note (s : Ld) (k : Int) (n : ByteArray) (h : s.log.length ≤ 5000) : Keep s (noteS s k n) := ⟨Nat.le_refl _, fun _ m h => ⟨m, h, rfl, rfl⟩, fun i m h1 h2 => by have : i < s.mods.length := lt_get h2; omega, (noteLog_len _ _ _ _ h).1, noteFull_mono⟩
theorem Inv.note {us : List Un} {s : Ld} (h : Inv us s) (k : Int) (n : ByteArray) : Inv us (noteS s k n) := ⟨(noteLog_len _ _ _ _ h.log).2, h.tab, h.tnd, h.nm, h.nd, h.sub, h.ptr⟩
theorem left_note (s : Ld) (k : Int) (n : ByteArray) (h : s.log.length ≤ 5000) : left (noteS s k n) = left s - 1 := by
  unfold left noteS noteLog noteFull
  cases hf : s.full
  · by_cases h5 : s.log.length = 5000
    · simp [h5]
    · simp [h5]; omega
  · simp
theorem updM_len (mods : List Md) (i : Nat) (f : Md → Md) : (updM mods i f).length = mods.length := by
  unfold updM; split <;> simp
theorem updM_get (mods : List Md) (i : Nat) (f : Md → Md) (j : Nat) : (updM mods i f)[j]? = (mods[j]?).map fun m => if j = i then f m else m := by
  unfold updM
  cases hm : mods[i]? with
  | none =>
    simp only
    by_cases h : j = i
    · subst h; rw [hm]; rfl
    · simp [h]
  | some m =>
    simp only
    rw [List.getElem?_set]
    by_cases h : i = j
    · subst h; have e := (List.getElem?_eq_some_iff.1 hm).2; simp [lt_get hm, e]
    · rw [if_neg h]
      have : ¬ j = i := fun e => h e.symm
      simp [this]
theorem updM_mem {mods : List Md} {i : Nat} {f : Md → Md} {m : Md} (h : m ∈ updM mods i f) : ∃ m0 ∈ mods, m = f m0 ∨ m = m0 := by
  obtain ⟨j, hj⟩ := List.getElem?_of_mem h
  rw [updM_get] at hj
  cases hm : mods[j]? with
  | none => rw [hm] at hj; cases hj
  | some m0 =>
    rw [hm] at hj
    simp only [Option.map_some, Option.some.injEq] at hj
    refine ⟨m0, List.mem_of_getElem? hm, ?_⟩
    split at hj
    · exact .inl hj.symm
    · exact .inr hj.symm
theorem nmOf_upd {mods : List Md} {i : Nat} {f : Md → Md} (hf : ∀ m, (f m).name = m.name) (j : Nat) : nmOf (updM mods i f) j = nmOf mods j := by
  unfold nmOf
  rw [updM_get]
  cases mods[j]? with
  | none => rfl
  | some m =>
    simp only [Option.map_some]
    split
    · rw [hf]
    · rfl
theorem Keep.upd {s : Ld} {i : Nat} {f : Md → Md} (h1 : ∀ m, (f m).name = m.name) (h2 : ∀ m, (f m).run = m.run) : Keep s (updS s i f) := ⟨by simp [updS, updM_len], fun j m e => by
  refine ⟨if j = i then f m else m, by simp only [updS, updM_get, e, Option.map_some], ?_, ?_⟩
  · split
    · exact h1 m
    · rfl
  · split
    · exact h2 m
    · rfl, fun j m q1 q2 => by have := lt_get q2; simp [updS, updM_len] at this; omega, Nat.le_refl _, id⟩
theorem Keep.set (s : Ld) (i : Nat) (n : ByteArray) (v : Option Nat) : Keep s (setS s i n v) := .upd (fun _ => rfl) fun _ => rfl
theorem Keep.drop (s : Ld) (i : Nat) (n : ByteArray) : Keep s (dropS s i n) := .upd (fun _ => rfl) fun _ => rfl
theorem Inv.upd {us : List Un} {s : Ld} (h : Inv us s) {i : Nat} {f : Md → Md} (h1 : ∀ m, (f m).name = m.name) (h2 : ∀ m ∈ s.mods, ((f m).ats.map At.name).Nodup) (h3 : ∀ m ∈ s.mods, ∀ a ∈ (f m).ats, a.name ∈ namesA us ∧ ∀ j, a.mod = some j → j < s.mods.length) : Inv us (updS s i f) := by
  refine ⟨h.log, fun j hj => by simp only [updS, updM_len]; exact h.tab j hj, ?_, fun m hm => ?_, fun m hm => ?_, fun m hm => ?_, fun m hm => ?_⟩
  · have : (updS s i f).table.map (nmOf (updS s i f).mods) = s.table.map (nmOf s.mods) := List.map_congr_left fun j _ => nmOf_upd h1 j
    rw [this]; exact h.tnd
  · obtain ⟨m0, q1, rfl | rfl⟩ := updM_mem hm
    · rw [h1]; exact h.nm m0 q1
    · exact h.nm _ q1
  · obtain ⟨m0, q1, rfl | rfl⟩ := updM_mem hm
    · exact h2 m0 q1
    · exact h.nd _ q1
  · obtain ⟨m0, q1, rfl | rfl⟩ := updM_mem hm
    · exact fun a ha => (h3 m0 q1 a ha).1
    · exact h.sub _ q1
  · intro a ha j hj
    simp only [updS, updM_len]
    obtain ⟨m0, q1, rfl | rfl⟩ := updM_mem hm
    · exact (h3 m0 q1 a ha).2 j hj
    · exact h.ptr _ q1 a ha j hj
theorem setA_mem {l : List At} {n : ByteArray} {v : Option Nat} {a : At} (h : a ∈ setA l n v) : a ∈ l ∨ a = ⟨n, v⟩ := by
  induction l with
  | nil => simp [setA] at h; exact .inr h
  | cons b r ih =>
    simp only [setA] at h
    split at h
    · rcases List.mem_cons.1 h with h | h
      · exact .inr h
      · exact .inl (List.mem_cons_of_mem _ h)
    · rcases List.mem_cons.1 h with h | h
      · exact .inl (by rw [h]; exact List.mem_cons_self)
      · exact (ih h).imp (List.mem_cons_of_mem _) id
theorem setA_nd {n : ByteArray} {v : Option Nat} : ∀ {l : List At}, (l.map At.name).Nodup → ((setA l n v).map At.name).Nodup
  | [], _ => by simp [setA]
  | b :: r, h => by
    simp only [List.map_cons, List.nodup_cons] at h
    simp only [setA]
    split
    · rename_i e
      simp only [List.map_cons, List.nodup_cons]
      exact ⟨by rw [← e]; exact h.1, h.2⟩
    · rename_i e
      simp only [List.map_cons, List.nodup_cons]
      refine ⟨fun hm => ?_, setA_nd h.2⟩
      obtain ⟨a, ha, q⟩ := List.mem_map.1 hm
      rcases setA_mem ha with ha | ha
      · exact h.1 (List.mem_map.2 ⟨a, ha, q⟩)
      · subst ha; exact e q.symm
theorem dropA_sub (n : ByteArray) : ∀ l, (dropA l n).Sublist l
  | [] => .slnil
  | b :: r => by
    simp only [dropA]
    split
    · exact List.sublist_cons_self _ _
    · exact (dropA_sub n r).cons_cons _
theorem Inv.set {us : List Un} {s : Ld} (h : Inv us s) (i : Nat) {n : ByteArray} {v : Option Nat} (hn : n ∈ namesA us) (hv : ∀ j, v = some j → j < s.mods.length) : Inv us (setS s i n v) := by
  refine h.upd (fun _ => rfl) (fun m hm => setA_nd (h.nd m hm)) fun m hm a ha => ?_
  rcases setA_mem ha with ha | rfl
  · exact ⟨h.sub m hm a ha, h.ptr m hm a ha⟩
  · exact ⟨hn, hv⟩
theorem Inv.drop {us : List Un} {s : Ld} (h : Inv us s) (i : Nat) (n : ByteArray) : Inv us (dropS s i n) := by
  refine h.upd (fun _ => rfl) (fun m hm => (h.nd m hm).sublist ((dropA_sub n m.ats).map _)) fun m hm a ha => ?_
  have ha := (dropA_sub n m.ats).subset ha
  exact ⟨h.sub m hm a ha, h.ptr m hm a ha⟩
theorem tfind_mem {mods : List Md} {n : ByteArray} : ∀ {l : List Nat} {j : Nat}, tfind mods n l = some j → j ∈ l ∧ nmOf mods j = some n
  | [], j, h => by cases h
  | k :: r, j, h => by
    simp only [tfind] at h
    split at h
    · rename_i e; injection h with h; subst h; exact ⟨List.mem_cons_self, e⟩
    · obtain ⟨q1, q2⟩ := tfind_mem h; exact ⟨List.mem_cons_of_mem _ q1, q2⟩
theorem tfind_some {mods : List Md} {n : ByteArray} : ∀ {l : List Nat} {j : Nat}, j ∈ l → nmOf mods j = some n → ∃ k, tfind mods n l = some k
  | k :: r, j, h, e => by
    simp only [tfind]
    split
    · exact ⟨_, rfl⟩
    · rcases List.mem_cons.1 h with rfl | h
      · rename_i hne; exact absurd e hne
      · exact tfind_some h e
theorem Inv.find {us : List Un} {s : Ld} (h : Inv us s) {n : ByteArray} : ∀ j, findS s n = some j → j < s.mods.length := fun j e => h.tab j (tfind_mem e).1
theorem hasU_mem : ∀ {us : List Un} {n : ByteArray}, hasU us n = true → ∃ u ∈ us, u.name = n
  | u :: r, n, h => by
    simp only [hasU] at h
    split at h
    · rename_i e; exact ⟨u, List.mem_cons_self, e.symm⟩
    · obtain ⟨v, q1, q2⟩ := hasU_mem h; exact ⟨v, List.mem_cons_of_mem _ q1, q2⟩
  | [], _, h => by cases h
theorem unitS_mem : ∀ {us : List Un} {n : ByteArray} {t : Stp}, t ∈ unitS us n → ∃ u ∈ us, t ∈ u.steps
  | u :: r, n, t, h => by
    simp only [unitS] at h
    split at h
    · exact ⟨u, List.mem_cons_self, h⟩
    · obtain ⟨v, q1, q2⟩ := unitS_mem h; exact ⟨v, List.mem_cons_of_mem _ q1, q2⟩
  | [], _, _, h => by cases h
theorem namesA_step {us : List Un} {u : Un} {t : Stp} (hu : u ∈ us) (ht : t ∈ u.steps) : t.name ∈ namesA us ∧ t.part ∈ namesA us ∧ cutM t.name ∈ namesA us := by
  have key : ∀ x, x ∈ [t.name, t.part, cutM t.name] → x ∈ namesA us := fun x hx => by
    unfold namesA
    exact List.mem_flatMap.2 ⟨u, hu, List.mem_cons_of_mem _ (List.mem_flatMap.2 ⟨t, ht, hx⟩)⟩
  exact ⟨key _ (by simp), key _ (by simp), key _ (by simp)⟩
theorem namesA_last {us : List Un} {n : ByteArray} (h : hasU us n = true) : lastP n ∈ namesA us := by
  obtain ⟨u, hu, rfl⟩ := hasU_mem h
  exact List.mem_flatMap.2 ⟨u, hu, List.mem_cons_self⟩
end Go.Proofs.YtgloielnnakknaaDoor
namespace Go.Proofs.YtgloielnnakknaaDoor
open Go.RowKit
structure Good3 (us : List Un) (s : Ld) (p : Ld × Bool) : Prop where
  inv : Inv us p.1
  keep : Keep s p.1
  tab : p.2 = true → ∀ j ∈ s.table, j ∈ p.1.table
def RP (us : List Un) (R : Ld → Nat → Ld × Bool) : Prop := ∀ s i, Inv us s → i < s.mods.length → Good3 us s (R s i)
def SP (us : List Un) (St : Ld → Nat → Stp → Ld × Bool) : Prop := ∀ s i t, Inv us s → i < s.mods.length → (∃ u ∈ us, t ∈ u.steps) → Good3 us s (St s i t)
theorem Good3.trans {us : List Un} {s s1 : Ld} {p : Ld × Bool} (h : Keep s s1) (ht : p.2 = true → ∀ j ∈ s.table, j ∈ s1.table) (k : Good3 us s1 p) : Good3 us s p := ⟨k.inv, h.trans k.keep, fun e j hj => k.tab e j (ht e j hj)⟩
theorem stepsW_P {us : List Un} {St : Ld → Nat → Stp → Ld × Bool} (hS : SP us St) (i : Nat) : ∀ (l : List Stp) (s : Ld), Inv us s → i < s.mods.length → (∀ t ∈ l, ∃ u ∈ us, t ∈ u.steps) → Good3 us s (stepsW St i s l)
  | [], s, h, _, _ => ⟨h, .refl s, fun _ j hj => hj⟩
  | t :: r, s, h, hi, hl => by
    simp only [stepsW]
    split
    · exact ⟨h, .refl s, fun e => by cases e⟩
    · have g := hS s i t h hi (hl t (by simp))
      split
      · rename_i e
        exact .trans g.keep (fun _ => g.tab e) (stepsW_P hS i r _ g.inv (Nat.lt_of_lt_of_le hi g.keep.len) fun t ht => hl t (by simp [ht]))
      · exact ⟨g.inv, g.keep, fun e => by cases e⟩
theorem Inv.run {us : List Un} {s : Ld} (h : Inv us s) (i : Nat) (d : Int) : Inv us (runS s i d) :=
  h.upd (fun _ => rfl) (fun m hm => h.nd m hm) fun m hm a ha => ⟨h.sub m hm a ha, h.ptr m hm a ha⟩
/-- Between the beginning and the end of a run. -/
theorem Keep.run {s s1 : Ld} {i : Nat} (hi : i < s.mods.length) (k : Keep (runS s i 1) s1) : Keep s (runS s1 i (-1)) := by
  have hl : (runS s i 1).mods.length = s.mods.length := by simp [runS, updS, updM_len]
  refine ⟨by simp only [runS, updS, updM_len]; rw [← hl]; exact k.len, fun j m e => ?_, fun j m q1 q2 => ?_, k.log, k.full⟩
  · have e1 : (runS s i 1).mods[j]? = some (if j = i then ⟨m.name, m.run + 1, m.ats⟩ else m) := by simp only [runS, updS, updM_get, e, Option.map_some]
    obtain ⟨m', r1, r2, r3⟩ := k.get j _ e1
    refine ⟨if j = i then ⟨m'.name, m'.run + -1, m'.ats⟩ else m', by simp only [runS, updS, updM_get, r1, Option.map_some], ?_, ?_⟩
    · split
      · rename_i h; rw [if_pos h] at r2; exact r2
      · rename_i h; rw [if_neg h] at r2; exact r2
    · split
      · rename_i h; rw [if_pos h] at r3; simp only at r3 ⊢; omega
      · rename_i h; rw [if_neg h] at r3; exact r3
  · simp only [runS, updS, updM_get] at q2
    cases e : s1.mods[j]? with
    | none => rw [e] at q2; cases q2
    | some m1 =>
      rw [e] at q2
      simp only [Option.map_some, Option.some.injEq] at q2
      have h0 := k.new j m1 (by rw [hl]; exact q1) e
      split at q2
      · rename_i hji
        subst hji
        omega
      · subst q2; exact h0
theorem runW_P {us : List Un} {St : Ld → Nat → Stp → Ld × Bool} (hS : SP us St) : RP us (runW St us) := fun s i h hi => by
  have h1 : Inv us (beginS s i) := (h.note 1 _).run i 1
  have hi1 : i < (beginS s i).mods.length := by simpa [beginS, runS, updS, updM_len, noteS] using hi
  have g := stepsW_P hS i (unitS us (nameS s i)) (beginS s i) h1 hi1 fun t ht => unitS_mem ht
  unfold runW
  generalize stepsW St i (beginS s i) (unitS us (nameS s i)) = p at g ⊢
  have kb : Keep s (noteS s 1 (nameS s i)) := .note s _ _ h.log
  have kr : Keep (noteS s 1 (nameS s i)) (runS p.1 i (-1)) := Keep.run (s := noteS s 1 (nameS s i)) hi g.keep
  have hr : Inv us (runS p.1 i (-1)) := g.inv.run i (-1)
  exact ⟨hr.note _ _, (kb.trans kr).trans (.note _ _ _ hr.log), fun e j hj => g.tab e j hj⟩
theorem Inv.push {us : List Un} {s : Ld} (h : Inv us s) {n : ByteArray} (hn : hasU us n = true) (hf : findS s n = none) : Inv us (pushS s n) := by
  have hlt : ∀ (j : Nat), j < s.mods.length → nmOf (s.mods ++ [⟨n, 0, []⟩]) j = nmOf s.mods j := fun j hj => by simp [nmOf, List.getElem?_append_left hj]
  have hge : nmOf (s.mods ++ [⟨n, 0, []⟩]) s.mods.length = some n := by simp [nmOf]
  refine ⟨h.log, fun j hj => ?_, ?_, fun m hm => ?_, fun m hm => ?_, fun m hm => ?_, fun m hm => ?_⟩
  · simp only [pushS, List.mem_append, List.mem_singleton, List.length_append, List.length_singleton] at hj ⊢
    rcases hj with hj | hj
    · have := h.tab j hj; omega
    · omega
  · simp only [pushS, List.map_append, List.map_cons, List.map_nil, hge]
    rw [List.map_congr_left (fun j hj => hlt j (h.tab j hj)), List.nodup_append]
    refine ⟨h.tnd, by simp, fun a ha b hb hab => ?_⟩
    simp only [List.mem_singleton] at hb
    subst hab hb
    obtain ⟨j, hj, q⟩ := List.mem_map.1 ha
    obtain ⟨k, hk⟩ := tfind_some hj q
    rw [findS, hk] at hf
    cases hf
  all_goals simp only [pushS, List.mem_append, List.mem_singleton] at hm
  · rcases hm with hm | rfl
    · exact h.nm m hm
    · exact hn
  · rcases hm with hm | rfl
    · exact h.nd m hm
    · simp
  · rcases hm with hm | rfl
    · exact h.sub m hm
    · intro a ha; cases ha
  · intro a ha j hj
    simp only [pushS, List.length_append, List.length_singleton]
    rcases hm with hm | rfl
    · have := h.ptr m hm a ha j hj; omega
    · cases ha
theorem Keep.push (s : Ld) (n : ByteArray) : Keep s (pushS s n) := ⟨by simp [pushS], fun j m e => ⟨m, by simp only [pushS]; rw [List.getElem?_append_left (lt_get e)]; exact e, rfl, rfl⟩, fun j m q1 q2 => by
  simp only [pushS] at q2
  rw [List.getElem?_append_right q1] at q2
  have : j - s.mods.length = 0 := by have := lt_get q2; simp at this; omega
  rw [this] at q2
  simp at q2
  subst q2; rfl, Nat.le_refl _, id⟩
theorem link_P {us : List Un} {s : Ld} (h : Inv us s) {n : ByteArray} (hn : hasU us n = true) (hf : findS s n = none) : Inv us (linkS s n) ∧ Keep s (linkS s n) ∧ (linkS s n).table = s.table ++ [s.mods.length] ∧ (linkS s n).mods.length = s.mods.length + 1 ∧ (linkS s n).log = s.log ∧ (linkS s n).full = s.full ∧ nmOf (linkS s n).mods s.mods.length = some n := by
  have h1 := h.push hn hf
  have hl : (pushS s n).mods.length = s.mods.length + 1 := by simp [pushS]
  have hge : nmOf (pushS s n).mods s.mods.length = some n := by simp [nmOf, pushS]
  unfold linkS
  split
  · refine ⟨h1.set _ (namesA_last hn) fun j e => ?_, (Keep.push s n).trans (Keep.set _ _ _ _), rfl, by simp [setS, updS, updM_len, hl], rfl, rfl, ?_⟩
    · injection e with e; subst e; omega
    · simp only [setS, updS]
      refine Eq.trans (nmOf_upd ?_ _) hge; intro m; rfl
  · exact ⟨h1, .push s n, rfl, hl, rfl, rfl, hge⟩
theorem gone_P {us : List Un} {s : Ld} (h : Inv us s) (i : Nat) (p : Option Nat) (n : ByteArray) : Inv us (goneS s i p n) ∧ Keep s (goneS s i p n) := by
  have h1 : Inv us ⟨s.mods, s.table.filter fun j => j != i, s.log, s.full⟩ := ⟨h.log, fun j hj => h.tab j ((List.mem_filter.1 hj).1), h.tnd.sublist (List.filter_sublist.map _), h.nm, h.nd, h.sub, h.ptr⟩
  have k1 : Keep s ⟨s.mods, s.table.filter fun j => j != i, s.log, s.full⟩ := ⟨Nat.le_refl _, fun _ m h => ⟨m, h, rfl, rfl⟩, fun j m q1 q2 => by have : j < s.mods.length := lt_get q2; omega, Nat.le_refl _, id⟩
  unfold goneS
  split
  · split
    · exact ⟨h1.drop _ _, k1.trans (.drop _ _ _)⟩
    · exact ⟨h1, k1⟩
  · exact ⟨h1, k1⟩
theorem makeW_P {us : List Un} {R : Ld → Nat → Ld × Bool} (hR : RP us R) {s : Ld} (h : Inv us s) {n : ByteArray} (hn : hasU us n = true) (hf : findS s n = none) : Good3 us s (makeW R s n) ∧ ((makeW R s n).2 = true → ∃ k, findS (makeW R s n).1 n = some k) := by
  obtain ⟨a1, a2, a3, a4, _, _, a7⟩ := link_P h hn hf
  have g := hR (linkS s n) s.mods.length a1 (by omega)
  unfold makeW
  split
  · rename_i e
    refine ⟨.trans a2 (fun _ j hj => by rw [a3]; exact List.mem_append_left _ hj) g, fun _ => ?_⟩
    exact tfind_some (j := s.mods.length) (g.tab e _ (by rw [a3]; simp)) (g.keep.nm a7)
  · obtain ⟨b1, b2⟩ := gone_P g.inv s.mods.length (parS s n) (lastP n)
    exact ⟨⟨b1, (a2.trans g.keep).trans b2, fun e => by cases e⟩, fun e => by cases e⟩
theorem loadW_P {us : List Un} {R : Ld → Nat → Ld × Bool} (hR : RP us R) : ∀ (l : List ByteArray) (s : Ld), Inv us s → Good3 us s (loadW R us s l)
  | [], s, h => ⟨h, .refl s, fun _ j hj => hj⟩
  | n :: r, s, h => by
    simp only [loadW]
    split
    · exact .trans (.note s _ _ h.log) (fun _ j hj => hj) (loadW_P hR r _ (h.note _ _))
    · rename_i hf
      split
      · rename_i hn
        obtain ⟨g, _⟩ := makeW_P hR h hn hf
        split
        · rename_i e
          exact .trans g.keep (fun _ => g.tab e) (loadW_P hR r _ g.inv)
        · exact ⟨g.inv, g.keep, fun e => by cases e⟩
      · exact ⟨h.note _ _, .note s _ _ h.log, fun e => by cases e⟩
theorem set_P {us : List Un} {s s1 : Ld} (h : Inv us s1) (k : Keep s s1) (ht : ∀ j ∈ s.table, j ∈ s1.table) (i : Nat) {n : ByteArray} {v : Option Nat} (hn : n ∈ namesA us) (hv : ∀ j, v = some j → j < s1.mods.length) : Good3 us s (setS s1 i n v, true) := ⟨h.set i hn hv, k.trans (.set _ _ _ _), fun _ => ht⟩
theorem lookA_mem {n : ByteArray} : ∀ {l : List At} {v : Option Nat}, lookA l n = some v → ∃ a ∈ l, a.name = n ∧ a.mod = v
  | [], v, h => by cases h
  | a :: r, v, h => by
    simp only [lookA] at h
    split at h
    · rename_i e; injection h with h; exact ⟨a, List.mem_cons_self, e, h⟩
    · obtain ⟨b, q1, q2⟩ := lookA_mem h; exact ⟨b, List.mem_cons_of_mem _ q1, q2⟩
theorem look_ptr {us : List Un} {s : Ld} (h : Inv us s) {i : Nat} {n : ByteArray} {v : Option Nat} (hl : lookA (atsS s i) n = some v) : ∀ j, v = some j → j < s.mods.length := fun j e => by
  obtain ⟨a, q1, _, q3⟩ := lookA_mem hl
  unfold atsS at q1
  split at q1
  · rename_i m hmd
    exact h.ptr m (List.mem_of_getElem? hmd) a q1 j (q3.trans e)
  · cases q1
theorem stepW_P {us : List Un} {R : Ld → Nat → Ld × Bool} (hR : RP us R) : SP us (stepW R us) := fun s i t h hi ⟨u, hu, htu⟩ => by
  obtain ⟨n1, n2, n3⟩ := namesA_step hu htu
  unfold stepW
  split
  · exact set_P h (.refl s) (fun _ hj => hj) i n1 fun j e => by cases e
  split
  · split
    · exact ⟨h.drop _ _, .drop _ _ _, fun _ j hj => hj⟩
    · exact ⟨h, .refl s, fun e => by cases e⟩
  split
  · split
    · rename_i j e
      exact hR s j h (h.find j e)
    · exact ⟨h, .refl s, fun e => by cases e⟩
  have g := loadW_P hR (chainM t.name) s h
  generalize loadW R us s (chainM t.name) = p at g
  split
  · rename_i e
    split
    · exact set_P g.inv g.keep (g.tab e) i n3 g.inv.find
    · unfold partW
      split
      · exact ⟨g.inv, g.keep, fun e => by cases e⟩
      · split
        · rename_i v hv
          exact set_P g.inv g.keep (g.tab e) i n2 (look_ptr g.inv hv)
        · have g2 := loadW_P hR (chainM (wholeB t)) p.1 g.inv
          generalize loadW R us p.1 (chainM (wholeB t)) = q at g2
          split
          · split
            · rename_i e2
              exact set_P g2.inv (g.keep.trans g2.keep) (fun j hj => g2.tab e2 j (g.tab e j hj)) i n2 g2.inv.find
            · exact ⟨g2.inv, g.keep.trans g2.keep, fun e => by cases e⟩
          · exact ⟨g.inv, g.keep, fun e => by cases e⟩
  · exact ⟨g.inv, g.keep, fun e => by cases e⟩
theorem runM_P (us : List Un) : ∀ n, RP us (runM us n)
  | 0 => runW_P fun s i t h _ _ => ⟨h, .refl s, fun e => by cases e⟩
  | n + 1 => runW_P (stepW_P (runM_P us n))
end Go.Proofs.YtgloielnnakknaaDoor
namespace Go.Proofs.YtgloielnnakknaaDoor
open Go.RowKit
def SteC (us : List Un) (St : Ld → Nat → Stp → Ld × Bool) (n : Nat) : Prop := ∀ (mods : List Md) (table : List Nat) (log : List Ev) (full : Bool) (i : Nat) (t : Stp) (zm : List Md) (zt : List Nat) (zl : List Ev) (zf zk : Bool), Inv us ⟨mods, table, log, full⟩ → RunB ⟨mods, table, log, full⟩ n → i < mods.length → (∃ u ∈ us, t ∈ u.steps) → left ⟨mods, table, log, full⟩ ≤ n → St ⟨mods, table, log, full⟩ i t = (⟨zm, zt, zl, zf⟩, zk) → CallsA Tryd.prog 49 [ldP, mdP i, .a [.u (.int .i64 t.kind), .u (.str t.name), .u (.str t.part)]] (ldOb us mods table log full) (Iso (db zk) (ldOb us zm zt zl zf))
def RunC (us : List Un) (R : Ld → Nat → Ld × Bool) (n : Nat) : Prop := ∀ (mods : List Md) (table : List Nat) (log : List Ev) (full : Bool) (i : Nat) (zm : List Md) (zt : List Nat) (zl : List Ev) (zf zk : Bool) (r1 r2 : List (List E)), Inv us ⟨mods, table, log, full⟩ → RunB ⟨mods, table, log, full⟩ n → i < mods.length → left ⟨mods, table, log, full⟩ ≤ n → R ⟨mods, table, log, full⟩ i = (⟨zm, zt, zl, zf⟩, zk) → r1 = [ldRow us table log full] → r2 = mods.map Md.row → CallsA Tryd.prog 40 [ldP, mdP i] [(1, .fm 63 r1), (2, .fm 82 r2)] (Iso (db zk) (ldOb us zm zt zl zf))
theorem note_T' (us : List Un) (mods : List Md) (table : List Nat) (log : List Ev) (full : Bool) (k : Int) (n : ByteArray) (hl : log.length ≤ 5000) (r1 r2 : List (List E)) (e1 : r1 = [ldRow us table log full]) (e2 : r2 = mods.map Md.row) : CallsA Tryd.prog 48 [ldP, di k, dsr n] [(1, .fm 63 r1), (2, .fm 82 r2)] (Iso (.t []) (ldOb us mods table (noteLog log full k n) (noteFull log full))) := by
  subst e1 e2
  exact note_T us mods table log full k n hl
theorem eqC_sd (a b : ByteArray) : eqCs [V.str a] [V.str b] = decide (a = b) := by rw [eqCs_one]; rfl
theorem uents_get (n : ByteArray) (z : List V) : ∀ us : List Un, (hasU us n = true → mgetT (uents us) [.str n] z = [.str n, .sl 3 ((unitS us n).map Stp.row)]) ∧ mhasT (uents us) [.str n] = hasU us n
  | [] => ⟨fun h => (by cases h), rfl⟩
  | u :: r => by
    obtain ⟨h1, h2⟩ := uents_get n z r
    simp only [uents, List.map_cons, mgetT, mhasT, eqC_sd, hasU, unitS] at *
    by_cases h : n = u.name
    · subst h; simp [Un.row]
    · simp only [h, decide_false, cond_false, if_false]
      exact ⟨h1, h2⟩
theorem uents_ok (us : List Un) : ∀ e ∈ uents us, keyT .sr e.1 = true := by
  intro e he
  obtain ⟨u, _, rfl⟩ := List.mem_map.1 he
  rfl
theorem stepsW_next {St : Ld → Nat → Stp → Ld × Bool} {i : Nat} {s : Ld} {l : List Stp} {q : Nat} (h : q < l.length) : stepsW St i s (l.drop q) = if s.full = true then (s, false) else if (St s i l[q]).2 = true then stepsW St i (St s i l[q]).1 (l.drop (q + 1)) else ((St s i l[q]).1, false) := by
  rw [List.drop_eq_getElem_cons h, stepsW]
theorem upd_at {mods : List Md} {i : Nat} {m : Md} {f : Md → Md} (h : mods[i]? = some m) : updM mods i f = mods.set i (f m) := by unfold updM; rw [h]
end Go.Proofs.YtgloielnnakknaaDoor
namespace Go.Proofs.YtgloielnnakknaaDoor
open Go.RowKit
theorem get_set {mods : List Md} {i : Nat} {m m' : Md} (h : mods[i]? = some m) : (mods.set i m')[i]? = some m' := by
  rw [List.getElem?_set]; simp [lt_get h]
theorem Rw_set {l : List Md} {n : Nat} {m : Md} {row : List E} {K : List E → Prop} (h : l[n]? = some m) (k : K row) : Rw ((l.map Md.row).set n row) n K := ⟨row, by rw [List.getElem?_set]; simp [lt_get h], k⟩
theorem end_eq {m3 : List Md} {t3 : List Nat} {l3 : List Ev} {f3 ok : Bool} {i : Nat} {mn : ByteArray} {mr : Int} {ma3 : List At} (h : m3[i]? = some ⟨mn, mr + 1, ma3⟩) : endS ⟨m3, t3, l3, f3⟩ i ok = ⟨m3.set i ⟨mn, mr, ma3⟩, t3, noteLog l3 f3 (if ok = true then 2 else 3) mn, noteFull l3 f3⟩ := by
  have hn : nameS ⟨m3, t3, l3, f3⟩ i = mn := by simp [nameS, nmOf, h]
  have e : mr + 1 + -1 = mr := by omega
  simp only [endS, hn, runS, updS, upd_at h, noteS, e]
set_option maxHeartbeats 4000000 in
theorem run_C {us : List Un} (hU : Uok us) {St : Ld → Nat → Stp → Ld × Bool} (hP : SP us St) (n n' : Nat) (hn : n ≤ 6000) (hnn : n' ≤ 6000) (hC : ∀ s, left s < n → SteC us St n') (hn' : n' + 1 = n ∨ n = 0) : RunC us (runW St us) n := by
  intro mods table log full i rm rt rl rf rk r1 r2 hI hB hi hL hr e1 e2
  subst e1 e2
  obtain ⟨⟨mn, mr, ma⟩, hmd⟩ : ∃ m, mods[i]? = some m := ⟨_, List.getElem?_eq_getElem hi⟩
  have hmem := List.mem_of_getElem? hmd
  have hlog := hI.log
  have hrun := hB _ hmem
  have hhas := hI.nm _ hmem
  dsimp only at hlog hrun hhas
  have hnS : nameS ⟨mods, table, log, full⟩ i = mn := by simp [nameS, nmOf, hmd]
  have hpos : runW St us ⟨mods, table, log, full⟩ i = (⟨rm, rt, rl, rf⟩, rk) := hr
  have hbeg : beginS ⟨mods, table, log, full⟩ i = ⟨mods.set i ⟨mn, mr + 1, ma⟩, table, noteLog log full 1 mn, noteFull log full⟩ := by
    simp only [beginS, hnS, noteS, runS, updS, upd_at hmd]
  rw [runW, hnS, hbeg] at hpos
  have hI1 : Inv us ⟨mods.set i ⟨mn, mr + 1, ma⟩, table, noteLog log full 1 mn, noteFull log full⟩ := by
    rw [← hbeg]; exact (hI.note 1 _).run i 1
  have hl1 : left ⟨mods.set i ⟨mn, mr + 1, ma⟩, table, noteLog log full 1 mn, noteFull log full⟩ = left ⟨mods, table, log, full⟩ - 1 := left_note ⟨mods, table, log, full⟩ 1 mn hlog
  have hB1 : n = 0 ∨ RunB ⟨mods.set i ⟨mn, mr + 1, ma⟩, table, noteLog log full 1 mn, noteFull log full⟩ n' := by
    rcases hn' with hn' | hn'
    · right
      intro m hm'
      rcases List.mem_or_eq_of_mem_set hm' with h | rfl
      · have := hB m h; omega
      · dsimp only; omega
    · exact .inl hn'
  have hnote := note_T us mods table log full 1 mn hlog
  have hi1 : i < (mods.set i ⟨mn, mr + 1, ma⟩).length := by simpa using hi
  have hk1 : (mods.set i ⟨mn, mr + 1, ma⟩)[i]? = some ⟨mn, mr + 1, ma⟩ := get_set hmd
  generalize hlg : noteLog log full 1 mn = log1 at *
  generalize hfl : noteFull log full = full1 at *
  have hent := (uents_get mn [.str ⟨#[]⟩, .nl] us).1 hhas
  have hhs := (uents_get mn [.str ⟨#[]⟩, .nl] us).2
  have huok := uents_ok us
  have hsteps : ∀ t ∈ unitS us mn, ∃ u ∈ us, t ∈ u.steps := fun t ht => unitS_mem ht
  have hlen : (unitS us mn).length ≤ 1000000 := by
    obtain ⟨u, hu, he⟩ := hasU_mem hhas
    have : ∀ us : List Un, (∀ u ∈ us, u.steps.length ≤ 30) → (unitS us mn).length ≤ 30 := by
      intro us
      induction us with
      | nil => intro _; simp [unitS]
      | cons a r ih =>
        intro h
        simp only [unitS]
        split
        · exact h a (by simp)
        · exact ih fun u hu => h u (by simp [hu])
    have := this us hU.steps
    omega
  generalize hst : unitS us mn = steps at *
  refine callsA_of_vcO (T := tt) Tryd.func40 rfl rfl rfl rfl rfl ?_
  repeat' ((conv => whnf); first | refine Rw_md hmd ?_ | refine Rw_set hmd ?_ | refine Mlk.of _ _ (by kernel_rfl) huok hent hhs ?_ | refine Gs.id ?_ | (refine Bnd.mk (fun hm => ?_); (try simp only [smT] at hm)) | refine Rng.mk (by (try simp only [smT]); omega) ?_ | refine Rw.lit rfl ?_ | refine Drw.of (T := tt) (i := 4) [] [] [(0, true), (1, true), (2, true), (3, true), (4, true), (5, true), (6, true), (7, true), (8, true), (9, true), (10, true), (11, true)] (by kernel_rfl) ?_ | (refine CL.mk (Or.inr (Raw.callI [1,2] [1,2] rfl rfl rfl rfl rfl rfl rfl (hnote) ?_)); rintro _ _ ⟨rfl, rfl⟩; refine Bk.mk rfl rfl ?_))
  all_goals (conv => whnf)
  generalize hm1 : mods.set i ⟨mn, mr + 1, ma⟩ = mods1 at *
  have hsv : List.map Md.row mods1 = (mods.map Md.row).set i [.v (.str mn), .v (.int .i64 (mr + 1)), .os 84 2 (ma.map At.v)] := by rw [← hm1]; simp [List.map_set, Md.row]
  refine ⟨⟨Ld × Nat, fun x => x.2 ≤ steps.length ∧ stepsW St i ⟨mods1, table, log1, full1⟩ steps = stepsW St i x.1 (steps.drop x.2) ∧ Inv us x.1 ∧ Keep ⟨mods1, table, log1, full1⟩ x.1, fun x => steps.length - x.2, fun x => ⟨[(0, ldP), (1, mdP i), (5, db true), (30, .d (.u (.sl 3 (steps.map Stp.row)))), (31, di steps.length), (32, di x.2)], ldOb us x.1.mods x.1.table x.1.log x.1.full⟩, (⟨mods1, table, log1, full1⟩, 0), ⟨Nat.zero_le _, rfl, hI1, .refl _⟩, ⟨[(1, .k 1), (2, .k 2)], ⟨by (try dsimp only); (repeat (refine LeT.cons rfl (by first | exact LeS.d (by first | exact LeD.u rfl | exact LeD.u (by simp [hsv]; done) | fail) | fail) ?_)); exact LeT.nil, by (try dsimp only); repeat (first | exact LeO.nil | refine LeO.fm rfl (by first | rfl | simp [hsv]) ?_ | fail)⟩⟩, fun x hx => ?_⟩⟩
  obtain ⟨⟨m3, t3, l3, f3⟩, q⟩ := x
  obtain ⟨hq, he, hI3, hK3⟩ := hx
  dsimp only at hq he hI3 hK3 ⊢
  have hget : ∀ s, Keep ⟨mods1, table, log1, full1⟩ s → ∃ ma3, s.mods[i]? = some ⟨mn, mr + 1, ma3⟩ := fun s k => by
    obtain ⟨⟨a, b, c⟩, q1, q2, q3⟩ := k.get i _ hk1
    dsimp only at q2 q3
    subst q2 q3
    exact ⟨c, q1⟩
  have hB3 : n = 0 ∨ RunB ⟨m3, t3, l3, f3⟩ n' := hB1.imp id fun h => hK3.runB h (by omega)
  have hL3 := hK3.lf
  rw [hl1] at hL3
  have hi3 : i < m3.length := Nat.lt_of_lt_of_le hi1 hK3.len
  clear hnote hsv hent hhs huok
  by_cases h9 : q < steps.length
  · rw [stepsW_next h9] at he
    obtain ⟨⟨tk, tn, tp⟩, htq⟩ : ∃ t, steps[q] = t := ⟨_, rfl⟩
    have hrow : ∀ {K : List V → Prop}, K (Stp.row ⟨tk, tn, tp⟩) → Ix (steps.map Stp.row) (q : Int) K := fun k => Ix.map rfl h9 (by rw [htq]; exact k)
    have htm := hsteps _ (List.getElem_mem h9)
    rw [htq] at he htm
    obtain ⟨ma3, hm3⟩ := hget _ hK3
    dsimp only at hm3
    cases f3
    · rw [if_neg (by simp)] at he
      have hne : left ⟨m3, t3, l3, false⟩ ≠ 0 := by
        have h5 : l3.length ≤ 5000 := hI3.log
        simp only [left]; simp; omega
      have hn0 : n ≠ 0 := by omega
      have hlt : left ⟨m3, t3, l3, false⟩ < n := by omega
      have hgo := hP ⟨m3, t3, l3, false⟩ i ⟨tk, tn, tp⟩ hI3 hi3 htm
      generalize hz : St ⟨m3, t3, l3, false⟩ i ⟨tk, tn, tp⟩ = z at he hgo
      obtain ⟨⟨zm, zt, zl, zf⟩, zk⟩ := z
      have hcon := hC _ hlt m3 t3 l3 false i ⟨tk, tn, tp⟩ zm zt zl zf zk hI3 (hB3.resolve_left hn0) hi3 htm (by omega) hz
      have hKz := hK3.trans hgo.keep
      obtain ⟨maz, hmz⟩ := hget _ hKz
      dsimp only at hmz hcon he
      cases zk
      · rw [if_neg (by simp)] at he
        rw [he] at hpos
        injection hpos with p1 p2
        rw [end_eq hmz] at p1
        injection p1 with p3 p4 p5 p6
        subst p2 p3 p4 p5 p6
        have hnz := note_T' us (zm.set i ⟨mn, mr, maz⟩) zt zl zf 3 mn hgo.inv.log
        repeat' ((conv => whnf); first | refine hrow ?_ | refine Rw_md hmz ?_ | refine Rw_set hmz ?_ | refine Gs.id ?_ | with_reducible refine Brn.T rfl ?_ | with_reducible refine Brn.F rfl ?_ | refine Brn.T (by (try simp only [smT]); first | rfl | omega | fail) ?_ | refine Rng.mk (by (try simp only [smT]); omega) ?_ | refine Rw.lit rfl ?_ | (refine CL.mk (Or.inr (Raw.callI [1,2] [1,2] rfl rfl rfl rfl rfl rfl rfl (hcon) ?_)); rintro _ _ ⟨rfl, rfl⟩; refine Bk.mk rfl rfl ?_) | (refine CL.mk (Or.inr (Raw.callI [1,2] [1,2] rfl rfl rfl rfl rfl rfl rfl (hnz _ _ (by simp) (by simp [List.map_set, Md.row])) ?_)); rintro _ _ ⟨rfl, rfl⟩; refine Bk.mk rfl rfl ?_))
        all_goals (conv => whnf)
        all_goals exact RetO.mk ⟨[], _, _, (by first | exact LeS.d (by first | exact LeD.u rfl | fail) | fail), LeO.fm rfl rfl (LeO.fm rfl rfl .nil), rfl, rfl⟩
      · rw [if_pos rfl] at he
        repeat' ((conv => whnf); first | refine hrow ?_ | refine Gs.id ?_ | with_reducible refine Brn.T rfl ?_ | with_reducible refine Brn.F rfl ?_ | refine Brn.T (by (try simp only [smT]); first | rfl | omega | fail) ?_ | refine Rng.mk (by (try simp only [smT]); omega) ?_ | refine Rw.lit rfl ?_ | (refine CL.mk (Or.inr (Raw.callI [1,2] [1,2] rfl rfl rfl rfl rfl rfl rfl (hcon) ?_)); rintro _ _ ⟨rfl, rfl⟩; refine Bk.mk rfl rfl ?_))
        all_goals (conv => whnf)
        all_goals exact ⟨(⟨zm, zt, zl, zf⟩, q + 1), ⟨by dsimp only; omega, he, hgo.inv, hKz⟩, by dsimp only; omega, [(1, .k 1), (2, .k 2)], ⟨by (try dsimp only); (repeat (refine LeT.cons rfl (by first | exact LeS.d (by first | exact LeD.u rfl | fail) | fail) ?_)); exact LeT.nil, by (try dsimp only); repeat (first | exact LeO.nil | refine LeO.fm rfl (by first | rfl | fail) ?_ | fail)⟩⟩
    · rw [if_pos rfl] at he
      rw [he] at hpos
      injection hpos with p1 p2
      rw [end_eq hm3] at p1
      injection p1 with p3 p4 p5 p6
      subst p2 p3 p4 p5 p6
      have hnz := note_T' us (m3.set i ⟨mn, mr, ma3⟩) t3 l3 true 3 mn hI3.log
      repeat' ((conv => whnf); first | refine hrow ?_ | refine Rw_md hm3 ?_ | refine Rw_set hm3 ?_ | refine Gs.id ?_ | with_reducible refine Brn.T rfl ?_ | with_reducible refine Brn.F rfl ?_ | refine Brn.T (by (try simp only [smT]); first | rfl | omega | fail) ?_ | refine Rng.mk (by (try simp only [smT]); omega) ?_ | refine Rw.lit rfl ?_ | (refine CL.mk (Or.inr (Raw.callI [1,2] [1,2] rfl rfl rfl rfl rfl rfl rfl (hnz _ _ (by simp) (by simp [List.map_set, Md.row])) ?_)); rintro _ _ ⟨rfl, rfl⟩; refine Bk.mk rfl rfl ?_))
      all_goals (conv => whnf)
      all_goals exact RetO.mk ⟨[], _, _, (by first | exact LeS.d (by first | exact LeD.u rfl | fail) | fail), LeO.fm rfl rfl (LeO.fm rfl rfl .nil), rfl, rfl⟩
  · obtain rfl : q = steps.length := by omega
    rw [List.drop_length, stepsW] at he
    obtain ⟨ma3, hm3⟩ := hget _ hK3
    dsimp only at hm3
    rw [he] at hpos
    injection hpos with p1 p2
    rw [end_eq hm3] at p1
    injection p1 with p3 p4 p5 p6
    subst p2 p3 p4 p5 p6
    have hnz := note_T' us (m3.set i ⟨mn, mr, ma3⟩) t3 l3 f3 2 mn hI3.log
    repeat' ((conv => whnf); first | refine Rw_md hm3 ?_ | refine Rw_set hm3 ?_ | refine Gs.id ?_ | with_reducible refine Brn.T rfl ?_ | refine Brn.F (by (try simp only [smT]); first | rfl | omega | fail) ?_ | refine Rng.mk (by (try simp only [smT]); omega) ?_ | (refine CL.mk (Or.inr (Raw.callI [1,2] [1,2] rfl rfl rfl rfl rfl rfl rfl (hnz _ _ (by simp) (by simp [List.map_set, Md.row])) ?_)); rintro _ _ ⟨rfl, rfl⟩; refine Bk.mk rfl rfl ?_))
    all_goals (conv => whnf)
    all_goals exact RetO.mk ⟨[], _, _, (by first | exact LeS.d (by first | exact LeD.u rfl | fail) | fail), LeO.fm rfl rfl (LeO.fm rfl rfl .nil), rfl, rfl⟩
end Go.Proofs.YtgloielnnakknaaDoor
