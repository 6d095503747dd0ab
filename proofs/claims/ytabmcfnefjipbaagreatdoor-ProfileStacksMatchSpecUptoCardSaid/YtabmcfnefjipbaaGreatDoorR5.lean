/-
  Part 5 of the proofs of stacks_holds: laws and contracts that they need.
-/
import Derived.Test.YtabmcfnefjipbaaGreatDoorR4
import Derived.Lib.AppendZeros
import Derived.Test.YtabmcfnefjipbaaGreatDoorRows
import Derived.Lib.ConvBytes
import Derived.Laws.Externs
import Derived.Lib.Bytealg
set_option linter.unusedVariables false
set_option linter.unusedSimpArgs false
namespace Go.Proofs.YtabmcfnefjipbaaGreatDoor
open Go.RowKit
section
variable {P : Program} {T : List (Nat × Ty)} {nt : Nt} {Q : Exit → Act → World → Prop} {c : Cx} {st : St} {tm : List (Nat × Value)} {h : Hs} {ρ : Rho} {G : FG} {ty : TypeId} {pos : String} {af : Array Edge} {gd : Option (Nat × Bool)} {K : Kt}
def putD (d : Option Tmp) (v : Value) (tm : List (Nat × Value)) : List (Nat × Value) := match d with
  | some d => (d, v) :: tm
  | none => tm
/-- A call of a function value. -/
theorem OpS.callV {d : Option Tmp} {x : Operand} {f : FuncId} {fn : Func} {cd : Code} {xs : List Operand} {ts : Array TypeId} {vs us : List Value} {K : List (Nat × Value) → Hs → Prop} (M : Value → Hs → Prop) (hx0 : ev tm x = some (.func (.func f) #[] us.toArray)) (hf : P.funcs[f]? = some fn) (hb : fn.body = some cd) (hnm : (fn.name == "runtime.NumGoroutine") = false) (hx : ArgsL tm xs vs)
    (hd : (match d with | some d => Nat.blt d nt | none => true) = true)
    (hC : ∀ w, Hp h w → Calls P f (vs ++ us).toArray w fun e w' => ∃ v h', e = .returned v ∧ Hp h' w' ∧ M v h') (k : ∀ v h', M v h' → K (putD d v tm) h') : OpS P nt Q ⟨d, .call ⟨.value x, xs.toArray, ts⟩, ty, pos, af, gd⟩ tm h K :=
  ⟨fun a w ha hw => by
    have hargs : xs.toArray.map a.eval = vs.toArray := by rw [List.map_toArray, hx.eq ha]
    have hrun : (execOp a.eval ⟨d, .call ⟨.value x, xs.toArray, ts⟩, ty, pos, af, gd⟩).run P w = .ok (.enter f (vs ++ us).toArray) w := by
      have hnm' : ¬ fn.name = "runtime.NumGoroutine" := by simpa using hnm
      simp only [execOp, resolve, Sem.run_bind, hargs, Deferred.ofValue, ha.ev hx0, invoke, callFunc]
      simp [hf, hb, hnm']
    unfold Oper.wp
    rw [hrun]
    refine (hC w hw).mono ?_
    rintro e w' ⟨v, h', rfl, h1, h2⟩
    cases d with
    | some d => exact ⟨_, h', ha.put (by simpa using hd) v, h1, k v h' h2⟩
    | none => exact ⟨_, h', ha, h1, k v h' h2⟩⟩
/-- A function value: the function, what it holds. -/
def fnT : Option SV → Option (FuncId × List SV)
  | some (.d (.fn f ks)) => some (f, ks.map fun k => SV.d (.p k 0))
  | some (.d (.u (.fn f))) => some (f, [])
  | some (.d (.u (.cl f cs))) => some (f, cs.map fun c => SV.d (.q c 0))
  | _ => none
theorem fnT_ev (g : Gd c st tm h ρ G) {x : Operand} {f : FuncId} {ks : List SV} (hx : fnT (evT st.tm x) = some (f, ks)) : ∃ us : List Value, ev tm x = some (.func (.func f) #[] us.toArray) ∧ us.length = ks.length ∧ ∀ (j : Nat) s v, ks[j]? = some s → us[j]? = some v → DenS ρ ⟨G, h.w0⟩ s v := by
  unfold fnT at hx
  split at hx
  · rename_i f' ks' e
    injection hx with hx
    injection hx with e1 e2
    subst e1 e2
    obtain ⟨v, hv, hs⟩ := g.ev e
    cases hs with | d hs => cases hs with | fn us hl hd =>
    refine ⟨us, hv, by simp [hl], fun j s v h1 h2 => ?_⟩
    rw [List.getElem?_map] at h1
    cases hj : ks'[j]? with
    | none => rw [hj] at h1; cases h1
    | some k =>
      rw [hj] at h1
      simp only [Option.map_some, Option.some.injEq] at h1
      subst h1
      obtain ⟨b, cc, sz, q1, rfl⟩ := hd j k v hj h2
      exact .d (.p q1)
  · rename_i f' e
    injection hx with hx
    injection hx with e1 e2
    subst e1 e2
    obtain ⟨v, hv, hs⟩ := g.ev e
    cases hs with | d hs => cases hs with | u hs => cases hs with | fn =>
    exact ⟨[], hv, rfl, fun j s v h1 h2 => by simp at h2⟩
  · rename_i f' cs e
    injection hx with hx
    injection hx with e1 e2
    subst e1 e2
    obtain ⟨v, hv, hs⟩ := g.ev e
    cases hs with | d hs => cases hs with | u hs =>
    obtain ⟨us, rfl, q2, q3⟩ := DenV.cl_inv (ρ := ρ) hs
    refine ⟨us, hv, by simp [q2], fun j s v h1 h2 => ?_⟩
    rw [List.getElem?_map] at h1
    cases hj : cs[j]? with
    | none => rw [hj] at h1; cases h1
    | some k =>
      rw [hj] at h1
      simp only [Option.map_some, Option.some.injEq] at h1
      subst h1
      exact .d (q3 j k v hj h2)
  · cases hx
/-- A call of a function value that lends the objects ps; ns: the names that it may give anew. -/
theorem Raw.callF {x : Operand} {f : FuncId} {ks : List SV} {xs : Array Operand} {ts : Array TypeId} {d : Option Tmp} {tmT tmK : List (Nat × SV)} {ob obP obF : List (Nat × Ob)} (ps ns : List Nat) {ss : List SV} {QS : SV → List (Nat × Ob) → Prop} (hf : fnT (evT tmT x) = some (f, ks)) (hT : keepTm (fun k => !inN ns k) [] tmT = tmK) (hO : (splitOb ps ob).1 = obP) (hO' : cleanOb (fun k => !inN ns k) (splitOb ps ob).2 = obF) (hx : evLT tmT xs.toList = some ss)
    (h2 : okO (fun k => !inN ns k) obF = true) (h3 : okO (inN ns) obP = true) (hd : (match d with | some d => Nat.blt d nt | none => true) = true) (hc : CallsA P f (ss ++ ks) obP QS) (k : ∀ s ob', QS s ob' → Bk d ns tmK obF K s ob') : Raw P nt ⟨d, .call ⟨.value x, xs, ts⟩, ty, pos, af, gd⟩ tmT ob K := ⟨fun Q c tm h ρ G g => by
  obtain ⟨F, w0, hp⟩ := h
  obtain ⟨ha, hb, o1, o2, o3⟩ := splitOb_ok (ps := ps) g.ob
  rw [hO] at o1
  replace o2 := cleanOb_ok (p := fun k => !inN ns k) o2
  rw [hO'] at o2
  have g2 : Gd c ⟨tmT, obP ++ obF⟩ tm ⟨F, w0, ha ++ hb⟩ ρ G := ⟨g.fF, g.fw, g.gF, g.gx, g.fm, g.tm, o1.append o2⟩
  have hh : ∀ w, Hp ⟨F, w0, hp⟩ w → Hp ⟨F, w0, ha ++ hb⟩ w := fun w hw => hw.perm o3
  subst hT
  obtain ⟨us, u1, u2, u3⟩ := fnT_ev g2 hf
  obtain ⟨vs, a1, a2, a3⟩ := evLT_ev g2 hx
  have hlen : (vs ++ us).length = (ss ++ ks).length := by simp [a2, u2]
  have hden : ∀ (j : Nat) s v, (ss ++ ks)[j]? = some s → (vs ++ us)[j]? = some v → DenS ρ ⟨G, w0⟩ s v := by
    intro j s v h1 h2
    by_cases hj : j < ss.length
    · rw [List.getElem?_append_left hj] at h1
      rw [List.getElem?_append_left (by rw [a2]; exact hj)] at h2
      exact a3 j s v h1 h2
    · rw [List.getElem?_append_right (by omega)] at h1
      rw [List.getElem?_append_right (by rw [a2]; omega), a2] at h2
      exact u3 _ s v h1 h2
  have hcall := callO_vals (tmK := keepTm (fun k => !inN ns k) [] tmT) g2 hlen hden (fun k s h => (keepTm_get h).2) keepTm_ok h2 h3 hc
  obtain ⟨fn, cd, f1, f2, f3⟩ := hc.fn
  have hxs : xs = xs.toList.toArray := by simp
  rw [hxs]
  refine OpS.callV (P := P) (nt := nt) (Q := Q) (fun v h2 => Kd c K (putD d v tm) h2) u1 f1 f2 f3 a1 hd (fun w hw => (hcall w (hh w hw)).mono ?_) fun _ _ hk => hk
  rintro e w' ⟨v, h3, s, ob', ρ', G', rfl, hw3, hq, hg, _⟩
  obtain ⟨b1, b2, b3⟩ := k s ob' hq
  obtain ⟨q1, q2⟩ := hg b1 b2
  cases d with
  | some d => exact ⟨v, h3, rfl, hw3, .of (q2.put q1) b3⟩
  | none => exact ⟨v, h3, rfl, hw3, .of q2 b3⟩⟩
theorem Gd.slot {st : St} (g : Gd c st tm h ρ G) {t : Nat} {s : SV} {v : Value} (hv : lk t tm = some v) (hs : DenS ρ ⟨G, h.w0⟩ s v) : Gd c ⟨(t, s) :: st.tm, st.ob⟩ tm h ρ G :=
  ⟨g.fF, g.fw, g.gF, g.gx, g.fm, fun k u hk => by
    simp only [lk] at hk
    cases hb : Nat.beq k t
    · rw [hb] at hk; exact g.tm k u hk
    · rw [hb] at hk
      simp only [cond_true, Option.some.injEq] at hk
      subst hk
      rw [Nat.eq_of_beq_eq_true hb]
      exact ⟨v, hv, hs⟩, g.ob⟩
/-- An array that a cell of a member owns moves out and is an own array from here on. -/
theorem Gd.take {tmT : List (Nat × SV)} {ob : List (Nat × Ob)} {F : Nat → Prop} {w0 : World} {hp : List (Nat × Hb)} (g : Gd c ⟨tmT, ob⟩ tm ⟨F, w0, hp⟩ ρ G) {K0 t k0 m o sz n u e : Nat} {rs : List (List E)} {row : List E} {rr : List (List V)} (hx : lk t tmT = some (.d (D.r k0 m o sz n))) (hkf : lk k0 ob = some (.fm u rs)) (h1 : famOne k0 ob = true) (hrow : rs[m]? = some row) (ho : nth row o = some (.os e sz rr)) (hn : rr.length = n)
    (hnew : newN K0 (dropT k0 tmT) (dropO k0 (obu k0 (.fm u (rs.set m (row.set o .hl))) ob)) = true) :
    ∃ hq ρ', hp.Perm hq ∧ Gd c ⟨(t, .d (.ow K0 n)) :: dropT k0 tmT, (K0, .ar e sz rr) :: dropO k0 (obu k0 (.fm u (rs.set m (row.set o .hl))) ob)⟩ tm ⟨F, w0, hq⟩ ρ' G := by
  rw [nth_eq] at ho
  obtain ⟨vx, q1, q2⟩ := g.tm t _ hx
  have hmem : ∃ b, (G.fam k0)[m]? = some b := by
    obtain ⟨Y, f, ⟨a1, _⟩, _⟩ := g.ob.at_ hkf
    obtain ⟨b, _, _, _, a2, _⟩ := a1.split hrow
    exact ⟨b, a2⟩
  obtain ⟨b0, hb0⟩ := hmem
  cases q2 with | d q2 => cases q2 with | @r _ _ _ _ _ cc A x0 xA xc xm =>
  obtain ⟨b, us, Xe, rest, _, hlt, hone, ⟨u0, hu0, A', cc', us1, rfl, rfl, t3, t4, t5, t6⟩, p1, _, p3⟩ := g.famPut (e' := .hl) (v := .slice A n cc) (p := .pointer (some ⟨b0, o, none⟩)) hkf h1 (.m hb0) hrow ho
  rw [x0] at t3
  injection t3 with t3
  injection t3 with e1 e2 _
  subst e1 e2
  obtain ⟨hq, z1, z2⟩ := p3 (some ⟨A, cc, sz⟩) [] ⟨rfl, rfl⟩
  have hset : us.set o (.slice A n cc) = us := by
    rw [hn] at hu0
    apply List.ext_getElem?
    intro jj
    rw [List.getElem?_set]
    split
    · rename_i ej; subst ej
      first | (rw [if_pos hlt, hu0]; done) | exact hu0.symm | (simp only [hlt, if_true]; exact hu0.symm)
    · rfl
  rw [hset] at z1
  have pp : hp.Perm (hbA A e us1 cc sz ++ ((b, ⟨u, us, us.length⟩) :: rest)) := p1.trans List.perm_middle.symm
  have hob : ObOk (upd (updOs ρ k0 m o (some ⟨A, cc, sz⟩)) K0 ⟨A, cc, sz⟩) ⟨G, w0⟩ K0 (.ar e sz rr) (hbA A e us1 cc sz) := ⟨A, cc, us1, rfl, upd_self, t4, t5, t6⟩
  have g1 := (z2.new (st := ⟨dropT k0 tmT, _⟩) hnew hob).slot (t := t) (s := .d (.ow K0 n)) q1 (.d (.ow (l := ⟨A, cc, sz⟩) upd_self (fun hA0 => by
    rcases xA with ⟨_, e0⟩ | ⟨b, e0⟩
    · exact e0
    · dsimp only at hA0; rw [e0] at hA0; cases hA0) xc))
  exact ⟨_, _, pp.trans (z1.append_left _).symm, g1⟩
theorem Ghost.take {tmT : List (Nat × SV)} {ob : List (Nat × Ob)} (K0 t : Nat) {k0 m o sz n u e : Nat} {rs : List (List E)} {row : List E} {rr : List (List V)} (hx : lk t tmT = some (.d (D.r k0 m o sz n))) (hkf : lk k0 ob = some (.fm u rs)) (h1 : famOne k0 ob = true) (hrow : rs[m]? = some row) (ho : nth row o = some (.os e sz rr)) (hn : rr.length = n)
    (hnew : newN K0 (dropT k0 tmT) (dropO k0 (obu k0 (.fm u (rs.set m (row.set o .hl))) ob)) = true) : Ghost tmT ob ((t, .d (.ow K0 n)) :: dropT k0 tmT) ((K0, .ar e sz rr) :: dropO k0 (obu k0 (.fm u (rs.set m (row.set o .hl))) ob)) := ⟨fun c tm h ρ G w g hw => by
  obtain ⟨F, w0, hp⟩ := h
  obtain ⟨hq, ρ', q1, q2⟩ := g.take hx hkf h1 hrow ho hn hnew
  exact ⟨_, ρ', G, q2, hw.perm q1⟩⟩
/-- The same, ahead of an operation. -/
theorem Raw.take {op : Oper} {tmT : List (Nat × SV)} {ob : List (Nat × Ob)} (K0 t : Nat) {k0 m o sz n u e : Nat} {rs : List (List E)} {row : List E} {rr : List (List V)} (hx : lk t tmT = some (.d (D.r k0 m o sz n))) (hkf : lk k0 ob = some (.fm u rs)) (h1 : famOne k0 ob = true) (hrow : rs[m]? = some row) (ho : nth row o = some (.os e sz rr)) (hn : rr.length = n)
    (hnew : newN K0 (dropT k0 tmT) (dropO k0 (obu k0 (.fm u (rs.set m (row.set o .hl))) ob)) = true) (k : Raw P nt op ((t, .d (.ow K0 n)) :: dropT k0 tmT) ((K0, .ar e sz rr) :: dropO k0 (obu k0 (.fm u (rs.set m (row.set o .hl))) ob)) K) : Raw P nt op tmT ob K := ⟨fun Q c tm h ρ G g => by
  obtain ⟨F, w0, hp⟩ := h
  obtain ⟨hq, ρ', q1, q2⟩ := g.take hx hkf h1 hrow ho hn hnew
  exact OpS.wk (fun w hw => hw.perm q1) (k.out Q c tm _ ρ' G q2)⟩
end
/-- A box that is written no more is seen as frozen cells. -/
def qD (k : Nat) (ys : List V) : D → D
  | .p j o => bif Nat.beq j k then .q ys o else .p j o
  | d => d
def qL (f : D → D) : List D → List D
  | [] => []
  | x :: r => f x :: qL f r
def qC (f : D → D) : List SC → List SC
  | [] => []
  | .d x :: r => .d (f x) :: qC f r
  | .a xs :: r => .a (qL f xs) :: qC f r
def qS (f : D → D) : SV → SV
  | .d x => .d (f x)
  | .a xs => .a (qL f xs)
  | .t vs => .t (qC f vs)
def qTm (f : D → D) : List (Nat × SV) → List (Nat × SV)
  | [] => []
  | (j, s) :: r => (j, qS f s) :: qTm f r
def qOb (f : D → D) : List (Nat × Ob) → List (Nat × Ob)
  | [] => []
  | (j, .bx t cs) :: r => (j, .bx t (qL f cs)) :: qOb f r
  | (j, .ar t m ss) :: r => (j, .ar t m ss) :: qOb f r
  | (j, .fm t ss) :: r => (j, .fm t ss) :: qOb f r
  | (j, .mp a b es) :: r => (j, .mp a b es) :: qOb f r
  | (j, .fa t m ss) :: r => (j, .fa t m ss) :: qOb f r
  | (j, .ab cs us zb φ) :: r => (j, .ab (qL f cs) us zb φ) :: qOb f r
section
variable {ρ : Rho} {z : Fz} {k : Nat} {ys : List V} {f : D → D}
theorem qD_den (fz : ∀ o v, Den ρ z (.p k o) v → Den ρ z (.q ys o) v) {d : D} {v : Value} (h : Den ρ z d v) : Den ρ z (qD k ys d) v := by
  cases d <;> simp only [qD] <;> first | exact h | skip
  rename_i j o
  cases hb : Nat.beq j k <;> simp only [cond_false, cond_true]
  · exact h
  · have := Nat.eq_of_beq_eq_true hb
    subst this
    exact fz o v h
theorem qL_den (fz : ∀ d v, Den ρ z d v → Den ρ z (f d) v) : ∀ {ds : List D} {us : List Value}, DenL ρ z ds us → DenL ρ z (qL f ds) us
  | [], us, h => h
  | d :: r, us, h => by
    have hl := h.len
    cases us with
    | nil => simp at hl
    | cons x us => exact (qL_den fz (ds := r) (us := us) ⟨by simpa using hl, by have := h.one; simp at this; simpa using this.2, fun j d v e1 e2 => h.den (j + 1) d v (by simpa using e1) (by simpa using e2)⟩).cons (fz _ _ (h.den 0 d x rfl rfl))
theorem qL_len : ∀ {ds : List D}, (qL f ds).length = ds.length
  | [] => rfl
  | _ :: r => by simp [qL, qL_len (ds := r)]
theorem qC_get : ∀ {ss : List SC} {j : Nat} {s' : SC}, (qC f ss)[j]? = some s' → ∃ s, ss[j]? = some s ∧ ((∃ x, s = .d x ∧ s' = .d (f x)) ∨ ∃ xs, s = .a xs ∧ s' = .a (qL f xs))
  | [], j, s', h => by simp [qC] at h
  | s :: r, 0, s', h => by
    cases s with
    | d x => simp [qC] at h; subst h; exact ⟨_, rfl, .inl ⟨x, rfl, rfl⟩⟩
    | a xs => simp [qC] at h; subst h; exact ⟨_, rfl, .inr ⟨xs, rfl, rfl⟩⟩
  | s :: r, j + 1, s', h => by
    have : (qC f r)[j]? = some s' := by cases s <;> simpa [qC] using h
    obtain ⟨s0, q1, q2⟩ := qC_get this
    exact ⟨s0, by simpa using q1, q2⟩
theorem qC_len : ∀ {ss : List SC}, (qC f ss).length = ss.length
  | [] => rfl
  | s :: r => by cases s <;> simp [qC, qC_len (ss := r)]
theorem qS_den (fz : ∀ d v, Den ρ z d v → Den ρ z (f d) v) {s : SV} {v : Value} (h : DenS ρ z s v) : DenS ρ z (qS f s) v := by
  cases h with
  | d h => exact .d (fz _ _ h)
  | a h => exact .a (qL_den fz h)
  | t hl hd =>
    refine .t (by rw [qC_len]; exact hl) fun j s v e1 e2 => ?_
    obtain ⟨s0, q1, q2⟩ := qC_get e1
    have h0 := hd j s0 v q1 e2
    rcases q2 with ⟨x, rfl, rfl⟩ | ⟨xs, rfl, rfl⟩
    · cases h0 with | d h0 => exact .d (fz _ _ h0)
    · cases h0 with | a h0 => exact .a (qL_den fz h0)
theorem qTm_lk : ∀ {tm : List (Nat × SV)} {j : Nat} {s' : SV}, lk j (qTm f tm) = some s' → ∃ s, lk j tm = some s ∧ s' = qS f s
  | [], j, s', h => by simp [qTm, lk] at h
  | (i, s) :: r, j, s', h => by
    simp only [qTm, lk] at h ⊢
    cases hb : Nat.beq j i <;> rw [hb] at h
    · exact qTm_lk (tm := r) h
    · simp only [cond_true, Option.some.injEq] at h
      exact ⟨s, rfl, h.symm⟩
theorem qOb_den (fz : ∀ d v, Den ρ z d v → Den ρ z (f d) v) : ∀ {ob : List (Nat × Ob)} {hp : List (Nat × Hb)}, ObsOk ρ z ob hp → ObsOk ρ z (qOb f ob) hp
  | [], _, h => h
  | (j, .bx t cs) :: r, hp, ⟨Y, hp', h1, ⟨b, us, h2, h3, h4⟩, h5⟩ => ⟨Y, hp', h1, ⟨b, us, by rw [qL_len]; exact h2, by rw [qL_len]; exact h3, qL_den fz h4⟩, qOb_den fz h5⟩
  | (j, .ar t m ss) :: r, hp, ⟨Y, hp', h1, h2, h5⟩ => ⟨Y, hp', h1, h2, qOb_den fz h5⟩
  | (j, .fm t ss) :: r, hp, ⟨Y, hp', h1, h2, h5⟩ => ⟨Y, hp', h1, h2, qOb_den fz h5⟩
  | (j, .mp a b es) :: r, hp, ⟨Y, hp', h1, h2, h5⟩ => ⟨Y, hp', h1, h2, qOb_den fz h5⟩
  | (j, .fa t m ss) :: r, hp, ⟨Y, hp', h1, h2, h5⟩ => ⟨Y, hp', h1, h2, qOb_den fz h5⟩
  | (j, .ab cs us zb φ) :: r, hp, ⟨Y, hp', h1, ⟨h2, h3, h4⟩, h5⟩ => ⟨Y, hp', h1, ⟨h2, h3, qL_den fz h4⟩, qOb_den fz h5⟩
end
/-- A box is frozen. -/
theorem Ghost.frzB {tmT : List (Nat × SV)} {ob : List (Nat × Ob)} (k : Nat) {t : TypeId} {cs : List D} {ys : List V} (hk : lk k ob = some (.bx t cs)) (hb : borL [] cs = some ys) : Ghost tmT ob (qTm (qD k ys) tmT) (qOb (qD k ys) (obr k ob)) := ⟨fun c tm h ρ G w g hw => by
  obtain ⟨F, w0, hp⟩ := h
  obtain ⟨Y, f, ⟨b, us, rfl, g2, g3⟩, g6, _, g8⟩ := g.ob.set hk
  have g4 := borL_nil_den hb g3
  have hperm : hp.Perm ([(b, ⟨t, us, cs.length⟩)] ++ f []) := by have := g6.perm [(b, (⟨t, us, cs.length⟩ : Hb))]; rwa [g6.eq] at this
  have hnd : (([(b, (⟨t, us, cs.length⟩ : Hb))] ++ f []).map Prod.fst).Nodup := (hperm.map _).nodup_iff.1 hw.nd
  have hmem : ∀ p, p ∈ hp ↔ p ∈ [(b, (⟨t, us, cs.length⟩ : Hb))] ∨ p ∈ f [] := fun p => by rw [hperm.mem_iff, List.mem_append]
  have hmb : (b, (⟨t, us, cs.length⟩ : Hb)) ∈ hp := (hmem _).2 (.inl (by simp))
  have hB : ¬ F b := hw.out b _ hmb
  have hz : Mz ⟨G, w0⟩ ⟨G.or (· = b), w⟩ := ⟨fun _ h => .inl h, fun b hb => hw.same.block b (g.gF b hb), fun _ _ _ h => h⟩
  have g4' := g4.mono hz
  have fz : ∀ o v, Den ρ ⟨G.or (· = b), w⟩ (.p k o) v → Den ρ ⟨G.or (· = b), w⟩ (.q ys o) v := fun o v h => by
    cases h with | @p _ _ b' _ _ h0 =>
    rw [g2] at h0
    injection h0 with h0
    injection h0 with e1 _ _
    injection e1 with e1
    injection e1 with e1 _ _
    subst e1
    have := Den.q (ρ := ρ) (z := ⟨G.or (· = b), w⟩) (cs := ys) (o := o) (b := b) (o' := 0) (us := us) (.inr rfl) (fun j u hj => by rw [Nat.zero_add]; exact (hw.blk b _ hmb).cell (x := ⟨t, us, _⟩) hj) g4'
    rwa [Nat.zero_add] at this
  refine ⟨⟨fun x => F x ∨ x = b, w, f []⟩, ρ, G.or (· = b), ⟨fun b hb => .inl (g.fF b hb), g.fw.trans (hw.same.mono g.fF), fun b hb => hb.imp (g.gF b) id, fun x hx => ?_, g.fm.or, fun j s' hj => ?_, qOb_den (fun _ _ => qD_den fz) (g8.mono hz .refl)⟩, ⟨Same.refl _ _, fun x hx => ?_, fun x y hx => hw.blk x y ((hmem _).2 (.inr hx)), ?_, fun x y hx hb => ?_⟩⟩
  · rcases hx with hx | rfl
    · exact g.gx x hx
    · exact .inr fun h0 => hB (g.fF _ h0)
  · obtain ⟨s, e1, rfl⟩ := qTm_lk hj
    obtain ⟨v, v1, v2⟩ := g.tm j s e1
    exact ⟨v, v1, qS_den (fun _ _ => qD_den fz) (v2.mono hz .refl)⟩
  · rcases hx with hx | rfl
    · exact hw.Flt hx
    · exact (hw.blk _ _ hmb).lt
  · rw [List.map_append, List.nodup_append] at hnd; exact hnd.2.1
  · rcases hb with hb | rfl
    · exact hw.out x y ((hmem _).2 (.inr hx)) hb
    · rw [List.map_append, List.nodup_append] at hnd
      exact hnd.2.2 x (by simp) x (List.mem_map_of_mem (f := Prod.fst) hx) rfl⟩
/-- An own map that is written no more is seen as frozen. -/
def zD (k : Nat) (vg : Bool) (es : List (List V × List V)) : D → D
  | .mp j => bif Nat.beq j k then .u (.fz vg es) else .mp j
  | d => d
end Go.Proofs.YtabmcfnefjipbaaGreatDoor

/-
  The layer of trees: a call that has families of its own. Of no program.
-/
namespace Go.Proofs.YtabmcfnefjipbaaGreatDoor
open Go.RowKit
/-- No pointer into a family. -/
inductive Nm : V → Prop
  | int {k : IntKind} {n : Int} : Nm (.int k n)
  | bool {b : Bool} : Nm (.bool b)
  | str {s : ByteArray} : Nm (.str s)
  | nl : Nm .nl
  | pn : Nm .pn
  | fn {f : FuncId} : Nm (.fn f)
  | v {x : Value} : Nm (.v x)
  | cl {f : FuncId} {cs : List (List V)} (h : ∀ r ∈ cs, ∀ x ∈ r, Nm x) : Nm (.cl f cs)
  | sl {sz : Nat} {rs : List (List V)} (h : ∀ r ∈ rs, ∀ x ∈ r, Nm x) : Nm (.sl sz rs)
  | fz {vg : Bool} {es : List (List V × List V)} (h : ∀ e ∈ es, ∀ x ∈ e.1 ++ e.2, Nm x) : Nm (.fz vg es)
def NmD (d : D) : Prop := ∃ x, d = .u x ∧ Nm x
def NmC : SC → Prop
  | .d x => NmD x
  | .a xs => ∀ x ∈ xs, NmD x
def NmS : SV → Prop
  | .d x => NmD x
  | .a xs => ∀ x ∈ xs, NmD x
  | .t vs => ∀ s ∈ vs, NmC s
section
variable {ρ ρ' : Rho} {z z' : Fz}
theorem DenV.nm {d : V} {v : Value} (h : DenV z d v) (hG : z'.G.on = z.G.on) (hw : z'.w0 = z.w0) : Nm d → DenV z' d v := by
  induction h with
  | int k n => exact fun _ => .int k n
  | bool b => exact fun _ => .bool b
  | str s hs => exact fun _ => .str s hs
  | nl => exact fun _ => .nl
  | @sl sz rs A n c b o us hn hc hm hr hA hl hu h1 hd ih =>
    intro hN
    cases hN with | sl hN =>
    refine .sl (b := b) (o := o) us hn hc hm hr (fun h => ⟨(hA h).1, by rw [hG]; exact (hA h).2⟩) hl (fun j u h => by rw [hw]; exact hu j u h) h1 fun j d u e1 e2 => ih j d u e1 e2 ?_
    obtain ⟨r, hr1, hr2⟩ := List.mem_flatten.1 (List.mem_of_getElem? e1)
    exact hN r hr1 d hr2
  | pn => exact fun _ => .pn
  | fn => exact fun _ => .fn
  | v h1 => exact fun _ => .v h1
  | m h => exact fun hN => by cases hN
  | cl us B O X hl hu hG' hX h1 hc hd ih =>
    intro hN
    cases hN with | cl hN =>
    exact .cl us B O X hl hu (fun j hj => by rw [hG]; exact hG' j hj) hX h1 (fun j hj i x hx => by rw [hw]; exact hc j hj i x hx) fun j c i d x e1 e2 e3 => ih j c i d x e1 e2 e3 (hN c (List.mem_of_getElem? e1) d (List.mem_of_getElem? e2))
  | fz hG' hb hl hs hk ih =>
    intro hN
    cases hN with | fz hN =>
    exact .fz (by rw [hG]; exact hG') (by rw [hw]; exact hb) hl hs fun j e m i d u e1 e2 e3 e4 => ih j e m i d u e1 e2 e3 e4 (hN e (List.mem_of_getElem? e1) d (List.mem_of_getElem? e3))
theorem Den.nm {d : D} {v : Value} (h : Den ρ z d v) (hG : z'.G.on = z.G.on) (hw : z'.w0 = z.w0) (hN : NmD d) : Den ρ' z' d v := by
  obtain ⟨x, rfl, hx⟩ := hN
  cases h with | u h => exact .u (h.nm hG hw hx)
theorem DenL.nm {cs : List D} {us : List Value} (h : DenL ρ z cs us) (hG : z'.G.on = z.G.on) (hw : z'.w0 = z.w0) (hN : ∀ x ∈ cs, NmD x) : DenL ρ' z' cs us :=
  ⟨h.len, h.one, fun j d u h1 h2 => (h.den j d u h1 h2).nm hG hw (hN d (List.mem_of_getElem? h1))⟩
theorem DenS.nm {s : SV} {v : Value} (h : DenS ρ z s v) (hG : z'.G.on = z.G.on) (hw : z'.w0 = z.w0) (hN : NmS s) : DenS ρ' z' s v := by
  cases h with
  | d h => exact .d (h.nm hG hw hN)
  | a h => exact .a (h.nm hG hw hN)
  | t hl hd =>
    refine .t hl fun j s v h1 h2 => ?_
    have hs := hN s (List.mem_of_getElem? h1)
    cases hd j s v h1 h2 with
    | d h => exact .d (h.nm hG hw hs)
    | a h => exact .a (h.nm hG hw hs)
end
theorem fams_ok {ρ : Rho} {z : Fz} : ∀ {fs : List (Nat × TypeId)}, (∀ p ∈ fs, z.G.fam p.1 = [] ∧ z.G.own p.1) → ObsOk ρ z (fs.map fun p => (p.1, Ob.fm p.2 [])) []
  | [], _ => rfl
  | p :: r, h => by
    have h1 := h p (by simp)
    refine ⟨[], [], rfl, ⟨?_, h1.2⟩, fams_ok fun q hq => h q (by simp [hq])⟩
    rw [h1.1]
    exact .nil
/-- What is given back: slices over own arrays, values without pointers into families. -/
def NoD (d : D) : Prop := NmD d ∨ ∃ k n, d = .ow k n
def NoC : SC → Prop
  | .d x => NoD x
  | .a xs => ∀ x ∈ xs, NoD x
def NoS : SV → Prop
  | .d x => NoD x
  | .a xs => ∀ x ∈ xs, NoD x
  | .t vs => ∀ s ∈ vs, NoC s
def NoOb (ob : List (Nat × Ob)) : Prop := ∀ p ∈ ob, ∃ t sz rs, p.2 = .ar t sz rs ∧ ∀ r ∈ rs, ∀ x ∈ r, Nm x
section
variable {ρ : Rho} {z z' : Fz}
theorem Den.no {d : D} {v : Value} (h : Den ρ z d v) (hG : z'.G.on = z.G.on) (hw : z'.w0 = z.w0) (hN : NoD d) : Den ρ z' d v := by
  rcases hN with hN | ⟨k, n, rfl⟩
  · exact h.nm hG hw hN
  · cases h with | ow h hA hc => exact .ow h hA hc
theorem DenL.no {cs : List D} {us : List Value} (h : DenL ρ z cs us) (hG : z'.G.on = z.G.on) (hw : z'.w0 = z.w0) (hN : ∀ x ∈ cs, NoD x) : DenL ρ z' cs us :=
  ⟨h.len, h.one, fun j d u h1 h2 => (h.den j d u h1 h2).no hG hw (hN d (List.mem_of_getElem? h1))⟩
theorem DenS.no {s : SV} {v : Value} (h : DenS ρ z s v) (hG : z'.G.on = z.G.on) (hw : z'.w0 = z.w0) (hN : NoS s) : DenS ρ z' s v := by
  cases h with
  | d h => exact .d (h.no hG hw hN)
  | a h => exact .a (h.no hG hw hN)
  | t hl hd =>
    refine .t hl fun j s v h1 h2 => ?_
    have hs := hN s (List.mem_of_getElem? h1)
    cases hd j s v h1 h2 with
    | d h => exact .d (h.no hG hw hs)
    | a h => exact .a (h.no hG hw hs)
theorem ObsOk.no (hG : z'.G.on = z.G.on) (hw : z'.w0 = z.w0) : ∀ {ob : List (Nat × Ob)} {hp : List (Nat × Hb)}, NoOb ob → ObsOk ρ z ob hp → ObsOk ρ z' ob hp
  | [], _, _, h => h
  | (k, o) :: r, _, hN, ⟨X, hp', h1, h2, h3⟩ => by
    obtain ⟨t, sz, rs, rfl, hn⟩ := hN (k, o) (by simp)
    refine ⟨X, hp', h1, ?_, h3.no hG hw fun p hp => hN p (by simp [hp])⟩
    obtain ⟨A, c, us, e1, e2, e3, e4, e5⟩ := h2
    exact ⟨A, c, us, e1, e2, e3, ⟨e4.len, e4.one, fun j d u f1 f2 => (e4.den j d u f1 f2).nm hG hw (by
      obtain ⟨r', hr1, hr2⟩ := List.mem_flatten.1 (List.mem_of_getElem? f1)
      exact hn r' hr1 d hr2)⟩, e5⟩
end
/-- A call whose families no one else sees; it gives own arrays. -/
theorem CallsA.hideO {P : Program} {f : FuncId} {ss : List SV} (fs : List (Nat × TypeId)) {s0 : SV} {ob0 : List (Nat × Ob)} (hn : ∀ s ∈ ss, NmS s) (hs0 : NoS s0) (hob0 : NoOb ob0) (h : CallsA P f ss (fs.map fun p => (p.1, Ob.fm p.2 [])) (fun s ob => s = s0 ∧ ob = ob0)) : CallsA P f ss [] fun s ob => s = s0 ∧ ob = ob0 :=
  ⟨h.fn, fun c ρ hp vs w hw hv g => by
    have hp0 : hp = [] := g.ob
    subst hp0
    have g' : Gd ⟨c.F, c.w, ⟨c.G.on, fun k => if k ∈ fs.map Prod.fst then [] else c.G.fam k, fun k => k ∈ fs.map Prod.fst⟩⟩ ⟨slT 0 ss, fs.map fun p => (p.1, Ob.fm p.2 [])⟩ (slots 0 vs) ⟨c.F, c.w, []⟩ ρ ⟨c.G.on, fun k => if k ∈ fs.map Prod.fst then [] else c.G.fam k, fun k => k ∈ fs.map Prod.fst⟩ := by
      refine ⟨g.fF, g.fw, g.gF, g.gx, .refl _, fun k s hk => ?_, fams_ok fun p hp => ⟨?_, ?_⟩⟩
      · obtain ⟨v, q1, q2⟩ := g.tm k s hk
        exact ⟨v, q1, DenS.nm q2 rfl rfl (hn s (List.mem_of_getElem? (lk_slT hk).2))⟩
      · show (if p.1 ∈ fs.map Prod.fst then [] else c.G.fam p.1) = []
        rw [if_pos (List.mem_map_of_mem hp)]
      · exact List.mem_map_of_mem hp
    refine (h.out ⟨c.F, c.w, ⟨c.G.on, fun k => if k ∈ fs.map Prod.fst then [] else c.G.fam k, fun k => k ∈ fs.map Prod.fst⟩⟩ ρ [] vs w hw hv g').mono ?_
    rintro e w' ⟨v, h', s, ob', ρ', G', rfl, hw', g2, rfl, rfl⟩
    obtain ⟨u, u1, u2⟩ := g2.tm 0 s rfl
    refine ⟨v, h', s, ob', ρ', ⟨G'.on, c.G.fam, c.G.own⟩, rfl, hw', ⟨g2.fF, g2.fw, g2.gF, g2.gx, ⟨rfl, fun _ _ => rfl, fun _ _ _ h => h⟩, fun k s0 hk => ?_, ObsOk.no (z := ⟨G', h'.w0⟩) (z' := ⟨⟨G'.on, c.G.fam, c.G.own⟩, h'.w0⟩) rfl rfl hob0 g2.ob⟩, rfl, rfl⟩
    obtain ⟨v0, q1, q2⟩ := g2.tm k s0 hk
    refine ⟨v0, q1, DenS.no q2 rfl rfl ?_⟩
    simp only [lk] at hk
    cases hb : Nat.beq k 0 <;> rw [hb] at hk
    · cases hk
    · injection hk with hk
      subst hk
      exact hs0⟩
end Go.Proofs.YtabmcfnefjipbaaGreatDoor

/-
  The layer of trees: rows of zeros: append(nil, make(..)), make. Of no program.
-/
namespace Go.Proofs.YtabmcfnefjipbaaGreatDoor
open Go.RowKit
/-- Nil slices in cells of families are slices without elements. -/
inductive NlE : E → E → Prop
  | refl {e : E} : NlE e e
  | v {x y : V} : NlV x y → NlE (.v x) (.v y)
inductive NlEs : List E → List E → Prop
  | nil : NlEs [] []
  | cons {x y : E} {r s : List E} : NlE x y → NlEs r s → NlEs (x :: r) (y :: s)
inductive NlRs : List (List E) → List (List E) → Prop
  | nil : NlRs [] []
  | cons {x y : List E} {r s : List (List E)} : NlEs x y → NlRs r s → NlRs (x :: r) (y :: s)
inductive NlO : List (Nat × Ob) → List (Nat × Ob) → Prop
  | nil : NlO [] []
  | keep {p : Nat × Ob} {r s : List (Nat × Ob)} : NlO r s → NlO (p :: r) (p :: s)
  | fm {k : Nat} {t : TypeId} {rs ss : List (List E)} {r s : List (Nat × Ob)} : NlRs rs ss → NlO r s → NlO ((k, .fm t rs) :: r) ((k, .fm t ss) :: s)
section
variable {ρ : Rho} {z : Fz}
theorem NlE.ok {k i o : Nat} {e e' : E} {u : Value} {X : List (Nat × Hb)} (l : NlE e e') (h : CellOk ρ z k i o e u X) : CellOk ρ z k i o e' u X := by
  cases l with
  | refl => exact h
  | v l => exact ⟨h.1, l.den h.2⟩
theorem NlEs.ok {k i : Nat} {es es' : List E} (l : NlEs es es') : ∀ {o : Nat} {us : List Value} {X : List (Nat × Hb)}, CellsOk ρ z k i o es us X → CellsOk ρ z k i o es' us X := by
  induction l with
  | nil => exact fun h => h
  | cons l _ ih => intro o us X h; cases h with | cons h1 h2 => exact .cons (l.ok h1) (ih h2)
theorem NlRs.ok {k : Nat} {ty : TypeId} {rs rs' : List (List E)} (l : NlRs rs rs') : ∀ {i : Nat} {bs : List Nat} {X : List (Nat × Hb)}, FamOk ρ z k ty i bs rs X → FamOk ρ z k ty i bs rs' X := by
  induction l with
  | nil => exact fun h => h
  | cons l _ ih => intro i bs X h; cases h with | cons h1 h2 => exact .cons (l.ok h1) (ih h2)
theorem NlO.ok {ob ob' : List (Nat × Ob)} (l : NlO ob ob') : ∀ {hp : List (Nat × Hb)}, ObsOk ρ z ob hp → ObsOk ρ z ob' hp := by
  induction l with
  | nil => exact fun h => h
  | keep _ ih => intro hp ⟨X, hp', h1, h2, h3⟩; exact ⟨X, hp', h1, h2, ih h3⟩
  | fm l _ ih => intro hp ⟨X, hp', h1, h2, h3⟩; exact ⟨X, hp', h1, ⟨l.ok h2.1, h2.2⟩, ih h3⟩
end
theorem Ghost.nl {tm : List (Nat × SV)} {ob ob' : List (Nat × Ob)} (l : NlO ob ob') : Ghost tm ob tm ob' := ⟨fun c tmv h ρ G w g hw => ⟨h, ρ, G, ⟨g.fF, g.fw, g.gF, g.gx, g.fm, g.tm, l.ok g.ob⟩, hw⟩⟩
section
variable {P : Program} {T : List (Nat × Ty)} [hT : Tys P T] {nt : Nt} {Q : Exit → Act → World → Prop} {c : Cx} {tm : List (Nat × Value)} {h : Hs} {ρ : Rho} {G : FG} {ty : TypeId} {pos : String} {af : Array Edge} {gd : Option (Nat × Bool)} {K : Kt}
omit hT in
theorem rep_den {z : Fz} {zs : List V} {jz : List Value} (hz : vzT jz = some zs) : ∀ n, DenVL z (List.replicate n zs).flatten (zrepT jz n) := fun n => by
  induction n with
  | zero => exact .nil
  | succ n ih => simp only [List.replicate_succ, List.flatten_cons, zrepT]; exact (vzT_den hz).app ih
omit hT in
/-- A new own array. -/
theorem Kd.newAr {tmT : List (Nat × SV)} {ob : List (Nat × Ob)} {F : Nat → Prop} {w0 w w' : World} {hp : List (Nat × Hb)} (g : Gd c ⟨tmT, ob⟩ tm ⟨F, w0, hp⟩ ρ G) (hw : Hp ⟨F, w0, hp⟩ w) {d e sz n cc : Nat} {zs : List V} {jz : List Value} {A : Option Addr} (hz : vzT jz = some zs) (hl : jz.length = sz) (hnew : newN d tmT ob = true) (hb : Below w.heap.size w w') (ho : w'.ownsRow w.heap.size e sz (.slice A n cc) n (zrepT jz n)) (k : K ((d, .d (.ow d n)) :: tmT) ((d, .ar e sz (List.replicate n zs)) :: ob)) :
    ∃ h', Hp h' w' ∧ Kd c K ((d, .slice A n cc) :: tm) h' := by
  have hw' := hw.addRow hb (Nat.le_refl _) ho
  have hok := OkA.of_own ho
  have hzl : zs.length = sz := by rw [← (vzT_den (z := ⟨G, w0⟩) hz).len]; exact hl
  have hob : ObOk (upd ρ d ⟨A, cc, sz⟩) ⟨G, w0⟩ d (.ar e sz (List.replicate n zs)) (hbA A e (zrepT jz n) cc sz) := ⟨A, cc, _, rfl, upd_self, by rw [List.length_replicate]; exact hok, rep_den hz n, fun r hr => by rw [List.eq_of_mem_replicate hr]; exact hzl⟩
  refine ⟨_, hw', .of ((g.new (st := ⟨tmT, ob⟩) hnew hob).put (d := d) (s := .d (.ow d n)) (v := .slice A n cc) (.d (.ow (l := ⟨A, cc, sz⟩) upd_self (fun hA0 => ?_) hok.cap))) k⟩
  rcases hok.form with ⟨_, e0, _⟩ | ⟨b, e0⟩
  · exact e0
  · dsimp only at hA0; rw [e0] at hA0; cases hA0
theorem Raw.makeSlice {x y : Operand} {t d e sz : Nat} (n : Nat) {kq kr : IntKind} {m m' : Int} {tmT : List (Nat × SV)} {ob : List (Nat × Ob)} {zs : List V} {i : Ty} {jk : Tk} {jb : Nat} {jz : List Value} (hx : evT tmT x = some (.d (.u (.int kr m)))) (hy : evT tmT y = some (.d (.u (.int kq m')))) (hm : m = (n : Int)) (hm' : m' = (n : Int)) (ht : lk t T = some i) (hi : i.k = .sl e) (hj : lk e T = some ⟨jk, sz, jb, jz⟩) (hz : vzT jz = some zs)
    (hl : (Nat.beq jz.length sz && Nat.blt 0 sz) = true) (hd : Nat.blt d nt = true) (hnew : newN d tmT ob = true) (h1 : n * sz ≤ 16777216) (hb : jb * n ≤ 281474976710656) (k : K ((d, .d (.ow d n)) :: tmT) ((d, .ar e sz (List.replicate n zs)) :: ob)) : Raw P nt ⟨some d, .makeSlice t x y, ty, pos, af, gd⟩ tmT ob K := ⟨fun Q c tm h ρ G g => by
  subst hm hm'
  simp only [Bool.and_eq_true] at hl
  have hl1 := Nat.eq_of_beq_eq_true hl.1
  have hl2 : 0 < sz := by simpa [Nat.blt_eq] using hl.2
  have x1 := evT_int g hx
  have y1 := evT_int g hy
  obtain ⟨f, z, q1, q2, q3, q4, q5⟩ := (hT.ok e _ hj).info
  dsimp only at q2 q3 q5
  have ku := (hT.ok t i ht).kind
  rw [hi] at ku
  have ku : P.underlying t = some (.slice e) := ku
  obtain ⟨F, w0, hp⟩ := h
  refine OpS.of_run hd fun a w ha hw => ?_
  have hn : n ≤ maxLen := by
    have : n * 1 ≤ n * sz := Nat.mul_le_mul_left _ hl2
    unfold maxLen; omega
  obtain ⟨w', r1, r2, r3⟩ := run_makeSlice_full (P := P) (w := w) w.heap.size t e f z sz ku q1 q4 q2 kr kq n h1 (by rw [q3]; exact hb) hn (Nat.le_refl _)
  have hmc : (madeCells z.cells (n * sz)).toList = zrepT jz n := by
    have e1 : z.cells = jz.toArray := by rw [← q5]
    rw [zrepT_eq]
    simp [madeCells, e1, Array.toList_map, Array.toList_range, hl1]
  rw [hmc] at r2
  have hbel : Below w.heap.size w w' := ⟨r3.os, r3.tape, r3.output, r3.size, fun k hk => r3.block k hk (by simp)⟩
  obtain ⟨h', s1, s2⟩ := Kd.newAr g hw hz hl1 hnew hbel r2 k
  exact ⟨_, _, h', by simp [execOp, ha.ev x1, ha.ev y1, r1], s1, s2⟩⟩
theorem Raw.capNil {x : Operand} {t e d : Nat} {i : Ty} {tmT : List (Nat × SV)} {ob : List (Nat × Ob)} (hx : evT tmT x = some (.d (.u .nl))) (ht : lk t T = some i) (hi : i.k = .sl e) (hd : Nat.blt d nt = true) (k : K ((d, .d (.u (.int .i64 0))) :: tmT) ob) : Raw P nt ⟨some d, .call ⟨.builtin .cap, #[x], #[t]⟩, ty, pos, af, gd⟩ tmT ob K := ⟨fun Q c tm h ρ G g => by
  obtain ⟨vx, x1, x2⟩ := g.ev hx
  cases x2 with | d x2 => cases x2 with | u x2 => cases x2 with | nl =>
  have ku := (hT.ok t i ht).kind
  rw [hi] at ku
  have ku : P.underlying t = some (.slice e) := ku
  exact OpS.yd (v := .int .i64 0) ⟨fun a w ha hw => by simp [execOp, resolve, invoke, builtin, ha.ev x1, Builtin.cap_, goInt, run_underlying ku]⟩ hd (.of (g.put (.d (.u (.int _ _)))) k)⟩
theorem Raw.sliceNil {x y : Operand} {t d e : Nat} {kq : IntKind} {m : Int} {tmT : List (Nat × SV)} {ob : List (Nat × Ob)} {i : Ty} {jk : Tk} {js jb : Nat} {jz : List Value} (hx : evT tmT x = some (.d (.u .nl))) (hy : evT tmT y = some (.d (.u (.int kq m)))) (hm : m = 0) (ht : lk t T = some i) (hi : i.k = .sl e) (hj : lk e T = some ⟨jk, js, jb, jz⟩) (hd : Nat.blt d nt = true) (k : K ((d, .d (.u .nl)) :: tmT) ob) : Raw P nt ⟨some d, .slice t x none (some y) none, ty, pos, af, gd⟩ tmT ob K := ⟨fun Q c tm h ρ G g => by
  subst hm
  obtain ⟨vx, x1, x2⟩ := g.ev hx
  cases x2 with | d x2 => cases x2 with | u x2 => cases x2 with | nl =>
  have y1 := evT_int g hy
  have hyd := Yd.sliceG (P := P) (T := T) (nt := nt) (h := h) (d := some d) (ty := ty) (pos := pos) (af := af) (gd := gd) (lo := none) (hi := some y) (l := 0) (m := 0) x1 ht hi hj (.inl ⟨rfl, rfl⟩) (.inr ⟨y, kq, rfl, y1⟩) (Nat.le_refl _) (Nat.le_refl _)
  exact OpS.yd hyd hd (.of (g.put (.d (.u .nl))) k)⟩
end
end Go.Proofs.YtabmcfnefjipbaaGreatDoor

/-
  The layer of trees: own arrays are frozen anywhere; nil slices inside of rows. Of no program.
-/
namespace Go.Proofs.YtabmcfnefjipbaaGreatDoor
open Go.RowKit
/-- An own array is frozen. -/
theorem Ghost.frzA {tmT : List (Nat × SV)} {ob : List (Nat × Ob)} (k : Nat) {u sz : Nat} {rs : List (List V)} (hk : lk k ob = some (.ar u sz rs)) (hn : frNeedT k rs (frNeedO k rs True (obr k ob)) tmT) : Ghost tmT ob (frTm k sz rs tmT) (frOb k sz rs (obr k ob)) := ⟨fun c tm h ρ G w g hw => by
  obtain ⟨_, h', G', q1, q2, _⟩ := Gd.freeze (st := ⟨tmT, ob⟩) (X := True) g hw hk hn
  exact ⟨h', ρ, G', q1, q2⟩⟩
/-- A nil slice is a slice without elements, also inside of rows. -/
inductive NvV : V → V → Prop
  | refl {x : V} : NvV x x
  | nl {sz : Nat} {rs : List (List V)} : rs = [] → NvV .nl (.sl sz rs)
  | sl {sz : Nat} {rs rs' : List (List V)} : rs.length = rs'.length → (∀ (i : Nat) r r', rs[i]? = some r → rs'[i]? = some r' → r.length = r'.length) → (∀ (i : Nat) r r' (j : Nat) x y, rs[i]? = some r → rs'[i]? = some r' → r[j]? = some x → r'[j]? = some y → NvV x y) → NvV (.sl sz rs) (.sl sz rs')
theorem flat_split {α : Type} {sz : Nat} : ∀ {rs : List (List α)} {k : Nat} {d : α}, (∀ r ∈ rs, r.length = sz) → rs.flatten[k]? = some d → ∃ (i j : Nat) (r : List α), k = i * sz + j ∧ rs[i]? = some r ∧ r[j]? = some d
  | [], k, d, _, h => by simp at h
  | r :: rs, k, d, hr, h => by
    have h0 := hr r (by simp)
    rw [List.flatten_cons] at h
    by_cases hk : k < r.length
    · rw [List.getElem?_append_left hk] at h
      exact ⟨0, k, r, by simp, rfl, h⟩
    · rw [List.getElem?_append_right (by omega)] at h
      obtain ⟨i, j, r', e1, e2, e3⟩ := flat_split (fun r' h' => hr r' (by simp [h'])) h
      exact ⟨i + 1, j, r', by rw [Nat.add_mul, Nat.one_mul]; omega, by simpa using e2, e3⟩
theorem NvV.den {z : Fz} {x y : V} (l : NvV x y) : ∀ {v : Value}, DenV z x v → DenV z y v := by
  induction l with
  | refl => exact fun h => h
  | nl e => subst e; exact fun h => (NlV.nl rfl).den h
  | @sl sz rs rs' hl hr hx ih =>
    intro v h
    cases h with | @sl _ _ A n c b o us hn hc hm hrs hA hlu hu h1 hd =>
    have hrs' : ∀ r ∈ rs', r.length = sz := fun r' hr' => by
      obtain ⟨i, hi⟩ := List.getElem?_of_mem hr'
      have hlt : i < rs.length := by rw [hl]; exact (List.getElem?_eq_some_iff.1 hi).1
      rw [← hr i _ r' (List.getElem?_eq_getElem hlt) hi]
      exact hrs _ (List.getElem_mem hlt)
    refine .sl us (by rw [← hl]; exact hn) hc hm hrs' (fun h => hA fun e => h (List.eq_nil_of_length_eq_zero (by rw [← hl, e]; rfl))) (by rw [hlu, flat_len hrs, flat_len hrs', hl]) hu h1 fun k d u e1 e2 => ?_
    obtain ⟨i, j, r', q1, q2, q3⟩ := flat_split hrs' e1
    have hlt : i < rs.length := by rw [hl]; exact (List.getElem?_eq_some_iff.1 q2).1
    have hi := List.getElem?_eq_getElem hlt
    have hle := hr i _ r' hi q2
    have hj : j < (rs[i]).length := by rw [hle]; exact (List.getElem?_eq_some_iff.1 q3).1
    have hjj := List.getElem?_eq_getElem hj
    refine ih i _ r' j _ d hi q2 hjj q3 (hd k _ u ?_ e2)
    rw [q1]
    exact flat_get hrs hi j _ hjj
def NvR (rs rs' : List (List V)) : Prop := rs.length = rs'.length ∧ (∀ (i : Nat) r r', rs[i]? = some r → rs'[i]? = some r' → r.length = r'.length) ∧ (∀ (i : Nat) r r' (j : Nat) x y, rs[i]? = some r → rs'[i]? = some r' → r[j]? = some x → r'[j]? = some y → NvV x y)
def NvC (r r' : List V) : Prop := r.length = r'.length ∧ ∀ (j : Nat) x y, r[j]? = some x → r'[j]? = some y → NvV x y
theorem NvC.nil : NvC [] [] := ⟨rfl, fun _ _ _ h => by simp at h⟩
theorem NvC.cons {x y : V} {r s : List V} (h : NvV x y) (h' : NvC r s) : NvC (x :: r) (y :: s) := ⟨by simp [h'.1], fun j a b e1 e2 => by
  cases j with
  | zero => simp at e1 e2; subst e1 e2; exact h
  | succ j => exact h'.2 j a b (by simpa using e1) (by simpa using e2)⟩
theorem NvR.nil : NvR [] [] := ⟨rfl, fun _ _ _ h => by simp at h, fun _ _ _ _ _ _ h => by simp at h⟩
theorem NvR.cons {x y : List V} {r s : List (List V)} (h : NvC x y) (h' : NvR r s) : NvR (x :: r) (y :: s) := ⟨by simp [h'.1], fun i a b e1 e2 => by
  cases i with
  | zero => simp at e1 e2; subst e1 e2; exact h.1
  | succ i => exact h'.2.1 i a b (by simpa using e1) (by simpa using e2), fun i a b j u v e1 e2 e3 e4 => by
  cases i with
  | zero => simp at e1 e2; subst e1 e2; exact h.2 j u v e3 e4
  | succ i => exact h'.2.2 i a b j u v (by simpa using e1) (by simpa using e2) e3 e4⟩
theorem NvV.rows {sz : Nat} {rs rs' : List (List V)} (h : NvR rs rs') : NvV (.sl sz rs) (.sl sz rs') := .sl h.1 h.2.1 h.2.2
end Go.Proofs.YtabmcfnefjipbaaGreatDoor
namespace Go.Proofs.YtabmcfnefjipbaaGreatDoor
open Go.RowKit
section
variable {P : Program} {ops : Array Oper} {Q : Exit → Act → World → Prop} {md : Region.Mode} {S S' S1 S1' : World → Prop} {late free : List Nat}
/-- Whatever order is picked; S holds behind operations that are neither late nor free; S1 behind all. -/
def wpAnyX (P : Program) (md : Region.Mode) (ops : Array Oper) (Q : Exit → Act → World → Prop) (S S1 : World → Prop) (late free : List Nat) : Nat → Array Bool → Act → World → Prop
  | 0, listed, a, w => Region.ready md ops listed = [] ∧ Q .normal a w
  | fuel + 1, listed, a, w =>
    (Region.ready md ops listed = [] → Q .normal a w) ∧
    ∀ i ∈ Region.ready md ops listed, wpOp P ops Q i (fun a' w' => (((free.contains i = true → w' = w) ∧ (late.contains i = false → free.contains i = false → S w')) ∧ S1 w') ∧ wpAnyX P md ops Q S S1 late free fuel (listed.setIfInBounds i true) a' w') a w
theorem wpAny_of_X : ∀ (fuel : Nat) (listed : Array Bool) (a : Act) (w : World), wpAnyX P md ops Q S S1 late free fuel listed a w → wpAny P md ops Q fuel listed a w
  | 0, _, _, _, h => h
  | fuel + 1, _, _, _, h => ⟨h.1, fun i hi => wpOp_mono (fun a' w' h' => wpAny_of_X fuel _ a' w' h'.2) (h.2 i hi)⟩
theorem wpAnyX_mono (hS : ∀ w, S' w → S w) (hS1 : ∀ w, S1' w → S1 w) : ∀ (fuel : Nat) (listed : Array Bool) (a : Act) (w : World), wpAnyX P md ops Q S' S1' late free fuel listed a w → wpAnyX P md ops Q S S1 late free fuel listed a w
  | 0, _, _, _, h => h
  | fuel + 1, _, _, _, h => ⟨h.1, fun i hi => wpOp_mono (fun a' w' h' => ⟨⟨⟨h'.1.1.1, fun hl hf => hS w' (h'.1.1.2 hl hf)⟩, hS1 w' h'.1.2⟩, wpAnyX_mono hS hS1 fuel _ a' w' h'.2⟩) (h.2 i hi)⟩
theorem wpAnyX_free {i : Nat} {oi : Oper} {v : Value} (hi : ops[i]? = some oi) (hsel : ∀ (j : Nat) (o : Oper) cs b, ops[j]? = some o → o.op ≠ .select cs b)
    (hQ : ∀ c a w, Q (.panic c) (a.put oi.dst v) w → Q (.panic c) a w) (hfi : free.contains i = true) :
    ∀ (fuel : Nat) (listed : Array Bool) (a : Act) (w : World), DC md ops listed →
      (∀ j oj, ops[j]? = some oj → j ≠ i → listed.getD j true = false → (∀ e ∈ oj.after, Region.binds md e = true → e.on ≠ i) → oi.apart ops oj = true) →
      i ∈ Region.ready md ops listed → YieldsIf P ops S1 oi v a → S1 w →
      wpAnyX P md ops Q S S1 late free fuel (listed.setIfInBounds i true) (a.put oi.dst v) w → wpAnyX P md ops Q S S1 late free (fuel + 1) listed a w := by
  intro fuel
  induction fuel with
  | zero =>
    intro listed a w _ _ hr hy hS1 H
    refine ⟨fun h => (by rw [h] at hr; cases hr), fun j hj => ?_⟩
    by_cases hji : j = i
    · subst hji; exact hy.wpOp hi hS1 ⟨⟨⟨fun _ => rfl, fun _ hf => by rw [hfi] at hf; cases hf⟩, hS1⟩, H⟩
    · have := ready_mono hj hji
      rw [H.1] at this
      cases this
  | succ fuel ih =>
    intro listed a w hdc hfree hr hy hS1 H
    refine ⟨fun h => (by rw [h] at hr; cases hr), fun j hj => ?_⟩
    by_cases hji : j = i
    · subst hji; exact hy.wpOp hi hS1 ⟨⟨⟨fun _ => rfl, fun _ hf => by rw [hfi] at hf; cases hf⟩, hS1⟩, H⟩
    · have h1 := H.2 j (ready_mono hj hji)
      obtain ⟨hjun, oj, hoj, hall⟩ := mem_ready.1 hj
      have hiun : listed.getD i false ≠ true := fun h' => by
        have h0 := (mem_ready.1 hr).1
        rcases Nat.lt_or_ge i listed.size with h2 | h2
        · simp [h2] at h0 h'; rw [h0] at h'; cases h'
        · simp [Array.getElem?_eq_none h2] at h'
      have hnot : ∀ e ∈ oj.after, Region.binds md e = true → e.on ≠ i := fun e he hb heq => hiun (heq ▸ hall e he hb)
      have h2 := wpOp_putIf hoj (hfree j oj hoj hji hjun hnot) (fun cs b => hsel i oi cs b hi) (fun cs b => hsel j oj cs b hoj) hQ hy h1
      have hfree' : ∀ k ok, ops[k]? = some ok → k ≠ i → (listed.setIfInBounds j true).getD k true = false →
          (∀ e ∈ ok.after, Region.binds md e = true → e.on ≠ i) → oi.apart ops ok = true := fun k ok hk hki hun hno => by
        refine hfree k ok hk hki ?_ hno
        by_cases hjk : j = k
        · subst hjk; exact hjun
        · rw [getD_set_ne true hjk] at hun; exact hun
      refine wpOp_mono (fun a' w' h3 => ⟨h3.2.1, ih (listed.setIfInBounds j true) a' w' (hdc.set hoj hall) hfree' (ready_mono hr (Ne.symm hji)) h3.1 h3.2.1.2 ?_⟩) h2
      rw [Array.setIfInBounds_comm _ _ hji]
      exact h3.2.2
end
section
variable (P : Program) (T : List (Nat × Ty)) (nt : Nt)
/-- An operation that yields whatever becomes of own objects. -/
def vcYF (o : Oper) (tm : List (Nat × SV)) (ob : List (Nat × Ob)) (K : Kt) : Prop := match vcY P T o.op tm [] (fun s => putT nt o.dst s tm ob K) with
  | some p => p
  | none => False
def vcYS (fr : Bool) (o : Oper) (tm : List (Nat × SV)) (ob : List (Nat × Ob)) (K : Kt) : Prop := match fr with
  | true => vcYF P T nt o tm ob K
  | false => vcYP P T nt o tm ob K
def vcRF (late free : List Nat) (ops : Array Oper) (K : Kt) : List (Nat × Bool) → Kt
  | [], tm, ob => K tm ob
  | (i, y) :: r, tm, ob => match nth ops.toList i with
    | none => False
    | some o => match o.guard with
      | none => match y with
        | true => vcYS P T nt (free.contains i) o tm ob (vcRF late free ops K r)
        | false => vcOpK P T nt (!late.contains i) o tm ob (vcRF late free ops K r)
      | some (j, want) => match gdT ops j with
        | none => False
        | some t => match lk t tm with
          | some (.d (.u (.bool b))) => match y with
            | true => match want with
              | true => Brn b (vcYS P T nt (free.contains i) o tm ob (vcRF late free ops K r)) (skipT nt o.dst tm ob (vcRF late free ops K r))
              | false => Brn b (skipT nt o.dst tm ob (vcRF late free ops K r)) (vcYS P T nt (free.contains i) o tm ob (vcRF late free ops K r))
            | false => match want with
              | true => Brn b (vcOpK P T nt (!late.contains i) o tm ob (vcRF late free ops K r)) (skipT nt o.dst tm ob (vcRF late free ops K r))
              | false => Brn b (skipT nt o.dst tm ob (vcRF late free ops K r)) (vcOpK P T nt (!late.contains i) o tm ob (vcRF late free ops K r))
          | some (.t []) => skipT nt o.dst tm ob (vcRF late free ops K r)
          | _ => False
end
def ordOkF (ops : Array Oper) (late free : List Nat) : Array Bool → List (Nat × Bool) → Bool
  | listed, [] => Region.ready .any ops listed == []
  | listed, (i, true) :: r => (bif free.contains i then regOk ops listed [] i else regOk ops listed late i) && (dstAt ops i && ordOkF ops late free (listed.setIfInBounds i true) r)
  | listed, (i, false) :: r => (Region.ready .any ops listed == [i]) && ((bif late.contains i then allLate late r && (List.range ops.size).all (fun j => listed.getD j true || (late.contains j && !free.contains j)) else keepAt ops i && !free.contains i) && ordOkF ops late free (listed.setIfInBounds i true) r)
section
variable {P : Program} {T : List (Nat × Ty)} [hT : Tys P T] {nt : Nt} {ops : Array Oper} {Q : Exit → Act → World → Prop} {late free : List Nat} {c : Cx} {K : Kt}
/-- What stays in a step, seen from the step's own start. -/
theorem Gd.recx {st : St} {tm : List (Nat × Value)} {h : Hs} {ρ : Rho} {G : FG} (g : Gd c st tm h ρ G) : Gd ⟨h.F, h.w0, G⟩ st tm h ρ G := ⟨fun _ h => h, Same.refl _ _, g.gF, fun _ h => .inl h, .refl _, g.tm, g.ob⟩
theorem Gd.back {st st' : St} {tm tm' : List (Nat × Value)} {h h' : Hs} {ρ ρ' : Rho} {G G' : FG} (g : Gd c st tm h ρ G) (g' : Gd ⟨h.F, h.w0, G⟩ st' tm' h' ρ' G') : Gd c st' tm' h' ρ' G' :=
  ⟨fun b hb => g'.fF b (g.fF b hb), g.fw.trans (g'.fw.mono g.fF), g'.gF, fun b hb => (g'.gx b hb).elim (g.gx b) fun q => .inr fun h0 => q (g.fF b h0), g.fm.trans g'.fm, g'.tm, g'.ob⟩
abbrev Frn (h : Hs) (w : World) : Prop := Hp ⟨h.F, h.w0, []⟩ w
theorem Hp.frn {h : Hs} {w : World} (hw : Hp h w) : Frn h w := ⟨hw.same, hw.inF, fun b x hx => (by cases hx), (by simp), fun b x hx => (by cases hx)⟩
theorem Frn.back {st' : St} {tm' : List (Nat × Value)} {h h' : Hs} {ρ' : Rho} {G G' : FG} {w0 w : World} (h0 : Hp h w0) (g' : Gd ⟨h.F, h.w0, G⟩ st' tm' h' ρ' G') (hw : Frn h' w) : Frn h w :=
  ⟨g'.fw.trans (hw.same.mono g'.fF), h0.inF, fun b x hx => (by cases hx), (by simp), fun b x hx => (by cases hx)⟩
end
end Go.Proofs.YtabmcfnefjipbaaGreatDoor

/-
  The layer of trees: regions that draw their order: first what reads frozen memory alone, then all orders of the rest. Of no program.
-/
namespace Go.Proofs.YtabmcfnefjipbaaGreatDoor
open Go.RowKit
section
variable (P : Program) (T : List (Nat × Ty)) (nt : Nt)
def vcPf (ops : Array Oper) (K : Kt) (t : OT) : List Nat → Kt
  | [], tm, ob => vcOT P T nt ops K t tm ob
  | i :: r, tm, ob => match nth ops.toList i with
    | none => False
    | some o => match o.guard with
      | none => vcYF P T nt o tm ob (vcPf ops K t r)
      | some _ => False
end
def ordOkP (ops : Array Oper) (late free : List Nat) (t : OT) : Array Bool → List Nat → Bool
  | listed, [] => t.chk ops true listed && (List.range ops.size).all (fun j => listed.getD j true || (late.contains j && !free.contains j))
  | listed, i :: r => (free.contains i && regOk ops listed [] i) && (dstAt ops i && ordOkP ops late free t (listed.setIfInBounds i true) r)
section
variable {P : Program} {T : List (Nat × Ty)} [hT : Tys P T] {nt : Nt} {ops : Array Oper} {Q : Exit → Act → World → Prop} {late free : List Nat} {c : Cx} {K : Kt}
theorem vcOTX_sound (hK : ∀ st tm h ρ G, Gd c st tm h ρ G → K st.tm st.ob → AWq nt Q .normal tm h) : ∀ (t : OT) (listed : Array Bool) (fuel : Nat) (S : World → Prop) (st : St) (tm : List (Nat × Value)) (h : Hs) (ρ : Rho) (G : FG), t.depth ≤ fuel → (∀ j, listed.getD j true = false → late.contains j = true ∧ free.contains j = false) → Gd c st tm h ρ G → vcOT P T nt ops K t st.tm st.ob → ∀ (a : Act) (w : World), Slt nt tm a → Hp h w →
    (t.chk ops true listed = true → wpAnyX P .any ops Q S (Frn h) late free fuel listed a w) ∧ (∀ f, fuel = f + 1 → t.chk ops false listed = true → ∀ i ∈ t.heads, listed.getD i true = false → wpOp P ops Q i (fun a' w' => (((free.contains i = true → w' = w) ∧ (late.contains i = false → free.contains i = false → S w')) ∧ Frn h w') ∧ wpAnyX P .any ops Q S (Frn h) late free f (listed.setIfInBounds i true) a' w') a w)
  | .nil, listed, fuel, S, st, tm, h, ρ, G, hf, hlt, g, k, a, w, ha, hw => by
    refine ⟨fun hc => ?_, fun f _ _ i hi => by cases hi⟩
    have hr : Region.ready .any ops listed = [] := by simpa [OT.chk] using hc
    have hq := (hK st tm h ρ G g k).out a w ha hw
    cases fuel with
    | zero => exact ⟨hr, hq⟩
    | succ n => exact ⟨fun _ => hq, by rw [hr]; simp⟩
  | .alt i s r, listed, fuel, S, st, tm, h, ρ, G, hf, hlt, g, k, a, w, ha, hw => by
    obtain ⟨k1, k2⟩ := vcOT_alt k
    simp only [OT.depth] at hf
    have two : ∀ f, fuel = f + 1 → (OT.alt i s r).chk ops false listed = true → ∀ j ∈ (OT.alt i s r).heads, listed.getD j true = false → wpOp P ops Q j (fun a' w' => (((free.contains j = true → w' = w) ∧ (late.contains j = false → free.contains j = false → S w')) ∧ Frn h w') ∧ wpAnyX P .any ops Q S (Frn h) late free f (listed.setIfInBounds j true) a' w') a w := by
      intro f hfu hc j hj hun
      simp only [OT.chk, cond_false, Bool.true_and, Bool.and_eq_true] at hc
      rcases List.mem_cons.1 hj with rfl | hj
      · obtain ⟨lt1, lt2⟩ := hlt j hun
        have hlt' : ∀ q, (listed.setIfInBounds j true).getD q true = false → late.contains q = true ∧ free.contains q = false := fun q hq => hlt q (by
          by_cases hjq : j = q
          · subst hjq; exact hun
          · rw [getD_set_ne true hjq] at hq; exact hq)
        exact vcG_sound g.recx k1 (fun tm' h' ⟨st', ρ', G', h2, hh, g', k'⟩ a' w' ha' hw' => ⟨⟨⟨fun hn => (by rw [lt2] at hn; cases hn), fun hn => (by rw [lt1] at hn; cases hn)⟩, Frn.back hw g' (hh w' hw').frn⟩,
          wpAnyX_mono (fun _ h => h) (fun w2 hw2 => Frn.back hw g' hw2) _ _ _ _ ((vcOTX_sound hK s _ f S st' tm' h2 ρ' G' (by omega) hlt' (g.back g') k' a' w' ha' (hh w' hw')).1 hc.1)⟩) a w ha hw
      · have hne : r ≠ .nil := fun e => by subst e; cases hj
        exact (vcOTX_sound hK r listed fuel S st tm h ρ G (by omega) hlt g (k2 hne) a w ha hw).2 f hfu hc.2 j hj hun
    refine ⟨fun hc => ?_, two⟩
    simp only [OT.chk, cond_true, Bool.and_eq_true] at hc
    have hr : Region.ready .any ops listed = (OT.alt i s r).heads := eq_of_beq hc.1
    cases fuel with
    | zero => omega
    | succ n =>
      refine ⟨fun h' => (by rw [hr] at h'; cases h'), fun j hj => ?_⟩
      have hun := (mem_ready.1 hj).1
      rw [hr] at hj
      exact two n rfl (by simp only [OT.chk, cond_false, Bool.true_and, Bool.and_eq_true]; exact hc.2) j hj hun
theorem vcPf_sound [q : PanicOk Q] (hK : ∀ st tm h ρ G, Gd c st tm h ρ G → K st.tm st.ob → AWq nt Q .normal tm h) (t : OT) : ∀ (r : List Nat) (listed : Array Bool) (fuel : Nat) (st : St) (tm : List (Nat × Value)) (h : Hs) (ρ : Rho) (G : FG), r.length + t.depth ≤ fuel → ordOkP ops late free t listed r = true → DC .any ops listed → listed.size = ops.size → Gd c st tm h ρ G → vcPf P T nt ops K t r st.tm st.ob →
    ∀ (a : Act) (w : World), Slt nt tm a → Hp h w → wpAnyX P .any ops Q (Hp h) (Frn h) late free fuel listed a w
  | [], listed, fuel, st, tm, h, ρ, G, hf, ho, hdc, hsz, g, k, a, w, ha, hw => by
    simp only [ordOkP, Bool.and_eq_true] at ho
    refine (vcOTX_sound hK t listed fuel _ st tm h ρ G (by simpa using hf) (fun j hj => ?_) g k a w ha hw).1 ho.1
    have hjs : j < ops.size := by
      rcases Nat.lt_or_ge j listed.size with h' | h'
      · omega
      · simp [Array.getElem?_eq_none h'] at hj
    have := List.all_eq_true.1 ho.2 j (List.mem_range.2 hjs)
    simp only [hj, Bool.false_or, Bool.and_eq_true, Bool.not_eq_true'] at this
    exact this
  | i :: r, listed, 0, st, tm, h, ρ, G, hf, ho, _, _, g, k, a, w, ha, hw => by simp at hf
  | i :: r, listed, fuel + 1, st, tm, h, ρ, G, hf, ho, hdc, hsz, g, k, a, w, ha, hw => by
    simp only [ordOkP, Bool.and_eq_true, regOk] at ho
    obtain ⟨⟨hfr, b1, b2, b3, _⟩, hds, ho⟩ := ho
    have hr' : i ∈ Region.ready .any ops listed := by simpa using b3
    obtain ⟨_, o, hoj, hdep⟩ := mem_ready.1 hr'
    have hdc' := hdc.set hoj hdep
    have hsz' : (listed.setIfInBounds i true).size = ops.size := by simp [hsz]
    have hdd : ∃ d, o.dst = some d := by
      simp only [dstAt, hoj] at hds
      exact Option.isSome_iff_exists.1 hds
    obtain ⟨d0, hd0⟩ := hdd
    have hf' : r.length + t.depth ≤ fuel := by simp at hf; omega
    have hn : nth ops.toList i = some o := by rw [nth_eq]; simpa using hoj
    simp only [vcPf, hn] at k
    obtain ⟨d, op, ty, pos, af, gu⟩ := o
    simp only at hd0
    subst hd0
    cases gu with
    | some x => exact k.elim
    | none =>
      simp only [vcYF] at k
      cases hy : vcY P T op st.tm [] (fun s => putT nt (some d0) s st.tm st.ob (vcPf P T nt ops K t r)) with
      | none => simp only [hy] at k
      | some p =>
        simp only [hy] at k
        have g0 : Gd c ⟨st.tm, []⟩ tm ⟨h.F, h.w0, []⟩ ρ G := ⟨g.fF, g.fw, g.gF, g.gx, g.fm, g.tm, rfl⟩
        obtain ⟨s, v, q1, q2, q3⟩ := vcY_sound g0 hy k (P := P) (nt := nt) (ty := ty) (pos := pos) (af := af) (gd := none) (d := some d0)
        simp only [putT] at q3
        cases hd : Nat.blt d0 nt
        · rw [hd] at q3; exact q3.elim
        · rw [hd] at q3
          have hrest := vcPf_sound hK t r _ fuel _ _ h ρ G hf' ho hdc' hsz' (g.put (d := d0) q2) q3 _ w (ha.put (by simpa using hd) v) hw
          exact wpAnyX_free hoj (Region.noSelect_spec b1) (fun c a w hq => q.ok c a _ _ w hq) hfr fuel listed a w hdc (Region.free_spec hoj b2) hr' (.inl ⟨rfl, fun w' hw' => q1.out a w' ha hw'⟩) hw.frn hrest
/-- A region that draws: first what reads frozen memory alone, then all orders of the rest. -/
theorem Drw.ofP {i : Nat} {tmT : List (Nat × SV)} {ob : List (Nat × Ob)} (late free : List Nat) (r : List Nat) (t : OT) (ho : (Nat.ble (r.length + t.depth) ops.size && ordOkP ops late free t (Array.replicate ops.size false) r) = true) (k : vcPf P T nt ops K t r tmT ob) : Drw P nt i ops K tmT ob :=
  ⟨fun c tm h ρ G g Q q hK hnd => ⟨fun a w ha hw => Cw.region_any q.no hT.mo hnd (wpAny_of_X (S := Hp h) (S1 := Frn h) (late := late) (free := free) _ _ _ _ (by
    simp only [Bool.and_eq_true, Nat.ble_eq] at ho
    exact vcPf_sound hK t r _ _ ⟨tmT, ob⟩ tm h ρ G ho.1 ho.2 DC.start (by simp) g k a { w with drawn := w.drawn + 1 } ha (hw.drawn _)))⟩⟩
end
end Go.Proofs.YtabmcfnefjipbaaGreatDoor
namespace Go.Proofs.YtabmcfnefjipbaaGreatDoor
open Go.RowKit
theorem Ghost.le {tm : List (Nat × SV)} {ob : List (Nat × Ob)} {src : Src} {S : St} (l : LeSt src ⟨tm, ob⟩ S) : Ghost tm ob S.tm S.ob := ⟨fun _ _ _ _ _ w g hw => by
  obtain ⟨h', h1, h2⟩ := g.le l
  exact ⟨h', _, _, h2, h1 w hw⟩⟩
/-- Many ways meet. -/
theorem cutR {ι : Type} (Φ : ι → Prop) (S : ι → St) {G : Prop} (R : Kt) (main : (∀ x, Φ x → R (S x).tm (S x).ob) → G) (rest : ∀ x, Φ x → R (S x).tm (S x).ob) : G := main rest
theorem Gs.cut {ι : Type} {Φ : ι → Prop} {S : ι → St} {R X : Kt} {i : Nat} {tm : List (Nat × SV)} {ob : List (Nat × Ob)} (hR : ∀ x, Φ x → R (S x).tm (S x).ob) (x : ι) (src : Src) (hX : X = R) (l : LeSt src ⟨tm, ob⟩ (S x)) (hx : Φ x) : Gs i X tm ob := .go (Ghost.le l) (by rw [hX]; exact hR x hx)
theorem Drw.cut {P : Program} {nt : Nt} {i : Nat} {ops : Array Oper} {K : Kt} {ι : Type} {Φ : ι → Prop} {S : ι → St} {R : Kt} {tm : List (Nat × SV)} {ob : List (Nat × Ob)} (hR : ∀ x, Φ x → R (S x).tm (S x).ob) (x : ι) (src : Src) (hX : Drw P nt i ops K = R) (l : LeSt src ⟨tm, ob⟩ (S x)) (hx : Φ x) : Drw P nt i ops K tm ob := .ghost (Ghost.le l) (by have := hR x hx; rw [← hX] at this; exact this)
section
variable {P : Program} {T : List (Nat × Ty)} [hT : Tys P T] {nt : Nt} {Q : Exit → Act → World → Prop} {ty : TypeId} {pos : String} {af : Array Edge} {gd : Option (Nat × Bool)} {K : Kt}
/-- A new own map. -/
theorem makeMap_sound {c : Cx} {st : St} {tm : List (Nat × Value)} {h : Hs} {ρ : Rho} {G : FG} (g : Gd c st tm h ρ G) {t d : Nat} {r : Option Operand} {kg vg : Bool} (hr : r = none ∨ ∃ y q n ti kt et, r = some y ∧ evT st.tm y = some (.d (.u (.int q n))) ∧ lk t T = some ti ∧ ti.k = .mp kt et) (hd : Nat.blt d nt = true) (hn : newN d st.tm st.ob = true) (k : K ((d, .d (.mp d)) :: st.tm) ((d, .mp kg vg []) :: st.ob)) : OpS P nt Q ⟨some d, .makeMap t r, ty, pos, af, gd⟩ tm h (Kk h c K) := by
  obtain ⟨F, w0, hp⟩ := h
  refine .of_run hd fun a w ha hw => ?_
  have hb : HasB (w.alloc (.map #[] 0)) w.heap.size ⟨0, [], .m []⟩ := ⟨rfl, #[], 0, by rw [heap_alloc_new], rfl, .nil _⟩
  have hw' : Hp ⟨F, w0, (w.heap.size, ⟨0, [], .m []⟩) :: hp⟩ (w.alloc (.map #[] 0)) := hw.add ((Below.refl _ _).alloc (Nat.le_refl _) _) (Nat.le_refl _) hb
  have hob : ObOk (upd ρ d ⟨some ⟨w.heap.size, 0, none⟩, 1, 0⟩) ⟨G, w0⟩ d (.mp kg vg []) [(w.heap.size, ⟨0, [], .m []⟩)] := ⟨_, _, rfl, upd_self, rfl, fun j e p h1 _ => by simp at h1⟩
  refine ⟨.map (some w.heap.size), _, _, ?_, hw', .of (fun w' hw' => hw'.sub (List.sublist_cons_self _ _)) ((g.new hn hob).put (.d (.mp (l := ⟨some ⟨w.heap.size, 0, none⟩, 1, 0⟩) upd_self rfl))) k⟩
  rcases hr with rfl | ⟨y, q, n, ti, kt, et, rfl, hy, ht, hk⟩
  · simp [execOp, Instr.makeMap, newObj, Sem.run]
  · have hund : P.underlying t = some (.map kt et) := by have := (hT.ok t ti ht).kind; rw [hk] at this; exact this
    simp [execOp, Instr.makeMap, newObj, Sem.run, ha.ev (evT_int g hy), run_underlying hund, asInt, asIntOf]
theorem Raw.makeMap {t d : Nat} {r : Option Operand} {kt et : TypeId} {i ik ie : Ty} {kg vg : Bool} {tmT : List (Nat × SV)} {ob : List (Nat × Ob)} (ht : lk t T = some i) (hk : i.k = .mp kt et) (hkt : lk kt T = some ik) (het : lk et T = some ie) (hkg : ik.k.agg = kg) (hvg : ie.k.agg = vg) (hr : r = none ∨ ∃ y q n, r = some y ∧ evT tmT y = some (.d (.u (.int q n)))) (hd : Nat.blt d nt = true) (hn : newN d tmT ob = true) (k : K ((d, .d (.mp d)) :: tmT) ((d, .mp kg vg []) :: ob)) : Raw P nt ⟨some d, .makeMap t r, ty, pos, af, gd⟩ tmT ob K := ⟨fun Q c tm h ρ G g =>
  (makeMap_sound (T := T) (st := ⟨tmT, ob⟩) g (by
    rcases hr with h | ⟨y, q, n, h1, h2⟩
    · exact .inl h
    · exact .inr ⟨y, q, n, i, kt, et, h1, h2, ht, hk⟩) hd hn k).mono fun _ _ h => h.kd⟩
theorem sameBits_T {z : Fz} {kk : Tk} {x y : V} {u v : Value} (hx : keyC kk x = true) (hy : keyC kk y = true) (he : eqC x y = true) (h1 : DenV z x u) (h2 : DenV z y v) : Instr.sameBits 10000 v u = true := by
  cases kk <;> simp only [keyC] at hx <;> try cases hx
  · cases x <;> simp only [keyC] at hx <;> try cases hx
    cases y <;> simp only [keyC] at hy <;> try cases hy
    have e1 := ikEqT_eq hx
    have e2 := ikEqT_eq hy
    subst e1 e2
    cases h1; cases h2
    simp only [eqC, decide_eq_true_eq] at he
    subst he
    simp [Instr.sameBits]
  · cases x <;> simp only [keyC] at hx <;> try cases hx
    cases y <;> simp only [keyC] at hy <;> try cases hy
    cases h1; cases h2
    simp only [eqC, beq_iff_eq] at he
    subst he
    simp [Instr.sameBits]
  · cases x <;> simp only [keyC] at hx <;> try cases hx
    cases y <;> simp only [keyC] at hy <;> try cases hy
    cases h1; cases h2
    simp only [eqC, decide_eq_true_eq] at he
    subst he
    simp [Instr.sameBits, bytesT_beq]
/-- An entry is put into an own map. -/
theorem mapUpdate_run {z : Fz} {w : World} {b t kt et : Nat} {i ik : Ty} {vg : Bool} {es : List (List V × List V)} {vs : List (Value × Value)} {y : V} {row : List V} {u v : Value} (ht : lk t T = some i) (hk : i.k = .mp kt et) (hkt : lk kt T = some ik) (hw : HasB w b ⟨0, [], .m vs⟩) (he : EntsOk z false vg es vs) (hy : keyC ik.k y = true) (hu : DenV z y u) (hv : DenW z vg row v) (hok : ∀ e ∈ es, keyT ik.k e.1 = true) :
    ∃ w' vs', (Instr.mapUpdate t (.map (some b)) u v).run P w = .ok () w' ∧ Same (· ≠ b) w w' ∧ HasB w' b ⟨0, [], .m vs'⟩ ∧ EntsOk z false vg (mputT es [y] row) vs' := by
  obtain ⟨dd, hdd, hchk⟩ := keyC_und (hT.ok kt ik hkt) hy
  have hund : P.underlying t = some (.map kt et) := by have := (hT.ok t i ht).kind; rw [hk] at this; exact this
  obtain ⟨_, arr, clock, q1, q2, q3⟩ := hw
  have hlen : arr.toList.length = es.length := by rw [← he.len, ← q2, List.length_map]
  have hfind := findNow_T (hT.ok kt ik hkt) hdd hy hu es arr.toList 0 hlen (fun j e m h1 h2 => (he.den j e (m.key, m.val) h1 (by rw [← q2, List.getElem?_map, h2]; rfl)).1) hok
  obtain ⟨m1, m2, m3, m4⟩ := mixT_get (x := [y]) es
  have hlt : b < w.heap.size := by
    rcases Nat.lt_or_ge b w.heap.size with h | h
    · exact h
    · rw [Array.getElem?_eq_none h] at q1; cases q1
  have key : ∀ (o : Obj), Same (· ≠ b) w { w with heap := w.heap.setIfInBounds b o } := fun o =>
    ⟨rfl, rfl, rfl, by simp, fun j hj => by simp only; rw [Array.getElem?_setIfInBounds_ne]; exact fun e => hj e.symm⟩
  cases hj : mixT es [y] with
  | none =>
    rw [hj] at hfind
    refine ⟨_, vs ++ [(u, v)], by simp [Instr.mapUpdate, run_underlying hund, run_underlying hdd, getObj, setObj, Sem.run, q1, hchk, Instr.findKey, hfind]; rfl, key _, ⟨rfl, arr.push { key := u, val := v, born := clock }, clock + 1, by simp [hlt], by simp [q2], q3.push _ _⟩, ?_⟩
    rw [m4, hj]
    refine ⟨by simp [he.len], fun j e p h1 h2 => ?_⟩
    rcases Nat.lt_or_ge j es.length with hlt' | hge
    · rw [List.getElem?_append_left hlt'] at h1
      rw [List.getElem?_append_left (by rw [he.len]; exact hlt')] at h2
      exact he.den j e p h1 h2
    · rw [List.getElem?_append_right hge] at h1
      rw [List.getElem?_append_right (by rw [he.len]; exact hge), he.len] at h2
      rcases hjj : j - es.length with _ | n
      · rw [hjj] at h1 h2; simp at h1 h2; subst h1 h2; exact ⟨⟨y, rfl, hu⟩, hv⟩
      · rw [hjj] at h1; simp at h1
  | some j =>
    rw [hj] at hfind
    have hjl := m3 j hj
    obtain ⟨e, he1⟩ : ∃ e, es[j]? = some e := ⟨_, List.getElem?_eq_getElem hjl⟩
    obtain ⟨m, hm1⟩ : ∃ m, arr.toList[j]? = some m := ⟨_, List.getElem?_eq_getElem (by rw [hlen]; exact hjl)⟩
    have hm2 : arr[j]? = some m := by rw [← Array.getElem?_toList]; exact hm1
    have hp1 : vs[j]? = some (m.key, m.val) := by rw [← q2, List.getElem?_map, hm1]; rfl
    have hden := (he.den j e _ he1 hp1).1
    obtain ⟨y', e1, e2⟩ := hden
    obtain ⟨y'', e3, e4⟩ := keyT_one (hok e (List.mem_of_getElem? he1))
    rw [e1] at e3
    injection e3 with e3 _; subst e3
    have heq : eqC y y' = true := by
      have : ∀ (es : List (List V × List V)) (j : Nat) e, mixT es [y] = some j → es[j]? = some e → eqCs [y] e.1 = true := by
        intro es
        induction es with
        | nil => intro j e h; cases h
        | cons a r ih =>
          intro j e h h'
          simp only [mixT] at h
          cases hq : eqCs [y] a.1 <;> rw [hq] at h
          · simp only [cond_false] at h
            cases hr : mixT r [y] with
            | none => rw [hr] at h; cases h
            | some n => rw [hr] at h; simp only [Option.some.injEq] at h; subst h; exact ih n e hr (by simpa using h')
          · simp only [cond_true, Option.some.injEq] at h
            subst h
            simp at h'
            subst h'
            exact hq
      have := this es j e hj he1
      rw [e1, eqCs_one] at this
      exact this
    have hsb : Instr.sameBits 10000 m.key u = true := sameBits_T hy e4 heq hu e2
    simp only [hm1, Option.map_some] at hfind
    refine ⟨_, vs.set j (u, v), by simp [Instr.mapUpdate, run_underlying hund, run_underlying hdd, getObj, setObj, Sem.run, q1, hchk, Instr.findKey, hfind, hm2, Instr.keyThatStays, hsb]; rfl, key _, ⟨rfl, arr.modify j fun e => { e with key := u, val := v }, clock, by simp [hlt], ?_, q3.modify _ _ fun _ => rfl⟩, ?_⟩
    · rw [← q2]
      apply List.ext_getElem?
      intro n
      simp only [List.getElem?_map, Array.getElem?_toList, Array.getElem?_modify, List.getElem?_set, List.length_map, Array.length_toList]
      by_cases hn : j = n
      · subst hn
        have : j < arr.size := by rw [← Array.length_toList, hlen]; exact hjl
        simp [hm2, this]
      · simp [hn]
    · rw [m4, hj]
      refine ⟨by simp [he.len], fun n e' p h1 h2 => ?_⟩
      simp only [List.getElem?_set] at h1 h2
      by_cases hn : j = n
      · subst hn
        have h3 : j < vs.length := by rw [he.len]; exact hjl
        simp [hjl] at h1
        simp [h3] at h2
        subst h1 h2
        exact ⟨⟨y, rfl, hu⟩, hv⟩
      · simp only [hn, if_false] at h1 h2
        exact he.den n e' p h1 h2
omit hT in
theorem denW_of {ρ : Rho} {z : Fz} {s : SV} {cs : List D} {vs : List V} {v : Value} (h : DenS ρ z s v) (hc : cellsOfT s = some cs) (hb : borL [] cs = some vs) : DenW z (aggS s) vs v := by
  cases h with
  | d h =>
    simp only [cellsOfT, Option.some.injEq] at hc
    subst hc
    have := borL_nil_den (z := z) hb (DenL.one_ h)
    have hl := this.len
    match vs, hl with
    | [x], _ => exact ⟨x, rfl, this.den 0 x v rfl rfl⟩
  | a h =>
    simp only [cellsOfT, Option.some.injEq] at hc
    subst hc
    exact ⟨_, rfl, borL_nil_den hb h⟩
  | t _ _ => simp [cellsOfT] at hc
theorem mapUpdate_sound {o : Op} {c : Cx} {st : St} {tm : List (Nat × Value)} {h : Hs} {ρ : Rho} {G : FG} (g : Gd c st tm h ρ G) {t kt et k : Nat} {x ix y : Operand} {i ik : Ty} {vg : Bool} {es : List (List V × List V)} {key : V} {sy : SV} {cs : List D} {vs : List V} (ho : o = .mapUpdate t x ix y ∨ o = .insert t x ix y) (ht : lk t T = some i) (hk : i.k = .mp kt et) (hkt : lk kt T = some ik) (hx : evT st.tm x = some (.d (.mp k))) (hko : lk k st.ob = some (.mp false vg es)) (hix : evT st.tm ix = some (.d (.u key))) (hy : evT st.tm y = some sy) (hc : cellsOfT sy = some cs) (hb : borL [] cs = some vs) (hg : aggS sy = vg) (hkey : keyC ik.k key = true) (hok : ∀ e ∈ es, keyT ik.k e.1 = true) (kk : K st.tm (obu k (.mp false vg (mputT es [key] vs)) st.ob)) : OpS P nt Q ⟨none, o, ty, pos, af, gd⟩ tm h (Kd c K) := by
  obtain ⟨F, w0, hp⟩ := h
  obtain ⟨vx, x1, x2⟩ := g.ev hx
  obtain ⟨vi, i1, i2⟩ := g.ev hix
  obtain ⟨vy, y1, y2⟩ := g.ev hy
  cases x2 with | d x2 => cases i2 with | d i2 => cases i2 with | u i2 =>
  obtain ⟨X, f, o1, o2, o3, _⟩ := g.ob.set hko
  obtain ⟨b, ves, rfl, rfl, m1, m2⟩ := o1.map o2 x2
  have hdv := denW_of y2 hc hb
  rw [hg] at hdv
  have hloc : ρ k = some ⟨some ⟨b, 0, none⟩, 1, 0⟩ := by
    obtain ⟨b', vs', e1, e2, _⟩ := o1
    injection e1 with e1 _; injection e1 with e1 _; subst e1; exact e2
  exact ⟨fun a w ha hw => by
    obtain ⟨w', vs', r1, r2, r3, r4⟩ := mapUpdate_run (P := P) (T := T) ht hk hkt (hw.blk b _ m1) m2 hkey i2 hdv hok
    have hrun : (execOp a.eval ⟨none, o, ty, pos, af, gd⟩).run P w = .ok .skip w' := by
      rcases ho with rfl | rfl <;> simp [execOp, ha.ev x1, ha.ev i1, ha.ev y1, r1]
    unfold Oper.wp
    rw [hrun]
    exact ⟨tm, _, ha, hw.upd (o2.updB rfl) r2 r3, .of (st := ⟨st.tm, obu k (.mp false vg (mputT es [key] vs)) st.ob⟩) ⟨g.fF, g.fw, g.gF, g.gx, g.fm, g.tm, o3 (.mp false vg _) _ ⟨b, vs', rfl, hloc, r4⟩⟩ kk⟩⟩
theorem Raw.mapUpdate {o : Op} {t kt et k : Nat} {x ix y : Operand} {i ik : Ty} {vg : Bool} {es : List (List V × List V)} {key : V} {sy : SV} {cs : List D} {vs : List V} {tmT : List (Nat × SV)} {ob : List (Nat × Ob)} (ho : o = .mapUpdate t x ix y ∨ o = .insert t x ix y) (ht : lk t T = some i) (hk : i.k = .mp kt et) (hkt : lk kt T = some ik) (hx : evT tmT x = some (.d (.mp k))) (hko : lk k ob = some (.mp false vg es)) (hix : evT tmT ix = some (.d (.u key))) (hy : evT tmT y = some sy) (hc : cellsOfT sy = some cs) (hb : borL [] cs = some vs) (hg : aggS sy = vg) (hkey : keyC ik.k key = true) (hok : ∀ e ∈ es, keyT ik.k e.1 = true) (kk : K tmT (obu k (.mp false vg (mputT es [key] vs)) ob)) : Raw P nt ⟨none, o, ty, pos, af, gd⟩ tmT ob K :=
  ⟨fun Q c tm h ρ G g => mapUpdate_sound (T := T) (st := ⟨tmT, ob⟩) g ho ht hk hkt hx hko hix hy hc hb hg hkey hok kk⟩
end
end Go.Proofs.YtabmcfnefjipbaaGreatDoor
namespace Go.Proofs.YtabmcfnefjipbaaGreatDoor
open Go.RowKit

def tt : List (Nat × Ty) := [
  (1, ⟨.ot, 1, 8, [.nilFunc]⟩),
  (2, ⟨.in_ .i64, 1, 8, [.int .i64 0]⟩),
  (3, ⟨.in_ .i64, 1, 8, [.int .i64 0]⟩),
  (4, ⟨.bo, 1, 1, [.bool false]⟩),
  (5, ⟨.in_ .u8, 1, 1, [.int .u8 0]⟩),
  (6, ⟨.in_ .u8, 1, 1, [.int .u8 0]⟩),
  (7, ⟨.st [(0, 2), (1, 3), (2, 4), (3, 6)], 4, 24, [.int .i64 0, .int .i64 0, .bool false, .int .u8 0]⟩),
  (8, ⟨.st [(0, 2), (1, 3), (2, 4), (3, 6)], 4, 24, [.int .i64 0, .int .i64 0, .bool false, .int .u8 0]⟩),
  (9, ⟨.sr, 1, 16, [.string ⟨#[]⟩]⟩),
  (10, ⟨.sr, 1, 16, [.string ⟨#[]⟩]⟩),
  (11, ⟨.sr, 1, 16, [.string ⟨#[]⟩]⟩),
  (12, ⟨.in_ .u64, 1, 8, [.int .u64 0]⟩),
  (13, ⟨.st [(0, 9), (1, 12)], 2, 24, [.string ⟨#[]⟩, .int .u64 0]⟩),
  (14, ⟨.st [(0, 9), (1, 12)], 2, 24, [.string ⟨#[]⟩, .int .u64 0]⟩),
  (15, ⟨.pt 246, 1, 8, [.pointer none]⟩),
  (16, ⟨.pt 249, 1, 8, [.pointer none]⟩),
  (17, ⟨.pt 257, 1, 8, [.pointer none]⟩),
  (18, ⟨.st [(0, 17)], 1, 8, [.pointer none]⟩),
  (19, ⟨.st [(0, 17)], 1, 8, [.pointer none]⟩),
  (20, ⟨.ot, 1, 16, [.nilIface]⟩),
  (21, ⟨.in_ .i32, 1, 4, [.int .i32 0]⟩),
  (22, ⟨.sl 58, 1, 24, [.slice none 0 0]⟩),
  (23, ⟨.sl 9, 1, 24, [.slice none 0 0]⟩),
  (24, ⟨.st [(0, 3), (1, 3)], 2, 16, [.int .i64 0, .int .i64 0]⟩),
  (25, ⟨.st [(0, 3), (1, 3)], 2, 16, [.int .i64 0, .int .i64 0]⟩),
  (27, ⟨.ot, 1, 8, [.nilFunc]⟩),
  (28, ⟨.ot, 1, 8, [.nilFunc]⟩),
  (29, ⟨.ot, 1, 8, [.nilFunc]⟩),
  (30, ⟨.ot, 1, 8, [.nilFunc]⟩),
  (31, ⟨.ot, 1, 8, [.nilFunc]⟩),
  (32, ⟨.ot, 1, 8, [.nilFunc]⟩),
  (33, ⟨.sl 62, 1, 24, [.slice none 0 0]⟩),
  (35, ⟨.ot, 1, 8, [.nilFunc]⟩),
  (36, ⟨.ot, 1, 8, [.nilFunc]⟩),
  (37, ⟨.ot, 1, 8, [.nilFunc]⟩),
  (39, ⟨.ot, 1, 8, [.nilFunc]⟩),
  (40, ⟨.ot, 1, 8, [.nilFunc]⟩),
  (41, ⟨.ot, 1, 8, [.nilFunc]⟩),
  (42, ⟨.sl 112, 1, 24, [.slice none 0 0]⟩),
  (44, ⟨.ot, 1, 8, [.nilFunc]⟩),
  (46, ⟨.ot, 1, 8, [.nilFunc]⟩),
  (47, ⟨.ot, 1, 8, [.nilFunc]⟩),
  (48, ⟨.ot, 1, 8, [.nilFunc]⟩),
  (49, ⟨.ot, 1, 8, [.nilFunc]⟩),
  (51, ⟨.ot, 1, 8, [.nilFunc]⟩),
  (52, ⟨.ot, 1, 8, [.nilFunc]⟩),
  (53, ⟨.ot, 1, 8, [.nilFunc]⟩),
  (54, ⟨.ot, 1, 8, [.nilFunc]⟩),
  (55, ⟨.ot, 1, 8, [.nilFunc]⟩),
  (56, ⟨.sl 147, 1, 24, [.slice none 0 0]⟩),
  (57, ⟨.st [(0, 3), (1, 9), (2, 9), (3, 3), (4, 3), (5, 3), (6, 9), (7, 56)], 8, 104, [.int .i64 0, .string ⟨#[]⟩, .string ⟨#[]⟩, .int .i64 0, .int .i64 0, .int .i64 0, .string ⟨#[]⟩, .slice none 0 0]⟩),
  (58, ⟨.st [(0, 3), (1, 9), (2, 9), (3, 3), (4, 3), (5, 3), (6, 9), (7, 56)], 8, 104, [.int .i64 0, .string ⟨#[]⟩, .string ⟨#[]⟩, .int .i64 0, .int .i64 0, .int .i64 0, .string ⟨#[]⟩, .slice none 0 0]⟩),
  (59, ⟨.ot, 1, 8, [.nilFunc]⟩),
  (60, ⟨.ot, 1, 8, [.nilFunc]⟩),
  (61, ⟨.st [(0, 9), (1, 3), (2, 9), (3, 9)], 4, 56, [.string ⟨#[]⟩, .int .i64 0, .string ⟨#[]⟩, .string ⟨#[]⟩]⟩),
  (62, ⟨.st [(0, 9), (1, 3), (2, 9), (3, 9)], 4, 56, [.string ⟨#[]⟩, .int .i64 0, .string ⟨#[]⟩, .string ⟨#[]⟩]⟩),
  (63, ⟨.ot, 1, 8, [.nilFunc]⟩),
  (64, ⟨.ot, 1, 8, [.nilFunc]⟩),
  (65, ⟨.sl 72, 1, 24, [.slice none 0 0]⟩),
  (67, ⟨.ot, 1, 8, [.nilFunc]⟩),
  (68, ⟨.ot, 1, 8, [.nilFunc]⟩),
  (69, ⟨.ot, 1, 8, [.nilFunc]⟩),
  (70, ⟨.ot, 1, 8, [.nilFunc]⟩),
  (71, ⟨.st [(0, 3), (1, 9)], 2, 24, [.int .i64 0, .string ⟨#[]⟩]⟩),
  (72, ⟨.st [(0, 3), (1, 9)], 2, 24, [.int .i64 0, .string ⟨#[]⟩]⟩),
  (73, ⟨.ot, 1, 8, [.nilFunc]⟩),
  (74, ⟨.mp 9 3, 1, 8, [.map none]⟩),
  (75, ⟨.ot, 1, 8, [.nilFunc]⟩),
  (76, ⟨.sl 3, 1, 24, [.slice none 0 0]⟩),
  (77, ⟨.ot, 1, 8, [.nilFunc]⟩),
  (78, ⟨.ot, 1, 8, [.nilFunc]⟩),
  (79, ⟨.sl 85, 1, 24, [.slice none 0 0]⟩),
  (80, ⟨.st [(0, 58), (8, 3), (9, 79)], 10, 136, [.int .i64 0, .string ⟨#[]⟩, .string ⟨#[]⟩, .int .i64 0, .int .i64 0, .int .i64 0, .string ⟨#[]⟩, .slice none 0 0, .int .i64 0, .slice none 0 0]⟩),
  (81, ⟨.st [(0, 58), (8, 3), (9, 79)], 10, 136, [.int .i64 0, .string ⟨#[]⟩, .string ⟨#[]⟩, .int .i64 0, .int .i64 0, .int .i64 0, .string ⟨#[]⟩, .slice none 0 0, .int .i64 0, .slice none 0 0]⟩),
  (82, ⟨.st [(0, 9), (1, 9)], 2, 32, [.string ⟨#[]⟩, .string ⟨#[]⟩]⟩),
  (83, ⟨.st [(0, 9), (1, 9)], 2, 32, [.string ⟨#[]⟩, .string ⟨#[]⟩]⟩),
  (84, ⟨.st [(0, 83), (2, 3)], 3, 40, [.string ⟨#[]⟩, .string ⟨#[]⟩, .int .i64 0]⟩),
  (85, ⟨.st [(0, 83), (2, 3)], 3, 40, [.string ⟨#[]⟩, .string ⟨#[]⟩, .int .i64 0]⟩),
  (86, ⟨.ot, 1, 8, [.nilFunc]⟩),
  (87, ⟨.ot, 1, 8, [.nilFunc]⟩),
  (88, ⟨.sl 96, 1, 24, [.slice none 0 0]⟩),
  (90, ⟨.ot, 1, 8, [.nilFunc]⟩),
  (91, ⟨.ot, 1, 8, [.nilFunc]⟩),
  (92, ⟨.sl 98, 1, 24, [.slice none 0 0]⟩),
  (94, ⟨.ot, 1, 8, [.nilFunc]⟩),
  (95, ⟨.st [(0, 9), (1, 9), (2, 3), (3, 3), (4, 3), (5, 3), (6, 3), (7, 3)], 8, 80, [.string ⟨#[]⟩, .string ⟨#[]⟩, .int .i64 0, .int .i64 0, .int .i64 0, .int .i64 0, .int .i64 0, .int .i64 0]⟩),
  (96, ⟨.st [(0, 9), (1, 9), (2, 3), (3, 3), (4, 3), (5, 3), (6, 3), (7, 3)], 8, 80, [.string ⟨#[]⟩, .string ⟨#[]⟩, .int .i64 0, .int .i64 0, .int .i64 0, .int .i64 0, .int .i64 0, .int .i64 0]⟩),
  (97, ⟨.st [(0, 9), (1, 3), (2, 3), (3, 3)], 4, 40, [.string ⟨#[]⟩, .int .i64 0, .int .i64 0, .int .i64 0]⟩),
  (98, ⟨.st [(0, 9), (1, 3), (2, 3), (3, 3)], 4, 40, [.string ⟨#[]⟩, .int .i64 0, .int .i64 0, .int .i64 0]⟩),
  (99, ⟨.ot, 1, 8, [.nilFunc]⟩),
  (100, ⟨.ot, 1, 8, [.nilFunc]⟩),
  (101, ⟨.ot, 1, 8, [.nilFunc]⟩),
  (102, ⟨.ot, 1, 8, [.nilFunc]⟩),
  (103, ⟨.ot, 1, 8, [.nilFunc]⟩),
  (104, ⟨.st [(0, 3), (1, 103)], 2, 16, [.int .i64 0, .nilFunc]⟩),
  (105, ⟨.st [(0, 3), (1, 103)], 2, 16, [.int .i64 0, .nilFunc]⟩),
  (107, ⟨.mp 9 105, 1, 8, [.map none]⟩),
  (108, ⟨.ot, 1, 8, [.nilFunc]⟩),
  (109, ⟨.ot, 1, 8, [.nilFunc]⟩),
  (110, ⟨.ot, 1, 8, [.nilFunc]⟩),
  (111, ⟨.st [(0, 9), (1, 9), (2, 3)], 3, 40, [.string ⟨#[]⟩, .string ⟨#[]⟩, .int .i64 0]⟩),
  (112, ⟨.st [(0, 9), (1, 9), (2, 3)], 3, 40, [.string ⟨#[]⟩, .string ⟨#[]⟩, .int .i64 0]⟩),
  (113, ⟨.ot, 1, 8, [.nilFunc]⟩),
  (114, ⟨.sl 164, 1, 24, [.slice none 0 0]⟩),
  (115, ⟨.ot, 1, 8, [.nilFunc]⟩),
  (116, ⟨.ot, 1, 8, [.nilFunc]⟩),
  (117, ⟨.ot, 1, 8, [.nilFunc]⟩),
  (118, ⟨.pt 120, 1, 8, [.pointer none]⟩),
  (119, ⟨.st [(0, 22), (1, 3), (2, 33)], 3, 56, [.slice none 0 0, .int .i64 0, .slice none 0 0]⟩),
  (120, ⟨.st [(0, 22), (1, 3), (2, 33)], 3, 56, [.slice none 0 0, .int .i64 0, .slice none 0 0]⟩),
  (121, ⟨.ot, 1, 8, [.nilFunc]⟩),
  (122, ⟨.ot, 1, 8, [.nilFunc]⟩),
  (123, ⟨.ot, 1, 8, [.nilFunc]⟩),
  (124, ⟨.ot, 1, 8, [.nilFunc]⟩),
  (125, ⟨.sl 4, 1, 24, [.slice none 0 0]⟩),
  (126, ⟨.sl 128, 1, 24, [.slice none 0 0]⟩),
  (127, ⟨.st [(0, 9), (1, 4)], 2, 24, [.string ⟨#[]⟩, .bool false]⟩),
  (128, ⟨.st [(0, 9), (1, 4)], 2, 24, [.string ⟨#[]⟩, .bool false]⟩),
  (129, ⟨.ot, 1, 8, [.nilFunc]⟩),
  (130, ⟨.ot, 1, 8, [.nilFunc]⟩),
  (131, ⟨.pt 134, 1, 8, [.pointer none]⟩),
  (132, ⟨.sl 5, 1, 24, [.slice none 0 0]⟩),
  (133, ⟨.st [(0, 131), (1, 132)], 2, 32, [.pointer none, .slice none 0 0]⟩),
  (134, ⟨.st [(0, 131), (1, 132)], 2, 32, [.pointer none, .slice none 0 0]⟩),
  (135, ⟨.ot, 1, 8, [.nilFunc]⟩),
  (136, ⟨.ot, 1, 16, [.nilIface]⟩),
  (137, ⟨.ot, 1, 16, [.nilIface]⟩),
  (139, ⟨.ot, 1, 8, [.nilFunc]⟩),
  (140, ⟨.ot, 1, 8, [.nilFunc]⟩),
  (141, ⟨.mp 83 3, 1, 8, [.map none]⟩),
  (142, ⟨.pt 3, 1, 8, [.pointer none]⟩),
  (143, ⟨.ar 5 142, 5, 40, [.pointer none, .pointer none, .pointer none, .pointer none, .pointer none]⟩),
  (144, ⟨.mp 83 4, 1, 8, [.map none]⟩),
  (145, ⟨.ot, 1, 8, [.nilFunc]⟩),
  (146, ⟨.st [(0, 9), (1, 9)], 2, 32, [.string ⟨#[]⟩, .string ⟨#[]⟩]⟩),
  (147, ⟨.st [(0, 9), (1, 9)], 2, 32, [.string ⟨#[]⟩, .string ⟨#[]⟩]⟩),
  (148, ⟨.mp 151 149, 1, 8, [.map none]⟩),
  (149, ⟨.pt 98, 1, 8, [.pointer none]⟩),
  (150, ⟨.st [(0, 9), (1, 3)], 2, 24, [.string ⟨#[]⟩, .int .i64 0]⟩),
  (151, ⟨.st [(0, 9), (1, 3)], 2, 24, [.string ⟨#[]⟩, .int .i64 0]⟩),
  (152, ⟨.ot, 1, 8, [.nilFunc]⟩),
  (153, ⟨.ot, 1, 8, [.nilFunc]⟩),
  (154, ⟨.ot, 1, 8, [.nilFunc]⟩),
  (155, ⟨.ot, 1, 8, [.nilFunc]⟩),
  (156, ⟨.ot, 1, 8, [.nilFunc]⟩),
  (157, ⟨.ot, 1, 8, [.nilFunc]⟩),
  (158, ⟨.sl 83, 1, 24, [.slice none 0 0]⟩),
  (159, ⟨.ot, 1, 8, [.nilFunc]⟩),
  (160, ⟨.ot, 1, 8, [.nilFunc]⟩),
  (161, ⟨.ot, 1, 8, [.nilFunc]⟩),
  (162, ⟨.ot, 1, 8, [.nilFunc]⟩),
  (163, ⟨.st [(0, 112), (3, 3)], 4, 48, [.string ⟨#[]⟩, .string ⟨#[]⟩, .int .i64 0, .int .i64 0]⟩),
  (164, ⟨.st [(0, 112), (3, 3)], 4, 48, [.string ⟨#[]⟩, .string ⟨#[]⟩, .int .i64 0, .int .i64 0]⟩),
  (166, ⟨.ot, 1, 8, [.nilFunc]⟩),
  (167, ⟨.ot, 1, 8, [.nilFunc]⟩),
  (168, ⟨.ot, 1, 8, [.nilFunc]⟩),
  (169, ⟨.ot, 1, 8, [.nilFunc]⟩),
  (170, ⟨.ot, 1, 8, [.nilFunc]⟩),
  (171, ⟨.ot, 1, 8, [.nilFunc]⟩),
  (172, ⟨.ot, 1, 8, [.nilFunc]⟩),
  (173, ⟨.pt 5, 1, 8, [.pointer none]⟩),
  (174, ⟨.ot, 1, 8, [.nilFunc]⟩),
  (175, ⟨.ot, 1, 8, [.nilFunc]⟩),
  (176, ⟨.ot, 1, 8, [.nilFunc]⟩),
  (177, ⟨.in_ .u64, 1, 8, [.int .u64 0]⟩),
  (178, ⟨.ot, 1, 8, [.nilFunc]⟩),
  (179, ⟨.ot, 1, 8, [.nilFunc]⟩),
  (180, ⟨.ot, 1, 8, [.nilFunc]⟩),
  (181, ⟨.ot, 1, 8, [.nilFunc]⟩),
  (182, ⟨.ot, 1, 8, [.nilFunc]⟩),
  (183, ⟨.ot, 1, 8, [.nilFunc]⟩),
  (184, ⟨.ot, 1, 8, [.nilFunc]⟩),
  (186, ⟨.ot, 1, 8, [.nilFunc]⟩),
  (187, ⟨.ot, 1, 8, [.nilFunc]⟩),
  (188, ⟨.ar 24 5, 24, 24, [.int .u8 0, .int .u8 0, .int .u8 0, .int .u8 0, .int .u8 0, .int .u8 0, .int .u8 0, .int .u8 0, .int .u8 0, .int .u8 0, .int .u8 0, .int .u8 0, .int .u8 0, .int .u8 0, .int .u8 0, .int .u8 0, .int .u8 0, .int .u8 0, .int .u8 0, .int .u8 0, .int .u8 0, .int .u8 0, .int .u8 0, .int .u8 0]⟩),
  (189, ⟨.in_ .u64, 1, 8, [.int .u64 0]⟩),
  (190, ⟨.ot, 1, 8, [.nilFunc]⟩),
  (191, ⟨.ot, 1, 8, [.nilFunc]⟩),
  (193, ⟨.ot, 1, 8, [.nilFunc]⟩),
  (194, ⟨.ot, 1, 8, [.nilFunc]⟩),
  (195, ⟨.in_ .i64, 1, 8, [.int .i64 0]⟩),
  (197, ⟨.ot, 1, 8, [.nilFunc]⟩),
  (198, ⟨.ot, 1, 8, [.nilFunc]⟩),
  (199, ⟨.ot, 1, 8, [.nilFunc]⟩),
  (200, ⟨.ot, 1, 8, [.nilFunc]⟩),
  (201, ⟨.ot, 1, 8, [.nilFunc]⟩),
  (202, ⟨.in_ .u32, 1, 4, [.int .u32 0]⟩),
  (203, ⟨.ot, 1, 8, [.nilFunc]⟩),
  (204, ⟨.ot, 1, 8, [.nilFunc]⟩),
  (205, ⟨.ot, 1, 8, [.nilFunc]⟩),
  (206, ⟨.ot, 1, 8, [.nilFunc]⟩),
  (207, ⟨.ot, 1, 8, [.nilFunc]⟩),
  (208, ⟨.ar 20 189, 20, 160, [.int .u64 0, .int .u64 0, .int .u64 0, .int .u64 0, .int .u64 0, .int .u64 0, .int .u64 0, .int .u64 0, .int .u64 0, .int .u64 0, .int .u64 0, .int .u64 0, .int .u64 0, .int .u64 0, .int .u64 0, .int .u64 0, .int .u64 0, .int .u64 0, .int .u64 0, .int .u64 0]⟩),
  (210, ⟨.in_ .u64, 1, 8, [.int .u64 0]⟩),
  (211, ⟨.ot, 1, 8, [.nilFunc]⟩),
  (212, ⟨.ot, 1, 8, [.nilFunc]⟩),
  (213, ⟨.ot, 1, 8, [.nilFunc]⟩),
  (214, ⟨.ot, 1, 8, [.nilFunc]⟩),
  (215, ⟨.ot, 1, 8, [.nilFunc]⟩),
  (217, ⟨.ot, 1, 8, [.nilFunc]⟩),
  (218, ⟨.ot, 1, 8, [.nilFunc]⟩),
  (219, ⟨.in_ .i64, 1, 8, [.int .i64 0]⟩),
  (221, ⟨.ot, 1, 8, [.nilFunc]⟩),
  (222, ⟨.pt 233, 1, 8, [.pointer none]⟩),
  (223, ⟨.ot, 1, 8, [.nilFunc]⟩),
  (224, ⟨.ot, 1, 8, [.nilFunc]⟩),
  (225, ⟨.pt 210, 1, 8, [.pointer none]⟩),
  (227, ⟨.ot, 1, 8, [.nilFunc]⟩),
  (229, ⟨.ot, 1, 8, [.nilFunc]⟩),
  (231, ⟨.ot, 1, 8, [.nilFunc]⟩),
  (232, ⟨.st [(0, 9), (1, 9), (2, 137)], 3, 48, [.string ⟨#[]⟩, .string ⟨#[]⟩, .nilIface]⟩),
  (233, ⟨.st [(0, 9), (1, 9), (2, 137)], 3, 48, [.string ⟨#[]⟩, .string ⟨#[]⟩, .nilIface]⟩),
  (234, ⟨.ot, 1, 8, [.nilFunc]⟩),
  (235, ⟨.ar 32 5, 32, 32, [.int .u8 0, .int .u8 0, .int .u8 0, .int .u8 0, .int .u8 0, .int .u8 0, .int .u8 0, .int .u8 0, .int .u8 0, .int .u8 0, .int .u8 0, .int .u8 0, .int .u8 0, .int .u8 0, .int .u8 0, .int .u8 0, .int .u8 0, .int .u8 0, .int .u8 0, .int .u8 0, .int .u8 0, .int .u8 0, .int .u8 0, .int .u8 0, .int .u8 0, .int .u8 0, .int .u8 0, .int .u8 0, .int .u8 0, .int .u8 0, .int .u8 0, .int .u8 0]⟩),
  (236, ⟨.ar 64 5, 64, 64, [.int .u8 0, .int .u8 0, .int .u8 0, .int .u8 0, .int .u8 0, .int .u8 0, .int .u8 0, .int .u8 0, .int .u8 0, .int .u8 0, .int .u8 0, .int .u8 0, .int .u8 0, .int .u8 0, .int .u8 0, .int .u8 0, .int .u8 0, .int .u8 0, .int .u8 0, .int .u8 0, .int .u8 0, .int .u8 0, .int .u8 0, .int .u8 0, .int .u8 0, .int .u8 0, .int .u8 0, .int .u8 0, .int .u8 0, .int .u8 0, .int .u8 0, .int .u8 0, .int .u8 0, .int .u8 0, .int .u8 0, .int .u8 0, .int .u8 0, .int .u8 0, .int .u8 0, .int .u8 0, .int .u8 0, .int .u8 0, .int .u8 0, .int .u8 0, .int .u8 0, .int .u8 0, .int .u8 0, .int .u8 0, .int .u8 0, .int .u8 0, .int .u8 0, .int .u8 0, .int .u8 0, .int .u8 0, .int .u8 0, .int .u8 0, .int .u8 0, .int .u8 0, .int .u8 0, .int .u8 0, .int .u8 0, .int .u8 0, .int .u8 0, .int .u8 0]⟩),
  (238, ⟨.st [(0, 5), (1, 5)], 2, 2, [.int .u8 0, .int .u8 0]⟩),
  (239, ⟨.st [(0, 5), (1, 5)], 2, 2, [.int .u8 0, .int .u8 0]⟩),
  (240, ⟨.ar 16 239, 32, 32, [.int .u8 0, .int .u8 0, .int .u8 0, .int .u8 0, .int .u8 0, .int .u8 0, .int .u8 0, .int .u8 0, .int .u8 0, .int .u8 0, .int .u8 0, .int .u8 0, .int .u8 0, .int .u8 0, .int .u8 0, .int .u8 0, .int .u8 0, .int .u8 0, .int .u8 0, .int .u8 0, .int .u8 0, .int .u8 0, .int .u8 0, .int .u8 0, .int .u8 0, .int .u8 0, .int .u8 0, .int .u8 0, .int .u8 0, .int .u8 0, .int .u8 0, .int .u8 0]⟩),
  (241, ⟨.ot, 1, 8, [.nilFunc]⟩),
  (242, ⟨.pt 244, 1, 8, [.pointer none]⟩),
  (243, ⟨.st [(0, 9)], 1, 16, [.string ⟨#[]⟩]⟩),
  (244, ⟨.st [(0, 9)], 1, 16, [.string ⟨#[]⟩]⟩),
  (245, ⟨.st [(0, 17), (1, 17), (2, 17), (3, 9)], 4, 40, [.pointer none, .pointer none, .pointer none, .string ⟨#[]⟩]⟩),
  (246, ⟨.st [(0, 17), (1, 17), (2, 17), (3, 9)], 4, 40, [.pointer none, .pointer none, .pointer none, .string ⟨#[]⟩]⟩),
  (247, ⟨.ar 0 16, 0, 0, []⟩),
  (248, ⟨.st [(0, 247)], 0, 0, []⟩),
  (249, ⟨.st [(0, 247)], 0, 0, []⟩),
  (250, ⟨.ot, 1, 8, [.nilFunc]⟩),
  (251, ⟨.in_ .u8, 1, 1, [.int .u8 0]⟩),
  (252, ⟨.in_ .u8, 1, 1, [.int .u8 0]⟩),
  (253, ⟨.ot, 1, 8, [.nilFunc]⟩),
  (254, ⟨.in_ .i32, 1, 4, [.int .i32 0]⟩),
  (255, ⟨.in_ .i32, 1, 4, [.int .i32 0]⟩),
  (256, ⟨.st [(0, 12), (1, 12), (2, 202), (3, 251), (4, 5), (5, 5), (6, 252), (7, 253), (8, 173), (9, 254), (10, 255)], 11, 48, [.int .u64 0, .int .u64 0, .int .u32 0, .int .u8 0, .int .u8 0, .int .u8 0, .int .u8 0, .nilFunc, .pointer none, .int .i32 0, .int .i32 0]⟩),
  (257, ⟨.st [(0, 12), (1, 12), (2, 202), (3, 251), (4, 5), (5, 5), (6, 252), (7, 253), (8, 173), (9, 254), (10, 255)], 11, 48, [.int .u64 0, .int .u64 0, .int .u32 0, .int .u8 0, .int .u8 0, .int .u8 0, .int .u8 0, .nilFunc, .pointer none, .int .i32 0, .int .i32 0]⟩)]
instance tys : Tys Tryz.prog tt := tys_of (by kernel_rfl) (by kernel_rfl)
end Go.Proofs.YtabmcfnefjipbaaGreatDoor
namespace Go.Proofs.YtabmcfnefjipbaaGreatDoor
open Go.RowKit
abbrev di (n : Int) : SV := .d (.u (.int .i64 n))
abbrev db (b : Bool) : SV := .d (.u (.bool b))
abbrev dby (n : Int) : SV := .d (.u (.int .u8 n))
abbrev dsr (s : ByteArray) : SV := .d (.u (.str s))
end Go.Proofs.YtabmcfnefjipbaaGreatDoor
namespace Go.Proofs.YtabmcfnefjipbaaGreatDoor
open Go.RowKit
def digB (c : Int) : Bool := decide (48 ≤ c) && decide (c ≤ 57)
theorem digit_R (c : Int) : CallsA Tryz.prog 63 [dby c] [] (Is (db (digB c))) := by
  by_cases h1 : 48 ≤ c
  · have e : digB c = decide (c ≤ 57) := by simp [digB, h1]
    rw [e]
    refine callsA_of_vc (T := tt) Tryz.func63 rfl rfl rfl rfl rfl ?_
    repeat' ((conv => whnf); first | refine Gs.id ?_ | refine Brn.T (by (try simp only [smT]); first | rfl | assumption | fail) ?_ | fail)
    all_goals (conv => whnf)
    all_goals exact Ret.is rfl
  · have e : digB c = false := by simp [digB, h1]
    rw [e]
    refine callsA_of_vc (T := tt) Tryz.func63 rfl rfl rfl rfl rfl ?_
    repeat' ((conv => whnf); first | refine Gs.id ?_ | refine Brn.F (by (try simp only [smT]); first | rfl | omega | fail) ?_ | fail)
    all_goals (conv => whnf)
    all_goals exact Ret.is rfl
/-- The parts of a string between bytes c: those that end at i or before. -/
def splitB (s : ByteArray) (c : UInt8) : Nat → List ByteArray × Nat
  | 0 => ([], 0)
  | i + 1 => if i = s.size ∨ s.data[i]? = some c then ((splitB s c i).1 ++ [s.extract (splitB s c i).2 i], i + 1) else splitB s c i
theorem splitB_le (s : ByteArray) (c : UInt8) : ∀ i, (splitB s c i).1.length ≤ i ∧ (splitB s c i).2 ≤ i
  | 0 => by simp [splitB]
  | i + 1 => by
    have := splitB_le s c i
    rw [splitB]
    split
    · simp; omega
    · omega
abbrev strs (l : List ByteArray) : List (List V) := l.map fun s => [V.str s]
theorem splitB_ne (s : ByteArray) (c : UInt8) : (splitB s c (s.size + 1)).1 ≠ [] := by
  rw [splitB, if_pos (.inl rfl)]; simp
set_option maxHeartbeats 1000000 in
theorem split_R (s : ByteArray) (c : UInt8) (hs : s.size ≤ 1000000000000) : CallsA Tryz.prog 66 [dsr s, dby c.toNat] [] (Is (.d (.u (.sl 1 (strs (splitB s c (s.size + 1)).1))))) := by
  refine callsA_of_vc (T := tt) Tryz.func66 rfl rfl rfl rfl rfl ?_
  repeat' ((conv => whnf); first | refine Gs.id ?_ | fail)
  all_goals (conv => whnf)
  refine ⟨⟨Nat, fun i => i ≤ s.size + 1, fun i => s.size + 1 - i, fun i => match (splitB s c i).1 with
    | [] => ⟨[(0, dsr s), (1, dby c.toNat), (5, .d (.u .nl)), (6, di (splitB s c i).2), (7, di i)], []⟩
    | x :: r => ⟨[(0, dsr s), (1, dby c.toNat), (5, .d (.ow 900 (x :: r).length)), (6, di (splitB s c i).2), (7, di i)], [(900, .ar 9 1 (strs (x :: r)))]⟩, 0, Nat.zero_le _, ⟨[], ⟨by (try dsimp only); (repeat (refine LeT.cons rfl (by first | exact LeS.d (by first | exact LeD.u rfl | fail) | fail) ?_)); exact LeT.nil, by (try dsimp only); repeat (first | exact LeO.nil | fail)⟩⟩, fun i hi => ?_⟩⟩
  dsimp only at hi ⊢
  obtain ⟨q1, q2⟩ := splitB_le s c i
  have hst := splitB.eq_2 s c i
  have hne := splitB_ne s c
  obtain ⟨L, fr, hL⟩ : ∃ L fr, splitB s c i = (L, fr) := ⟨_, _, rfl⟩
  rw [hL] at q1 q2 hst ⊢
  dsimp only at q1 q2 hst ⊢
  by_cases h9 : i < s.size
  · have hget : s.data[i]? = some s[i] := by simp [ByteArray.getElem_eq_getElem_data, h9]
    by_cases hc : s[i] = c
    · rw [if_pos (.inr (by rw [hget, hc]))] at hst
      cases L with
      | nil =>
        dsimp only
        repeat' ((conv => whnf); first | refine Sbx.mk ⟨i, h9, rfl, ?_⟩ | refine Slc.mk ⟨fr, i, rfl, rfl, by omega, by omega, ?_⟩ | refine Gs.id ?_ | refine Brn.T (by (try simp only [smT]); first | rfl | omega | (simp only [*]; done) | fail) ?_ | refine Brn.F (by (try simp only [smT]); first | rfl | omega | fail) ?_ | (refine Bnd.mk (fun hm => ?_); (try simp only [smT] at hm)) | refine Rng.mk (by (try simp only [smT]); omega) ?_ | refine Apd.mk (by first | rfl | fail) (by first | rfl | fail) (by (try simp only [smT]); first | omega | fail) (by unfold maxLen; first | (simp; done) | fail) ?_ | fail)
        all_goals (conv => whnf)
        all_goals
          refine ⟨i + 1, by omega, by omega, [(900, .k 31)], ?_⟩
          rw [hst]
          exact ⟨by (try dsimp only); (repeat (refine LeT.cons rfl (by first | exact LeS.d (by first | exact LeD.u rfl | exact LeD.ow rfl rfl | fail) | fail) ?_)); exact LeT.nil, by (try dsimp only); repeat (first | exact LeO.nil | refine LeO.ar rfl rfl (by first | rfl | fail) ?_ | fail)⟩
      | cons x r =>
        simp only [List.length_cons] at q1
        dsimp only
        repeat' ((conv => whnf); first | refine Sbx.mk ⟨i, h9, rfl, ?_⟩ | refine Slc.mk ⟨fr, i, rfl, rfl, by omega, by omega, ?_⟩ | refine Gs.id ?_ | refine Brn.T (by (try simp only [smT]); first | rfl | omega | (simp only [*]; done) | fail) ?_ | refine Brn.F (by (try simp only [smT]); first | rfl | omega | fail) ?_ | (refine Bnd.mk (fun hm => ?_); (try simp only [smT] at hm)) | refine Rng.mk (by (try simp only [smT]); omega) ?_ | refine Apd.mk (by first | rfl | simp) (by first | rfl | fail) (by (try simp only [smT]); first | omega | fail) (by unfold maxLen; first | (simp; omega) | fail) ?_ | fail)
        all_goals (conv => whnf)
        all_goals
          refine ⟨i + 1, by omega, by omega, [(900, .k 31)], ?_⟩
          rw [hst]
          exact ⟨by (try dsimp only); (repeat (refine LeT.cons rfl (by first | exact LeS.d (by first | exact LeD.u rfl | exact LeD.ow rfl (by simp) | fail) | fail) ?_)); exact LeT.nil, by (try dsimp only); repeat (first | exact LeO.nil | refine LeO.ar rfl rfl (by first | simp) ?_ | fail)⟩
    · have hcn : ¬ (s[i].toNat : Int) = (c.toNat : Int) := fun e => hc (UInt8.toNat_inj.1 (by omega))
      rw [if_neg (by rw [hget]; simp; exact ⟨by omega, hc⟩)] at hst
      cases L with
      | nil =>
        dsimp only
        repeat' ((conv => whnf); first | refine Sbx.mk ⟨i, h9, rfl, ?_⟩ | refine Gs.id ?_ | refine Brn.T (by (try simp only [smT]); first | rfl | omega | fail) ?_ | refine Brn.F (by (try simp only [smT]); first | rfl | assumption | omega | fail) ?_ | (refine Bnd.mk (fun hm => ?_); (try simp only [smT] at hm)) | refine Rng.mk (by (try simp only [smT]); omega) ?_ | fail)
        all_goals (conv => whnf)
        all_goals
          refine ⟨i + 1, by omega, by omega, [], ?_⟩
          rw [hst]
          exact ⟨by (try dsimp only); (repeat (refine LeT.cons rfl (by first | exact LeS.d (by first | exact LeD.u rfl | fail) | fail) ?_)); exact LeT.nil, by (try dsimp only); repeat (first | exact LeO.nil | fail)⟩
      | cons x r =>
        dsimp only
        repeat' ((conv => whnf); first | refine Sbx.mk ⟨i, h9, rfl, ?_⟩ | refine Gs.id ?_ | refine Brn.T (by (try simp only [smT]); first | rfl | omega | fail) ?_ | refine Brn.F (by (try simp only [smT]); first | rfl | assumption | omega | fail) ?_ | (refine Bnd.mk (fun hm => ?_); (try simp only [smT] at hm)) | refine Rng.mk (by (try simp only [smT]); omega) ?_ | fail)
        all_goals (conv => whnf)
        all_goals
          refine ⟨i + 1, by omega, by omega, [(900, .k 900)], ?_⟩
          rw [hst]
          exact ⟨by (try dsimp only); (repeat (refine LeT.cons rfl (by first | exact LeS.d (by first | exact LeD.u rfl | exact LeD.ow rfl rfl | fail) | fail) ?_)); exact LeT.nil, by (try dsimp only); repeat (first | exact LeO.nil | refine LeO.ar rfl rfl (by first | rfl | fail) ?_ | fail)⟩
  · by_cases h10 : i = s.size
    · subst h10
      rw [if_pos (.inl rfl)] at hst
      cases L with
      | nil =>
        dsimp only
        repeat' ((conv => whnf); first | refine Slc.mk ⟨fr, s.size, rfl, rfl, by omega, by omega, ?_⟩ | refine Gs.id ?_ | with_reducible refine Brn.T rfl ?_ | refine Brn.T (by (try simp only [smT]); first | rfl | omega | fail) ?_ | (refine Brn.mk (fun hb => ?_) (fun hb => ?_) <;> (try simp only [smT] at hb) <;> (try (exact absurd trivial hb)) <;> (try (exfalso; omega))) | (refine Bnd.mk (fun hm => ?_); (try simp only [smT] at hm)) | refine Rng.mk (by (try simp only [smT]); omega) ?_ | refine Apd.mk (by first | rfl | fail) (by first | rfl | fail) (by (try simp only [smT]); first | omega | fail) (by unfold maxLen; first | (simp; done) | fail) ?_ | fail)
        all_goals (conv => whnf)
        all_goals
          refine ⟨s.size + 1, by omega, by omega, [(900, .k 31)], ?_⟩
          rw [hst]
          exact ⟨by (try dsimp only); (repeat (refine LeT.cons rfl (by first | exact LeS.d (by first | exact LeD.u rfl | exact LeD.ow rfl rfl | fail) | fail) ?_)); exact LeT.nil, by (try dsimp only); repeat (first | exact LeO.nil | refine LeO.ar rfl rfl (by first | rfl | fail) ?_ | fail)⟩
      | cons x r =>
        simp only [List.length_cons] at q1
        dsimp only
        repeat' ((conv => whnf); first | refine Slc.mk ⟨fr, s.size, rfl, rfl, by omega, by omega, ?_⟩ | refine Gs.id ?_ | with_reducible refine Brn.T rfl ?_ | refine Brn.T (by (try simp only [smT]); first | rfl | omega | fail) ?_ | (refine Brn.mk (fun hb => ?_) (fun hb => ?_) <;> (try simp only [smT] at hb) <;> (try (exact absurd trivial hb)) <;> (try (exfalso; omega))) | (refine Bnd.mk (fun hm => ?_); (try simp only [smT] at hm)) | refine Rng.mk (by (try simp only [smT]); omega) ?_ | refine Apd.mk (by first | rfl | simp) (by first | rfl | fail) (by (try simp only [smT]); first | omega | fail) (by unfold maxLen; first | (simp; omega) | fail) ?_ | fail)
        all_goals (conv => whnf)
        all_goals
          refine ⟨s.size + 1, by omega, by omega, [(900, .k 31)], ?_⟩
          rw [hst]
          exact ⟨by (try dsimp only); (repeat (refine LeT.cons rfl (by first | exact LeS.d (by first | exact LeD.u rfl | exact LeD.ow rfl (by simp) | fail) | fail) ?_)); exact LeT.nil, by (try dsimp only); repeat (first | exact LeO.nil | refine LeO.ar rfl rfl (by first | simp) ?_ | fail)⟩
    · obtain rfl : i = s.size + 1 := by omega
      rw [hL] at hne ⊢
      dsimp only at hne ⊢
      cases L with
      | nil => exact absurd rfl hne
      | cons x r =>
        dsimp only
        repeat' ((conv => whnf); first | refine Gs.id ?_ | refine Brn.F (by (try simp only [smT]); first | rfl | omega | fail) ?_ | (refine Bnd.mk (fun hm => ?_); (try simp only [smT] at hm)) | refine Len.mk (by first | rfl | (simp; done) | fail) ?_ | fail)
        all_goals (conv => whnf)
        all_goals exact Ret.is rfl
end Go.Proofs.YtabmcfnefjipbaaGreatDoor
namespace Go.Proofs.YtabmcfnefjipbaaGreatDoor
open Go.RowKit
def chB (c : Int) : Bool := (decide (97 ≤ c) && decide (c ≤ 122)) || (decide (65 ≤ c) && decide (c ≤ 90)) || c == 95 || digB c
def okFrom (s : ByteArray) (i : Nat) : Bool := (s.data.toList.drop i).all fun b => chB (b.toNat : Int)
def nameB (s : ByteArray) : Bool := decide (0 < s.size) && decide (s.size ≤ 24) && !digB ((s.data[0]?.getD 0).toNat : Int) && okFrom s 0
theorem okFrom_step {s : ByteArray} {i : Nat} (h : i < s.size) : okFrom s i = (chB (s[i].toNat : Int) && okFrom s (i + 1)) := by
  have h' : i < s.data.toList.length := by simpa using h
  rw [okFrom, List.drop_eq_getElem_cons h', List.all_cons]
  rfl
theorem okFrom_end {s : ByteArray} : okFrom s s.size = true := by
  rw [okFrom, List.drop_eq_nil_of_le (by simp)]; rfl
theorem toList_beq (a b : ByteArray) : (a.toList == b.toList) = decide (a = b) := by
  rw [ByteArray.toList_eq, ByteArray.toList_eq]
  by_cases h : a = b
  · subst h; simp
  · rw [decide_eq_false h]
    refine Bool.eq_false_iff.2 fun e => h ?_
    have e2 : a.data.toList = b.data.toList := by simpa using e
    obtain ⟨x⟩ := a
    obtain ⟨y⟩ := b
    have : x = y := Array.toList_inj.1 e2
    rw [this]
theorem str_nil {s : ByteArray} : (s.toList == (ByteArray.mk #[]).toList) = decide (s.size = 0) := by
  rw [toList_beq]
  by_cases h : s.size = 0
  · obtain ⟨d⟩ := s
    have : d = #[] := Array.size_eq_zero_iff.1 h
    subst this; rfl
  · rw [decide_eq_false h, decide_eq_false]
    intro e
    subst e
    exact h rfl
set_option maxHeartbeats 2000000 in
theorem name_R (s : ByteArray) : CallsA Tryz.prog 29 [dsr s] [] (Is (db (nameB s))) := by
  have hs0 := str_nil (s := s)
  by_cases h0 : s.size = 0
  · have e : nameB s = false := by simp [nameB, h0]
    rw [decide_eq_true h0] at hs0
    rw [e]
    refine callsA_of_vc (T := tt) Tryz.func29 rfl rfl rfl rfl rfl ?_
    repeat' ((conv => whnf); first | refine Gs.id ?_ | with_reducible refine Brn.T rfl ?_ | refine Brn.T (by (try simp only [smT]); first | rfl | assumption | fail) ?_ | fail)
    all_goals (conv => whnf)
    all_goals exact Ret.is rfl
  · rw [decide_eq_false h0] at hs0
    have hp : 0 < s.size := by omega
    have hg : s.data[0]?.getD 0 = s[0] := by simp [ByteArray.getElem_eq_getElem_data, hp]
    by_cases h1 : s.size ≤ 24
    · have hd := digit_R (s[0].toNat : Int)
      by_cases h2 : digB (s[0].toNat : Int) = true
      · have e : nameB s = false := by simp [nameB, hg, h2]
        rw [e]
        rw [h2] at hd
        refine callsA_of_vc (T := tt) Tryz.func29 rfl rfl rfl rfl rfl ?_
        repeat' ((conv => whnf); first | refine Sbx.mk ⟨0, hp, rfl, ?_⟩ | refine Gs.id ?_ | with_reducible refine Brn.T rfl ?_ | refine Brn.F (by (try simp only [smT]); first | rfl | assumption | omega | fail) ?_ | (refine Bnd.mk (fun hm => ?_); (try simp only [smT] at hm)) | (refine CL.mk (Or.inl ?_); (conv => whnf); refine Cl.is (hd) rfl (by first | exact fun _ => rfl | fail) ?_) | fail)
        all_goals (conv => whnf)
        all_goals exact Ret.is rfl
      · have h2 : digB (s[0].toNat : Int) = false := by simpa using h2
        have e : nameB s = okFrom s 0 := by rw [nameB, hg, h2, decide_eq_true hp, decide_eq_true h1]; rfl
        rw [e]
        rw [h2] at hd
        refine callsA_of_vc (T := tt) Tryz.func29 rfl rfl rfl rfl rfl ?_
        repeat' ((conv => whnf); first | refine Sbx.mk ⟨0, hp, rfl, ?_⟩ | refine Gs.id ?_ | with_reducible refine Brn.F rfl ?_ | refine Brn.F (by (try simp only [smT]); first | rfl | assumption | omega | fail) ?_ | (refine Bnd.mk (fun hm => ?_); (try simp only [smT] at hm)) | (refine CL.mk (Or.inl ?_); (conv => whnf); refine Cl.is (hd) rfl (by first | exact fun _ => rfl | fail) ?_) | fail)
        all_goals (conv => whnf)
        refine ⟨⟨Nat, fun i => i ≤ s.size ∧ okFrom s 0 = okFrom s i, fun i => s.size - i, fun i => ⟨[(0, dsr s), (3, di i)], []⟩, 0, ⟨Nat.zero_le _, rfl⟩, ⟨[], ⟨by (try dsimp only); (repeat (refine LeT.cons rfl (by first | exact LeS.d (by first | exact LeD.u rfl | fail) | fail) ?_)); exact LeT.nil, by (try dsimp only); repeat (first | exact LeO.nil | fail)⟩⟩, fun i hi => ?_⟩⟩
        obtain ⟨hi, he⟩ := hi
        dsimp only
        by_cases h9 : i < s.size
        · rw [okFrom_step h9] at he
          have hdi := digit_R (s[i].toNat : Int)
          rw [he]
          clear he e hd hg h2
          generalize hx : (s[i].toNat : Int) = x at *
          by_cases hc : chB x = true
          · rw [hc, Bool.true_and]
            repeat' ((conv => whnf); first | (refine Sbx.mk ⟨i, h9, rfl, ?_⟩; rw [hx]) | refine Gs.id ?_ | with_reducible refine Brn.T rfl ?_ | with_reducible refine Brn.F rfl ?_ | refine Brn.T (by (try simp only [smT]); first | rfl | assumption | omega | fail) ?_ | refine Brn.F (by (try simp only [smT]); first | rfl | assumption | omega | fail) ?_ | (refine Brn.mk (fun hb => ?_) (fun hb => ?_) <;> (try simp only [smT] at hb) <;> (try (exact absurd trivial hb)) <;> (try (exfalso; omega))) | (refine Bnd.mk (fun hm => ?_); (try simp only [smT] at hm)) | refine Rng.mk (by (try simp only [smT]); omega) ?_ | (refine CL.mk (Or.inl ?_); (conv => whnf); refine Cl.is (hdi) rfl (by first | exact fun _ => rfl | fail) ?_) | fail)
            all_goals (conv => whnf)
            all_goals first
              | exact ⟨i + 1, ⟨by omega, rfl⟩, by omega, [], ⟨by (try dsimp only); (repeat (refine LeT.cons rfl (by first | exact LeS.d (by first | exact LeD.u rfl | fail) | fail) ?_)); exact LeT.nil, by (try dsimp only); repeat (first | exact LeO.nil | fail)⟩⟩
              | (exfalso; simp [chB] at hc; simp_all; done)
              | (exfalso; simp [chB] at hc; simp_all; omega)
          · have hc : chB x = false := by simpa using hc
            rw [hc, Bool.false_and]
            repeat' ((conv => whnf); first | (refine Sbx.mk ⟨i, h9, rfl, ?_⟩; rw [hx]) | refine Gs.id ?_ | with_reducible refine Brn.T rfl ?_ | with_reducible refine Brn.F rfl ?_ | refine Brn.T (by (try simp only [smT]); first | rfl | assumption | omega | fail) ?_ | refine Brn.F (by (try simp only [smT]); first | rfl | assumption | omega | fail) ?_ | (refine Brn.mk (fun hb => ?_) (fun hb => ?_) <;> (try simp only [smT] at hb) <;> (try (exact absurd trivial hb)) <;> (try (exfalso; omega))) | (refine Bnd.mk (fun hm => ?_); (try simp only [smT] at hm)) | refine Rng.mk (by (try simp only [smT]); omega) ?_ | (refine CL.mk (Or.inl ?_); (conv => whnf); refine Cl.is (hdi) rfl (by first | exact fun _ => rfl | fail) ?_) | fail)
            all_goals (conv => whnf)
            all_goals first
              | exact Ret.is rfl
              | (exfalso; simp [chB] at hc; simp_all; done)
              | (exfalso; simp [chB] at hc; simp_all; omega)
        · obtain rfl : i = s.size := by omega
          rw [he, okFrom_end]
          repeat' ((conv => whnf); first | refine Gs.id ?_ | refine Brn.F (by (try simp only [smT]); first | rfl | omega | fail) ?_ | (refine Bnd.mk (fun hm => ?_); (try simp only [smT] at hm)) | fail)
          all_goals (conv => whnf)
          all_goals exact Ret.is rfl
    · have e : nameB s = false := by simp [nameB, h1]
      rw [e]
      refine callsA_of_vc (T := tt) Tryz.func29 rfl rfl rfl rfl rfl ?_
      repeat' ((conv => whnf); first | refine Gs.id ?_ | with_reducible refine Brn.T rfl ?_ | refine Brn.T (by (try simp only [smT]); first | rfl | omega | fail) ?_ | refine Brn.F (by (try simp only [smT]); first | rfl | assumption | fail) ?_ | (refine Bnd.mk (fun hm => ?_); (try simp only [smT] at hm)) | fail)
      all_goals (conv => whnf)
      all_goals exact Ret.is rfl
abbrev strs' (l : List ByteArray) : V := .sl 1 (strs l)
/-- The first n of a list with a string between them. -/
def joinB (l : List ByteArray) (sep : ByteArray) : Nat → ByteArray
  | 0 => ByteArray.mk #[]
  | n + 1 => (if 0 < n then joinB l sep n ++ sep else joinB l sep n) ++ (l[n]?.getD (ByteArray.mk #[]))
def total (l : List ByteArray) (sep : ByteArray) : Nat → Nat
  | 0 => 0
  | n + 1 => total l sep n + sep.size + (l[n]?.getD (ByteArray.mk #[])).size
theorem joinB_size (l : List ByteArray) (sep : ByteArray) : ∀ n, (joinB l sep n).size ≤ total l sep n
  | 0 => Nat.le_refl _
  | n + 1 => by
    have := joinB_size l sep n
    rw [joinB, total]
    split <;> simp <;> omega
theorem total_mono (l : List ByteArray) (sep : ByteArray) {a b : Nat} (h : a ≤ b) : total l sep a ≤ total l sep b := by
  induction b with
  | zero => have : a = 0 := by omega
            subst this; exact Nat.le_refl _
  | succ b ih =>
    by_cases h2 : a = b + 1
    · subst h2; exact Nat.le_refl _
    · have := ih (by omega)
      rw [total]; omega
set_option maxHeartbeats 1000000 in
theorem join_R (l : List ByteArray) (sep : ByteArray) (ht : total l sep l.length ≤ 1000000000000) : CallsA Tryz.prog 69 [.d (.u (strs' l)), dsr sep] [] (Is (dsr (joinB l sep l.length))) := by
  refine callsA_of_vc (T := tt) Tryz.func69 rfl rfl rfl rfl rfl ?_
  repeat' ((conv => whnf); first | refine Gs.id ?_ | fail)
  all_goals (conv => whnf)
  refine ⟨⟨Nat, fun i => i ≤ l.length, fun i => l.length - i, fun i => ⟨[(0, .d (.u (strs' l))), (1, dsr sep), (5, dsr (joinB l sep i)), (6, di i)], []⟩, 0, Nat.zero_le _, ⟨[], ⟨by (try dsimp only); (repeat (refine LeT.cons rfl (by first | exact LeS.d (by first | exact LeD.u rfl | fail) | fail) ?_)); exact LeT.nil, by (try dsimp only); repeat (first | exact LeO.nil | fail)⟩⟩, fun i hi => ?_⟩⟩
  dsimp only at hi ⊢
  by_cases h9 : i < l.length
  · have hj := joinB_size l sep i
    have hm := total_mono l sep (a := i + 1) (b := l.length) (by omega)
    have hst : joinB l sep (i + 1) = (if 0 < i then joinB l sep i ++ sep else joinB l sep i) ++ l[i] := by rw [joinB, List.getElem?_eq_getElem h9]; rfl
    have htt : total l sep (i + 1) = total l sep i + sep.size + (l[i]).size := by rw [total, List.getElem?_eq_getElem h9]; rfl
    have hrow : ∀ {K : List V → Prop}, K [V.str l[i]] → Ix (strs l) (i : Int) K := fun k => Ix.map rfl h9 k
    generalize l[i] = x at hst htt hrow
    generalize joinB l sep i = y at *
    by_cases h0 : 0 < i
    · rw [if_pos h0] at hst
      repeat' ((conv => whnf); first | refine hrow ?_ | refine Cat.mk (by unfold maxLen; simp; omega) ?_ | refine Gs.id ?_ | refine Brn.T (by (try simp only [smT]); first | rfl | omega | fail) ?_ | (refine Bnd.mk (fun hm => ?_); (try simp only [smT] at hm)) | refine Rng.mk (by (try simp only [smT]); omega) ?_ | fail)
      all_goals (conv => whnf)
      all_goals
        refine ⟨i + 1, by omega, by omega, [], ?_⟩
        rw [hst]
        exact ⟨by (try dsimp only); (repeat (refine LeT.cons rfl (by first | exact LeS.d (by first | exact LeD.u rfl | fail) | fail) ?_)); exact LeT.nil, by (try dsimp only); repeat (first | exact LeO.nil | fail)⟩
    · rw [if_neg h0] at hst
      repeat' ((conv => whnf); first | refine hrow ?_ | refine Cat.mk (by unfold maxLen; simp; omega) ?_ | refine Gs.id ?_ | refine Brn.T (by (try simp only [smT]); first | rfl | omega | fail) ?_ | refine Brn.F (by (try simp only [smT]); first | rfl | omega | fail) ?_ | (refine Bnd.mk (fun hm => ?_); (try simp only [smT] at hm)) | refine Rng.mk (by (try simp only [smT]); omega) ?_ | fail)
      all_goals (conv => whnf)
      all_goals
        refine ⟨i + 1, by omega, by omega, [], ?_⟩
        rw [hst]
        exact ⟨by (try dsimp only); (repeat (refine LeT.cons rfl (by first | exact LeS.d (by first | exact LeD.u rfl | fail) | fail) ?_)); exact LeT.nil, by (try dsimp only); repeat (first | exact LeO.nil | fail)⟩
  · obtain rfl : i = l.length := by omega
    repeat' ((conv => whnf); first | refine Gs.id ?_ | refine Brn.F (by (try simp only [smT]); first | rfl | omega | fail) ?_ | (refine Bnd.mk (fun hm => ?_); (try simp only [smT] at hm)) | fail)
    all_goals (conv => whnf)
    all_goals exact Ret.is rfl
end Go.Proofs.YtabmcfnefjipbaaGreatDoor
namespace Go.Proofs.YtabmcfnefjipbaaGreatDoor
open Go.RowKit
section
variable {c : Cx} {st : St} {tm : List (Nat × Value)} {F : Nat → Prop} {w0 w w' : World} {hp : List (Nat × Hb)} {ρ : Rho} {G : FG}
theorem Below.sameF (hw : Hp ⟨F, w0, hp⟩ w) (hb : Below w.heap.size w w') : Same F w0 w' :=
  hw.same.trans ⟨hb.os, hb.tape, hb.output, hb.size, fun k hk => hb.block k (hw.Flt hk)⟩
theorem Gd.newF (g : Gd c st tm ⟨F, w0, hp⟩ ρ G) (hw : Hp ⟨F, w0, hp⟩ w) (hb : Below w.heap.size w w') (hl : w.heap.size < w'.heap.size) : Gd c st tm ⟨fun x => F x ∨ x = w.heap.size, w', hp⟩ ρ (G.or fun x => x = w.heap.size) ∧ Hp ⟨fun x => F x ∨ x = w.heap.size, w', hp⟩ w' := by
  have s1 := Below.sameF hw hb
  have hz : Mz ⟨G, w0⟩ ⟨G.or fun x => x = w.heap.size, w'⟩ := ⟨fun _ h => .inl h, fun b hb => s1.block b (g.gF b hb), fun _ _ _ h => h⟩
  refine ⟨⟨fun b hb => .inl (g.fF b hb), g.fw.trans (s1.mono g.fF), fun b hb => hb.imp (g.gF b) id, fun b h2 => ?_, g.fm.or, fun j s hj => ?_, g.ob.mono hz .refl⟩, ⟨Same.refl _ _, fun b h2 => ?_, fun b x hx => ?_, hw.nd, fun b x hx h2 => ?_⟩⟩
  · rcases h2 with h2 | rfl
    · exact g.gx b h2
    · exact .inr fun h0 => Nat.lt_irrefl _ (hw.Flt (g.fF _ h0))
  · obtain ⟨v, v1, v2⟩ := g.tm j s hj
    exact ⟨v, v1, v2.mono hz .refl⟩
  · rcases h2 with h2 | rfl
    · exact Nat.lt_of_lt_of_le (hw.Flt h2) hb.size
    · exact hl
  · have h1 := hw.blk b x hx
    exact h1.of_block (hb.block b h1.lt)
  · rcases h2 with h2 | rfl
    · exact hw.out b x hx h2
    · exact Nat.lt_irrefl _ (hw.blk _ x hx).lt
end
theorem bytes_flat (l : List UInt8) : (l.map fun b => [V.int .u8 (b.toNat : Int)]).flatten = l.map fun b => V.int .u8 (b.toNat : Int) := by
  induction l with
  | nil => rfl
  | cons x r ih => simp [ih]
section
variable {P : Program} {T : List (Nat × Ty)} [hT : Tys P T] {nt : Nt} {ty : TypeId} {pos : String} {af : Array Edge} {gd : Option (Nat × Bool)} {K : Kt}
/-- The bytes of a string. -/
theorem Raw.convBytes {x : Operand} {t t2 d e : Nat} {s : ByteArray} {tmT : List (Nat × SV)} {ob : List (Nat × Ob)} {i i2 i3 : Ty} (hx : evT tmT x = some (.d (.u (.str s)))) (ht : lk t T = some i) (hk : i.k = .sr) (ht2 : lk t2 T = some i2) (hk2 : i2.k = .sl e) (ht3 : lk e T = some i3) (hk3 : i3.k = .in_ .u8) (hd : Nat.blt d nt = true) (k : K ((d, .d (.u (.sl 1 (s.data.toList.map fun b => [V.int .u8 (b.toNat : Int)])))) :: tmT) ob) : Raw P nt ⟨some d, .convert t t2 x, ty, pos, af, gd⟩ tmT ob K := ⟨fun Q c tm h ρ G g => by
  obtain ⟨vx, x1, x2⟩ := g.ev hx
  cases x2 with | d x2 => cases x2 with | u x2 => cases x2 with | str _ hs =>
  have ku := (hT.ok t i ht).kind
  rw [hk] at ku
  have ku : P.underlying t = some .string := ku
  have ku2 := (hT.ok t2 i2 ht2).kind
  rw [hk2] at ku2
  have ku2 : P.underlying t2 = some (.slice e) := ku2
  have ku3 := (hT.ok e i3 ht3).kind
  rw [hk3] at ku3
  have ku3 : P.underlying e = some (.int .u8) := ku3
  obtain ⟨F, w0, hp⟩ := h
  refine OpS.of_run hd fun a w ha hw => ?_
  have hrun := Go.Lib.run_convert_string_bytes w t t2 e s ku ku2 ku3
  have hsz := Go.Lib.bytesWorld_size w e s
  have hbel : Below w.heap.size w (Go.Lib.bytesWorld w e s) := ⟨by simp [Go.Lib.bytesWorld, World.freeze]; rfl, by simp [Go.Lib.bytesWorld, World.freeze], by simp [Go.Lib.bytesWorld, World.freeze]; rfl, by omega, fun j hj => Go.Lib.bytesWorld_at_old w e s j hj⟩
  obtain ⟨g2, hw2⟩ := Gd.newF g hw hbel (by omega)
  have hcap := grownCap_ge w s.size 0 e
  refine ⟨_, _, _, by simp [execOp, ha.ev x1, hrun], hw2, .of (g2.put (d := d) (s := .d (.u (.sl 1 (s.data.toList.map fun b => [V.int .u8 (b.toNat : Int)])))) (.d (.u (.sl (b := w.heap.size) (o := 0) (s.data.toList.map fun b => Value.int .u8 (b.toNat : Int)) (by simp) hcap hs (fun r hr => ?_) (fun _ => ⟨rfl, .inr rfl⟩) (by rw [bytes_flat]; simp) (fun j u hu => ?_) ?_ (fun j y u hy hu => ?_))))) k⟩
  · obtain ⟨b, _, rfl⟩ := List.mem_map.1 hr
    rfl
  · rw [List.getElem?_map] at hu
    cases hb : s.data.toList[j]? with
    | none => rw [hb] at hu; simp at hu
    | some b =>
      rw [hb] at hu
      simp only [Option.map_some, Option.some.injEq] at hu
      subst hu
      have hj : j < s.size := by have := (List.getElem?_eq_some_iff.1 hb).1; simpa using this
      have := Go.Lib.bytesWorld_cell w e s j hj
      rw [List.getD_eq_getElem?_getD, hb] at this
      simpa using this
  · refine List.all_eq_true.2 fun v hv => ?_
    obtain ⟨b, _, rfl⟩ := List.mem_map.1 hv
    rfl
  · rw [bytes_flat, List.getElem?_map] at hy
    rw [List.getElem?_map] at hu
    cases hb : s.data.toList[j]? with
    | none => rw [hb] at hu; simp at hu
    | some b =>
      rw [hb] at hu hy
      simp only [Option.map_some, Option.some.injEq] at hu hy
      subst hu hy
      exact .int _ _⟩
end
end Go.Proofs.YtabmcfnefjipbaaGreatDoor
namespace Go.Proofs.YtabmcfnefjipbaaGreatDoor
open Go.RowKit
abbrev byR (s : ByteArray) : List (List V) := s.data.toList.map fun b => [V.int .u8 (b.toNat : Int)]
set_option maxHeartbeats 2000000 in
theorem isName_T (s : ByteArray) : CallsA Tryz.prog 94 [dsr s] [] (Is (db (nameB s))) := by
  have hs0 := str_nil (s := s)
  by_cases h0 : s.size = 0
  · have e : nameB s = false := by simp [nameB, h0]
    rw [decide_eq_true h0] at hs0
    rw [e]
    refine callsA_of_vc (T := tt) Tryz.func94 rfl rfl rfl rfl rfl ?_
    repeat' ((conv => whnf); first | refine Gs.id ?_ | with_reducible refine Brn.T rfl ?_ | refine Brn.T (by (try simp only [smT]); first | rfl | assumption | fail) ?_ | fail)
    all_goals (conv => whnf)
    all_goals exact Ret.is rfl
  · rw [decide_eq_false h0] at hs0
    have hp : 0 < s.size := by omega
    have hg : s.data[0]?.getD 0 = s[0] := by simp [ByteArray.getElem_eq_getElem_data, hp]
    by_cases h1 : s.size ≤ 24
    · by_cases h2 : digB (s[0].toNat : Int) = true
      · have e : nameB s = false := by simp [nameB, hg, h2]
        rw [e]
        simp only [digB, Bool.and_eq_true, decide_eq_true_eq] at h2
        obtain ⟨h2, h3⟩ := h2
        refine callsA_of_vc (T := tt) Tryz.func94 rfl rfl rfl rfl rfl ?_
        repeat' ((conv => whnf); first | refine Sbx.mk ⟨0, hp, rfl, ?_⟩ | refine Gs.id ?_ | refine Brn.T (by (try simp only [smT]); first | rfl | assumption | fail) ?_ | refine Brn.F (by (try simp only [smT]); first | rfl | assumption | omega | fail) ?_ | (refine Bnd.mk (fun hm => ?_); (try simp only [smT] at hm)) | fail)
        all_goals (conv => whnf)
        all_goals exact Ret.is rfl
      · have h2 : digB (s[0].toNat : Int) = false := by simpa using h2
        have e : nameB s = okFrom s 0 := by rw [nameB, hg, h2, decide_eq_true hp, decide_eq_true h1]; rfl
        rw [e]
        have h3 : 48 ≤ (s[0].toNat : Int) → ¬ (s[0].toNat : Int) ≤ 57 := fun a b => by simp [digB] at h2; omega
        clear h2
        have key : ∀ (_ : True), True := fun _ => trivial
        have hc48 : (s[0].toNat : Int) < 48 ∨ 57 < (s[0].toNat : Int) := by
          by_cases q : 48 ≤ (s[0].toNat : Int)
          · right; have := h3 q; omega
          · left; omega
        clear h3 key
        generalize hx0 : (s[0].toNat : Int) = x0 at hc48
        refine callsA_of_vc (T := tt) Tryz.func94 rfl rfl rfl rfl rfl ?_
        repeat' ((conv => whnf); first | (refine Sbx.mk ⟨0, hp, rfl, ?_⟩; rw [hx0]) | refine Raw.convBytes (T := tt) rfl rfl rfl rfl rfl rfl rfl rfl ?_ | refine Gs.id ?_ | with_reducible refine Brn.F rfl ?_ | refine Brn.T (by (try simp only [smT]); first | rfl | assumption | fail) ?_ | refine Brn.F (by (try simp only [smT]); first | rfl | assumption | omega | fail) ?_ | (refine Brn.mk (fun hb => ?_) (fun hb => ?_) <;> (try simp only [smT] at hb) <;> (try (exact absurd trivial hb)) <;> (try (exfalso; omega))) | (refine Bnd.mk (fun hm => ?_); (try simp only [smT] at hm)) | fail)
        all_goals (conv => whnf)
        all_goals
          refine ⟨⟨Nat, fun i => i ≤ s.size ∧ okFrom s 0 = okFrom s i, fun i => s.size - i, fun i => ⟨[(23, .d (.u (.sl 1 (byR s)))), (24, di s.size), (25, di i)], []⟩, 0, ⟨Nat.zero_le _, rfl⟩, ⟨[], ⟨by (try dsimp only); (repeat (refine LeT.cons rfl (by first | exact LeS.d (by first | exact LeD.u rfl | exact LeD.u (by simp; done) | fail) | fail) ?_)); exact LeT.nil, by (try dsimp only); repeat (first | exact LeO.nil | fail)⟩⟩, fun i hi => ?_⟩⟩
          obtain ⟨hi, he⟩ := hi
          dsimp only
          by_cases h9 : i < s.size
          · rw [okFrom_step h9] at he
            rw [he]
            clear he e hg
            have hrow : ∀ {K : List V → Prop}, K [V.int .u8 (s[i].toNat : Int)] → Ix (byR s) (i : Int) K := fun k => Ix.map rfl (by simpa using h9) k
            generalize hx : (s[i].toNat : Int) = x at *
            by_cases hc : chB x = true
            · rw [hc, Bool.true_and]
              repeat' ((conv => whnf); first | refine hrow ?_ | refine Gs.id ?_ | with_reducible refine Brn.T rfl ?_ | with_reducible refine Brn.F rfl ?_ | refine Brn.T (by (try simp only [smT]); first | rfl | assumption | omega | fail) ?_ | refine Brn.F (by (try simp only [smT]); first | rfl | assumption | omega | fail) ?_ | (refine Brn.mk (fun hb => ?_) (fun hb => ?_) <;> (try simp only [smT] at hb) <;> (try (exact absurd trivial hb)) <;> (try (exfalso; omega))) | refine Rng.mk (by (try simp only [smT]); omega) ?_ | fail)
              all_goals (conv => whnf)
              all_goals first
                | exact ⟨i + 1, ⟨by omega, rfl⟩, by omega, [], ⟨by (try dsimp only); (repeat (refine LeT.cons rfl (by first | exact LeS.d (by first | exact LeD.u rfl | fail) | fail) ?_)); exact LeT.nil, by (try dsimp only); repeat (first | exact LeO.nil | fail)⟩⟩
                | (exfalso; simp [chB, digB] at hc; simp_all; done)
                | (exfalso; simp [chB, digB] at hc; simp_all; omega)
            · have hc : chB x = false := by simpa using hc
              rw [hc, Bool.false_and]
              repeat' ((conv => whnf); first | refine hrow ?_ | refine Gs.id ?_ | with_reducible refine Brn.T rfl ?_ | with_reducible refine Brn.F rfl ?_ | refine Brn.T (by (try simp only [smT]); first | rfl | assumption | omega | fail) ?_ | refine Brn.F (by (try simp only [smT]); first | rfl | assumption | omega | fail) ?_ | (refine Brn.mk (fun hb => ?_) (fun hb => ?_) <;> (try simp only [smT] at hb) <;> (try (exact absurd trivial hb)) <;> (try (exfalso; omega))) | refine Rng.mk (by (try simp only [smT]); omega) ?_ | fail)
              all_goals (conv => whnf)
              all_goals first
                | exact Ret.is rfl
                | (exfalso; simp [chB, digB] at hc; simp_all; done)
                | (exfalso; simp [chB, digB] at hc; simp_all; omega)
          · obtain rfl : i = s.size := by omega
            rw [he, okFrom_end]
            repeat' ((conv => whnf); first | refine Gs.id ?_ | refine Brn.F (by (try simp only [smT]); first | rfl | omega | fail) ?_ | fail)
            all_goals (conv => whnf)
            all_goals exact Ret.is rfl
    · have e : nameB s = false := by simp [nameB, h1]
      rw [e]
      refine callsA_of_vc (T := tt) Tryz.func94 rfl rfl rfl rfl rfl ?_
      repeat' ((conv => whnf); first | refine Gs.id ?_ | with_reducible refine Brn.T rfl ?_ | refine Brn.T (by (try simp only [smT]); first | rfl | omega | fail) ?_ | refine Brn.F (by (try simp only [smT]); first | rfl | assumption | fail) ?_ | (refine Bnd.mk (fun hm => ?_); (try simp only [smT] at hm)) | fail)
      all_goals (conv => whnf)
      all_goals exact Ret.is rfl
end Go.Proofs.YtabmcfnefjipbaaGreatDoor
namespace Go.Proofs.YtabmcfnefjipbaaGreatDoor
open Go.RowKit
theorem isName_T' (s : ByteArray) : CallsA Tryz.prog 57 [dsr s] [] (Is (db (nameB s))) := by
  have h := isName_T s
  refine callsA_of_vc (T := tt) Tryz.func57 rfl rfl rfl rfl rfl ?_
  repeat' ((conv => whnf); first | refine Gs.id ?_ | (refine CL.mk (Or.inl ?_); (conv => whnf); refine Cl.is (h) rfl (by first | exact fun _ => rfl | fail) ?_) | fail)
  all_goals (conv => whnf)
  all_goals exact Ret.is rfl
def parts (s : ByteArray) : List ByteArray := (splitB s 46 (s.size + 1)).1
def dottedB (s : ByteArray) : Bool := (parts s).all nameB && decide ((s.size : Int) ≤ 60)
theorem split46_R (s : ByteArray) (hs : s.size ≤ 1000000000000) : CallsA Tryz.prog 66 [dsr s, dby 46] [] (Is (.d (.u (.sl 1 (strs (parts s)))))) := split_R s 46 hs
theorem dotted_R (s : ByteArray) (hs : s.size ≤ 1000000000000) : CallsA Tryz.prog 36 [dsr s] [] (Is (db (dottedB s))) := by
  have h := split46_R s hs
  rw [dottedB]
  generalize parts s = l at *
  refine callsA_of_vc (T := tt) Tryz.func36 rfl rfl rfl rfl rfl ?_
  repeat' ((conv => whnf); first | refine Gs.id ?_ | (refine CL.mk (Or.inl ?_); (conv => whnf); refine Cl.is (h) rfl (by first | (intro e; cases e; done) | fail) ?_) | fail)
  all_goals (conv => whnf)
  refine ⟨⟨Nat, fun i => i ≤ l.length ∧ l.all nameB = (l.drop i).all nameB, fun i => l.length - i, fun i => ⟨[(0, dsr s), (3, .d (.u (.sl 1 (strs l)))), (4, di i)], []⟩, 0, ⟨Nat.zero_le _, rfl⟩, ⟨[], ⟨by (try dsimp only); (repeat (refine LeT.cons rfl (by first | exact LeS.d (by first | exact LeD.u rfl | fail) | fail) ?_)); exact LeT.nil, by (try dsimp only); repeat (first | exact LeO.nil | fail)⟩⟩, fun i hi => ?_⟩⟩
  obtain ⟨hi, he⟩ := hi
  dsimp only
  by_cases h9 : i < l.length
  · rw [List.drop_eq_getElem_cons h9, List.all_cons] at he
    have hrow : ∀ {K : List V → Prop}, K [V.str l[i]] → Ix (strs l) (i : Int) K := fun k => Ix.map rfl h9 k
    generalize l[i] = x at *
    have hn := name_R x
    rw [he]
    cases hx : nameB x
    · rw [hx] at hn
      rw [Bool.false_and, Bool.false_and]
      repeat' ((conv => whnf); first | refine hrow ?_ | refine Gs.id ?_ | with_reducible refine Brn.T rfl ?_ | refine Brn.T (by (try simp only [smT]); first | rfl | omega | fail) ?_ | (refine Bnd.mk (fun hm => ?_); (try simp only [smT] at hm)) | (refine CL.mk (Or.inl ?_); (conv => whnf); refine Cl.is (hn) rfl (by first | exact fun _ => rfl | fail) ?_) | fail)
      all_goals (conv => whnf)
      all_goals exact Ret.is rfl
    · rw [hx] at hn
      rw [Bool.true_and]
      repeat' ((conv => whnf); first | refine hrow ?_ | refine Gs.id ?_ | with_reducible refine Brn.F rfl ?_ | refine Brn.T (by (try simp only [smT]); first | rfl | omega | fail) ?_ | (refine Bnd.mk (fun hm => ?_); (try simp only [smT] at hm)) | refine Rng.mk (by (try simp only [smT]); omega) ?_ | (refine CL.mk (Or.inl ?_); (conv => whnf); refine Cl.is (hn) rfl (by first | exact fun _ => rfl | fail) ?_) | fail)
      all_goals (conv => whnf)
      all_goals exact ⟨i + 1, ⟨by omega, rfl⟩, by omega, [], ⟨by (try dsimp only); (repeat (refine LeT.cons rfl (by first | exact LeS.d (by first | exact LeD.u rfl | fail) | fail) ?_)); exact LeT.nil, by (try dsimp only); repeat (first | exact LeO.nil | fail)⟩⟩
  · obtain rfl : i = l.length := by omega
    have ha : l.all nameB = true := by rw [he]; simp
    rw [ha, Bool.true_and]
    repeat' ((conv => whnf); first | refine Gs.id ?_ | refine Brn.F (by (try simp only [smT]); first | rfl | omega | fail) ?_ | (refine Bnd.mk (fun hm => ?_); (try simp only [smT] at hm)) | fail)
    all_goals (conv => whnf)
    all_goals exact Ret.is rfl
theorem strings_R (a b : List ByteArray) : CallsA Tryz.prog 15 [.d (.u (strs' a)), .d (.u (strs' b))] [] (Is (db (decide (a = b)))) := by
  by_cases hl : a.length = b.length
  · refine callsA_of_vc (T := tt) Tryz.func15 rfl rfl rfl rfl rfl ?_
    repeat' ((conv => whnf); first | refine Gs.id ?_ | refine Brn.F (by (try simp only [smT]); first | rfl | omega | fail) ?_ | (refine Bnd.mk (fun hm => ?_); (try simp only [smT] at hm)) | fail)
    all_goals (conv => whnf)
    refine ⟨⟨Nat, fun i => i ≤ a.length ∧ decide (a = b) = decide (a.drop i = b.drop i), fun i => a.length - i, fun i => ⟨[(0, .d (.u (strs' a))), (1, .d (.u (strs' b))), (5, di i)], []⟩, 0, ⟨Nat.zero_le _, rfl⟩, ⟨[], ⟨by (try dsimp only); (repeat (refine LeT.cons rfl (by first | exact LeS.d (by first | exact LeD.u rfl | fail) | fail) ?_)); exact LeT.nil, by (try dsimp only); repeat (first | exact LeO.nil | fail)⟩⟩, fun i hi => ?_⟩⟩
    obtain ⟨hi, he⟩ := hi
    dsimp only
    by_cases h9 : i < a.length
    · have h10 : i < b.length := by omega
      rw [List.drop_eq_getElem_cons h9, List.drop_eq_getElem_cons h10] at he
      have hra : ∀ {K : List V → Prop}, K [V.str a[i]] → Ix (strs a) (i : Int) K := fun k => Ix.map rfl h9 k
      have hrb : ∀ {K : List V → Prop}, K [V.str b[i]] → Ix (strs b) (i : Int) K := fun k => Ix.map rfl h10 k
      have hxy := toList_beq a[i] b[i]
      generalize a[i] = x at *
      generalize b[i] = y at *
      by_cases hq : x = y
      · subst hq
        rw [decide_eq_true rfl] at hxy
        have he2 : decide (a = b) = decide (a.drop (i + 1) = b.drop (i + 1)) := by rw [he]; simp
        clear he
        rw [he2]
        repeat' ((conv => whnf); first | refine hra ?_ | refine hrb ?_ | refine Gs.id ?_ | refine Brn.T (by (try simp only [smT]); first | rfl | omega | fail) ?_ | refine Brn.F (by (try simp only [smT]); first | rfl | assumption | fail) ?_ | (refine Bnd.mk (fun hm => ?_); (try simp only [smT] at hm)) | refine Rng.mk (by (try simp only [smT]); omega) ?_ | refine Drw.of (T := tt) (i := 6) [] [] [(0, true), (1, true), (2, true), (3, true), (4, true), (5, true), (6, true), (7, true), (8, true)] (by kernel_rfl) ?_)
        all_goals (conv => whnf)
        all_goals exact ⟨i + 1, ⟨by omega, rfl⟩, by omega, [], ⟨by (try dsimp only); (repeat (refine LeT.cons rfl (by first | exact LeS.d (by first | exact LeD.u rfl | fail) | fail) ?_)); exact LeT.nil, by (try dsimp only); repeat (first | exact LeO.nil | fail)⟩⟩
      · rw [decide_eq_false hq] at hxy
        have he2 : decide (a = b) = false := by rw [he]; exact decide_eq_false fun e => hq (List.cons.inj e).1
        rw [he2]
        clear he he2
        repeat' ((conv => whnf); first | refine hra ?_ | refine hrb ?_ | refine Gs.id ?_ | refine Brn.T (by (try simp only [smT]); first | rfl | assumption | omega | fail) ?_ | (refine Bnd.mk (fun hm => ?_); (try simp only [smT] at hm)) | refine Drw.of (T := tt) (i := 6) [] [] [(0, true), (1, true), (2, true), (3, true), (4, true), (5, true), (6, true), (7, true), (8, true)] (by kernel_rfl) ?_)
        all_goals (conv => whnf)
        all_goals exact Ret.is rfl
    · obtain rfl : i = a.length := by omega
      have e2 : decide (a = b) = true := by rw [he]; simp; omega
      rw [e2]
      repeat' ((conv => whnf); first | refine Gs.id ?_ | refine Brn.F (by (try simp only [smT]); first | rfl | omega | fail) ?_ | (refine Bnd.mk (fun hm => ?_); (try simp only [smT] at hm)) | fail)
      all_goals (conv => whnf)
      all_goals exact Ret.is rfl
  · have e : decide (a = b) = false := decide_eq_false fun e => hl (by rw [e])
    rw [e]
    refine callsA_of_vc (T := tt) Tryz.func15 rfl rfl rfl rfl rfl ?_
    repeat' ((conv => whnf); first | refine Gs.id ?_ | refine Brn.T (by (try simp only [smT]); first | rfl | omega | fail) ?_ | (refine Bnd.mk (fun hm => ?_); (try simp only [smT] at hm)) | fail)
    all_goals (conv => whnf)
    all_goals exact Ret.is rfl
end Go.Proofs.YtabmcfnefjipbaaGreatDoor
namespace Go.Proofs.YtabmcfnefjipbaaGreatDoor
open Go.RowKit
section
variable {P : Program} {T : List (Nat × Ty)} [hT : Tys P T] {nt : Nt} {ty : TypeId} {pos : String} {af : Array Edge} {gd : Option (Nat × Bool)} {K : Kt}
omit hT in
theorem Raw.extSB {f : FuncId} {fn : Func} {e : Array Value → Sem Value} {x y : Operand} {ts : Array TypeId} {d : Nat} {st : ByteArray} {b r : Int} {tmT : List (Nat × SV)} {ob : List (Nat × Ob)} (hx : evT tmT x = some (.d (.u (.str st)))) (hy : evT tmT y = some (.d (.u (.int .u8 b)))) (hf : P.funcs[f]? = some fn) (hname : (fn.name == "runtime.NumGoroutine") = false) (hb : fn.body.isNone = true) (hn : Extern.findNext fn = none) (he : Extern.find fn = some e) (hr : ∀ w, (e #[.string st, .int .u8 b]).run P w = .ok (.int .i64 r) w) (hd : Nat.blt d nt = true) (k : K ((d, .d (.u (.int .i64 r))) :: tmT) ob) : Raw P nt ⟨some d, .call ⟨.value (.func f), #[x, y], ts⟩, ty, pos, af, gd⟩ tmT ob K := ⟨fun Q c tm h ρ G g => by
  obtain ⟨vx, x1, x2⟩ := g.ev hx
  cases x2 with | d x2 => cases x2 with | u x2 => cases x2 with | str _ hs =>
  have y1 := evT_int g hy
  refine OpS.yd (v := .int .i64 r) ⟨fun a w ha hw => ?_⟩ hd (.of (g.put (.d (.u (.int _ _)))) k)
  have hargs : #[x, y].map a.eval = #[.string st, .int .u8 b] := by simp [ha.ev x1, ha.ev y1]
  simp only [execOp, resolve, Sem.run_bind, hargs, Deferred.ofValue, Act.eval, invoke]
  simp [run_callFunc_extern hf hname hb hn he, hr]⟩
end
end Go.Proofs.YtabmcfnefjipbaaGreatDoor
