/-
  Part 5 of the proof of scale_holds: laws and contracts that it needs.
-/
import Derived.Test.YtgiebofmfkacgaaQb4
namespace Go.Proofs.Ytgiebofmfkacgaa
open Go.RowKit
section
variable {P : Program} {T : List (Nat × Ty)} {nt : Nat} {Q : Exit → Act → World → Prop} {c : Cx} {st : St} {tm : List (Nat × Value)} {h : Hs} {ρ : Rho} {G : FG} {ty : TypeId} {pos : String} {af : Array Edge} {gd : Option (Nat × Bool)} {K : Kt}
def putD (d : Option Tmp) (v : Value) (tm : List (Nat × Value)) : List (Nat × Value) := match d with
  | some d => (d, v) :: tm
  | none => tm
/-- A call of a function value. -/
theorem OpS.callV {d : Option Tmp} {x : Operand} {f : FuncId} {fn : Func} {cd : Code} {xs : List Operand} {ts : Array TypeId} {vs us : List Value} {K : List (Nat × Value) → Hs → Prop} (M : Value → Hs → Prop) (hx0 : ev tm x = some (.func (.func f) #[] us.toArray)) (hf : P.funcs[f]? = some fn) (hb : fn.body = some cd) (hnm : (fn.name == "runtime.NumGoroutine") = false) (hx : ArgsL tm xs vs)
    (hd : (match d with | some d => Nat.blt d nt | none => true) = true)
    (hC : ∀ w, Hp h w → Calls P f (vs ++ us).toArray w fun e w' => ∃ v h', e = .returned v ∧ Hp h' w' ∧ M v h') (k : ∀ v h', M v h' → K (putD d v tm) h') : OpS P nt Q ⟨d, .call ⟨.value x, xs.toArray, ts⟩, ty, pos, af, gd⟩ tm h K :=
  ⟨fun a w ha hw => by
    have hargs : xs.toArray.map a.eval = vs.toArray := by rw [List.map_toArray, hx.eq ha]
    have hrun : (execOp a.eval ⟨d, .call ⟨.value x, xs.toArray, ts⟩, ty, pos, af, gd⟩).run P w = .ok (.enter f (vs ++ us).toArray) w := by
      have hnm' : ¬ fn.name = "runtime.NumGoroutine" := by simpa using hnm
      simp only [execOp, resolve, Sem.run_bind, hargs, Deferred.ofValue, ha.ev hx0, invoke, callFunc]
      simp [hf, hb, hnm']
    unfold Oper.wp
    rw [hrun]
    refine (hC w hw).mono ?_
    rintro e w' ⟨v, h', rfl, h1, h2⟩
    cases d with
    | some d => exact ⟨_, h', ha.put (by simpa using hd) v, h1, k v h' h2⟩
    | none => exact ⟨_, h', ha, h1, k v h' h2⟩⟩
/-- A function value: the function, what it holds. -/
def fnT : Option SV → Option (FuncId × List SV)
  | some (.d (.fn f ks)) => some (f, ks.map fun k => SV.d (.p k 0))
  | some (.d (.u (.fn f))) => some (f, [])
  | some (.d (.u (.cl f cs))) => some (f, cs.map fun c => SV.d (.q c 0))
  | _ => none
theorem fnT_ev (g : Gd c st tm h ρ G) {x : Operand} {f : FuncId} {ks : List SV} (hx : fnT (evT st.tm x) = some (f, ks)) : ∃ us : List Value, ev tm x = some (.func (.func f) #[] us.toArray) ∧ us.length = ks.length ∧ ∀ (j : Nat) s v, ks[j]? = some s → us[j]? = some v → DenS ρ ⟨G, h.w0⟩ s v := by
  unfold fnT at hx
  split at hx
  · rename_i f' ks' e
    injection hx with hx
    injection hx with e1 e2
    subst e1 e2
    obtain ⟨v, hv, hs⟩ := g.ev e
    cases hs with | d hs => cases hs with | fn us hl hd =>
    refine ⟨us, hv, by simp [hl], fun j s v h1 h2 => ?_⟩
    rw [List.getElem?_map] at h1
    cases hj : ks'[j]? with
    | none => rw [hj] at h1; cases h1
    | some k =>
      rw [hj] at h1
      simp only [Option.map_some, Option.some.injEq] at h1
      subst h1
      obtain ⟨b, cc, sz, q1, rfl⟩ := hd j k v hj h2
      exact .d (.p q1)
  · rename_i f' e
    injection hx with hx
    injection hx with e1 e2
    subst e1 e2
    obtain ⟨v, hv, hs⟩ := g.ev e
    cases hs with | d hs => cases hs with | u hs => cases hs with | fn =>
    exact ⟨[], hv, rfl, fun j s v h1 h2 => by simp at h2⟩
  · rename_i f' cs e
    injection hx with hx
    injection hx with e1 e2
    subst e1 e2
    obtain ⟨v, hv, hs⟩ := g.ev e
    cases hs with | d hs => cases hs with | u hs =>
    obtain ⟨us, rfl, q2, q3⟩ := DenV.cl_inv (ρ := ρ) hs
    refine ⟨us, hv, by simp [q2], fun j s v h1 h2 => ?_⟩
    rw [List.getElem?_map] at h1
    cases hj : cs[j]? with
    | none => rw [hj] at h1; cases h1
    | some k =>
      rw [hj] at h1
      simp only [Option.map_some, Option.some.injEq] at h1
      subst h1
      exact .d (q3 j k v hj h2)
  · cases hx
/-- A call of a function value that lends the objects ps; ns: the names that it may give anew. -/
theorem Raw.callF {x : Operand} {f : FuncId} {ks : List SV} {xs : Array Operand} {ts : Array TypeId} {d : Option Tmp} {tmT tmK : List (Nat × SV)} {ob obP obF : List (Nat × Ob)} (ps ns : List Nat) {ss : List SV} {QS : SV → List (Nat × Ob) → Prop} (hf : fnT (evT tmT x) = some (f, ks)) (hT : keepTm (fun k => !inN ns k) [] tmT = tmK) (hO : (splitOb ps ob).1 = obP) (hO' : cleanOb (fun k => !inN ns k) (splitOb ps ob).2 = obF) (hx : evLT tmT xs.toList = some ss)
    (h2 : okO (fun k => !inN ns k) obF = true) (h3 : okO (inN ns) obP = true) (hd : (match d with | some d => Nat.blt d nt | none => true) = true) (hc : CallsA P f (ss ++ ks) obP QS) (k : ∀ s ob', QS s ob' → Bk d ns tmK obF K s ob') : Raw P nt ⟨d, .call ⟨.value x, xs, ts⟩, ty, pos, af, gd⟩ tmT ob K := ⟨fun Q c tm h ρ G g => by
  obtain ⟨F, w0, hp⟩ := h
  obtain ⟨ha, hb, o1, o2, o3⟩ := splitOb_ok (ps := ps) g.ob
  rw [hO] at o1
  replace o2 := cleanOb_ok (p := fun k => !inN ns k) o2
  rw [hO'] at o2
  have g2 : Gd c ⟨tmT, obP ++ obF⟩ tm ⟨F, w0, ha ++ hb⟩ ρ G := ⟨g.fF, g.fw, g.gF, g.gx, g.fm, g.tm, o1.append o2⟩
  have hh : ∀ w, Hp ⟨F, w0, hp⟩ w → Hp ⟨F, w0, ha ++ hb⟩ w := fun w hw => hw.perm o3
  subst hT
  obtain ⟨us, u1, u2, u3⟩ := fnT_ev g2 hf
  obtain ⟨vs, a1, a2, a3⟩ := evLT_ev g2 hx
  have hlen : (vs ++ us).length = (ss ++ ks).length := by simp [a2, u2]
  have hden : ∀ (j : Nat) s v, (ss ++ ks)[j]? = some s → (vs ++ us)[j]? = some v → DenS ρ ⟨G, w0⟩ s v := by
    intro j s v h1 h2
    by_cases hj : j < ss.length
    · rw [List.getElem?_append_left hj] at h1
      rw [List.getElem?_append_left (by rw [a2]; exact hj)] at h2
      exact a3 j s v h1 h2
    · rw [List.getElem?_append_right (by omega)] at h1
      rw [List.getElem?_append_right (by rw [a2]; omega), a2] at h2
      exact u3 _ s v h1 h2
  have hcall := callO_vals (tmK := keepTm (fun k => !inN ns k) [] tmT) g2 hlen hden (fun k s h => (keepTm_get h).2) keepTm_ok h2 h3 hc
  obtain ⟨fn, cd, f1, f2, f3⟩ := hc.fn
  have hxs : xs = xs.toList.toArray := by simp
  rw [hxs]
  refine OpS.callV (P := P) (nt := nt) (Q := Q) (fun v h2 => Kd c K (putD d v tm) h2) u1 f1 f2 f3 a1 hd (fun w hw => (hcall w (hh w hw)).mono ?_) fun _ _ hk => hk
  rintro e w' ⟨v, h3, s, ob', ρ', G', rfl, hw3, hq, hg, _⟩
  obtain ⟨b1, b2, b3⟩ := k s ob' hq
  obtain ⟨q1, q2⟩ := hg b1 b2
  cases d with
  | some d => exact ⟨v, h3, rfl, hw3, .of (q2.put q1) b3⟩
  | none => exact ⟨v, h3, rfl, hw3, .of q2 b3⟩⟩
theorem Gd.slot {st : St} (g : Gd c st tm h ρ G) {t : Nat} {s : SV} {v : Value} (hv : lk t tm = some v) (hs : DenS ρ ⟨G, h.w0⟩ s v) : Gd c ⟨(t, s) :: st.tm, st.ob⟩ tm h ρ G :=
  ⟨g.fF, g.fw, g.gF, g.gx, g.fm, fun k u hk => by
    simp only [lk] at hk
    cases hb : Nat.beq k t
    · rw [hb] at hk; exact g.tm k u hk
    · rw [hb] at hk
      simp only [cond_true, Option.some.injEq] at hk
      subst hk
      rw [Nat.eq_of_beq_eq_true hb]
      exact ⟨v, hv, hs⟩, g.ob⟩
/-- An array that a cell of a member owns moves out and is an own array from here on. -/
theorem Gd.take {tmT : List (Nat × SV)} {ob : List (Nat × Ob)} {F : Nat → Prop} {w0 : World} {hp : List (Nat × Hb)} (g : Gd c ⟨tmT, ob⟩ tm ⟨F, w0, hp⟩ ρ G) {K0 t k0 m o sz n u e : Nat} {rs : List (List E)} {row : List E} {rr : List (List V)} (hx : lk t tmT = some (.d (D.r k0 m o sz n))) (hkf : lk k0 ob = some (.fm u rs)) (h1 : famOne k0 ob = true) (hrow : rs[m]? = some row) (ho : nth row o = some (.os e sz rr)) (hn : rr.length = n)
    (hnew : newN K0 (dropT k0 tmT) (dropO k0 (obu k0 (.fm u (rs.set m (row.set o .hl))) ob)) = true) :
    ∃ hq ρ', hp.Perm hq ∧ Gd c ⟨(t, .d (.ow K0 n)) :: dropT k0 tmT, (K0, .ar e sz rr) :: dropO k0 (obu k0 (.fm u (rs.set m (row.set o .hl))) ob)⟩ tm ⟨F, w0, hq⟩ ρ' G := by
  rw [nth_eq] at ho
  obtain ⟨vx, q1, q2⟩ := g.tm t _ hx
  have hmem : ∃ b, (G.fam k0)[m]? = some b := by
    obtain ⟨Y, f, ⟨a1, _⟩, _⟩ := g.ob.at_ hkf
    obtain ⟨b, _, _, _, a2, _⟩ := a1.split hrow
    exact ⟨b, a2⟩
  obtain ⟨b0, hb0⟩ := hmem
  cases q2 with | d q2 => cases q2 with | @r _ _ _ _ _ cc A x0 xA xc xm =>
  obtain ⟨b, us, Xe, rest, _, hlt, hone, ⟨u0, hu0, A', cc', us1, rfl, rfl, t3, t4, t5, t6⟩, p1, _, p3⟩ := g.famPut (e' := .hl) (v := .slice A n cc) (p := .pointer (some ⟨b0, o, none⟩)) hkf h1 (.m hb0) hrow ho
  rw [x0] at t3
  injection t3 with t3
  injection t3 with e1 e2 _
  subst e1 e2
  obtain ⟨hq, z1, z2⟩ := p3 (some ⟨A, cc, sz⟩) [] ⟨rfl, rfl⟩
  have hset : us.set o (.slice A n cc) = us := by
    rw [hn] at hu0
    apply List.ext_getElem?
    intro jj
    rw [List.getElem?_set]
    split
    · rename_i ej; subst ej
      first | (rw [if_pos hlt, hu0]; done) | exact hu0.symm | (simp only [hlt, if_true]; exact hu0.symm)
    · rfl
  rw [hset] at z1
  have pp : hp.Perm (hbA A e us1 cc sz ++ ((b, ⟨u, us, us.length⟩) :: rest)) := p1.trans List.perm_middle.symm
  have hob : ObOk (upd (updOs ρ k0 m o (some ⟨A, cc, sz⟩)) K0 ⟨A, cc, sz⟩) ⟨G, w0⟩ K0 (.ar e sz rr) (hbA A e us1 cc sz) := ⟨A, cc, us1, rfl, upd_self, t4, t5, t6⟩
  have g1 := (z2.new (st := ⟨dropT k0 tmT, _⟩) hnew hob).slot (t := t) (s := .d (.ow K0 n)) q1 (.d (.ow (l := ⟨A, cc, sz⟩) upd_self (fun hA0 => by
    rcases xA with ⟨_, e0⟩ | ⟨b, e0⟩
    · exact e0
    · dsimp only at hA0; rw [e0] at hA0; cases hA0) xc))
  exact ⟨_, _, pp.trans (z1.append_left _).symm, g1⟩
theorem Ghost.take {tmT : List (Nat × SV)} {ob : List (Nat × Ob)} (K0 t : Nat) {k0 m o sz n u e : Nat} {rs : List (List E)} {row : List E} {rr : List (List V)} (hx : lk t tmT = some (.d (D.r k0 m o sz n))) (hkf : lk k0 ob = some (.fm u rs)) (h1 : famOne k0 ob = true) (hrow : rs[m]? = some row) (ho : nth row o = some (.os e sz rr)) (hn : rr.length = n)
    (hnew : newN K0 (dropT k0 tmT) (dropO k0 (obu k0 (.fm u (rs.set m (row.set o .hl))) ob)) = true) : Ghost tmT ob ((t, .d (.ow K0 n)) :: dropT k0 tmT) ((K0, .ar e sz rr) :: dropO k0 (obu k0 (.fm u (rs.set m (row.set o .hl))) ob)) := ⟨fun c tm h ρ G w g hw => by
  obtain ⟨F, w0, hp⟩ := h
  obtain ⟨hq, ρ', q1, q2⟩ := g.take hx hkf h1 hrow ho hn hnew
  exact ⟨_, ρ', G, q2, hw.perm q1⟩⟩
/-- The same, ahead of an operation. -/
theorem Raw.take {op : Oper} {tmT : List (Nat × SV)} {ob : List (Nat × Ob)} (K0 t : Nat) {k0 m o sz n u e : Nat} {rs : List (List E)} {row : List E} {rr : List (List V)} (hx : lk t tmT = some (.d (D.r k0 m o sz n))) (hkf : lk k0 ob = some (.fm u rs)) (h1 : famOne k0 ob = true) (hrow : rs[m]? = some row) (ho : nth row o = some (.os e sz rr)) (hn : rr.length = n)
    (hnew : newN K0 (dropT k0 tmT) (dropO k0 (obu k0 (.fm u (rs.set m (row.set o .hl))) ob)) = true) (k : Raw P nt op ((t, .d (.ow K0 n)) :: dropT k0 tmT) ((K0, .ar e sz rr) :: dropO k0 (obu k0 (.fm u (rs.set m (row.set o .hl))) ob)) K) : Raw P nt op tmT ob K := ⟨fun Q c tm h ρ G g => by
  obtain ⟨F, w0, hp⟩ := h
  obtain ⟨hq, ρ', q1, q2⟩ := g.take hx hkf h1 hrow ho hn hnew
  exact OpS.wk (fun w hw => hw.perm q1) (k.out Q c tm _ ρ' G q2)⟩
end
/-- A box that is written no more is seen as frozen cells. -/
def qD (k : Nat) (ys : List V) : D → D
  | .p j o => bif Nat.beq j k then .q ys o else .p j o
  | d => d
def qL (k : Nat) (ys : List V) : List D → List D
  | [] => []
  | x :: r => qD k ys x :: qL k ys r
def qC (k : Nat) (ys : List V) : List SC → List SC
  | [] => []
  | .d x :: r => .d (qD k ys x) :: qC k ys r
  | .a xs :: r => .a (qL k ys xs) :: qC k ys r
def qS (k : Nat) (ys : List V) : SV → SV
  | .d x => .d (qD k ys x)
  | .a xs => .a (qL k ys xs)
  | .t vs => .t (qC k ys vs)
def qTm (k : Nat) (ys : List V) : List (Nat × SV) → List (Nat × SV)
  | [] => []
  | (j, s) :: r => (j, qS k ys s) :: qTm k ys r
def qOb (k : Nat) (ys : List V) : List (Nat × Ob) → List (Nat × Ob)
  | [] => []
  | (j, .bx t cs) :: r => (j, .bx t (qL k ys cs)) :: qOb k ys r
  | (j, .ar t m ss) :: r => (j, .ar t m ss) :: qOb k ys r
  | (j, .fm t ss) :: r => (j, .fm t ss) :: qOb k ys r
section
variable {ρ : Rho} {z : Fz} {k : Nat} {ys : List V}
theorem qD_den (fz : ∀ o v, Den ρ z (.p k o) v → Den ρ z (.q ys o) v) {d : D} {v : Value} (h : Den ρ z d v) : Den ρ z (qD k ys d) v := by
  cases d <;> simp only [qD] <;> first | exact h | skip
  rename_i j o
  cases hb : Nat.beq j k <;> simp only [cond_false, cond_true]
  · exact h
  · have := Nat.eq_of_beq_eq_true hb
    subst this
    exact fz o v h
theorem qL_den (fz : ∀ o v, Den ρ z (.p k o) v → Den ρ z (.q ys o) v) : ∀ {ds : List D} {us : List Value}, DenL ρ z ds us → DenL ρ z (qL k ys ds) us
  | [], us, h => h
  | d :: r, us, h => by
    have hl := h.len
    cases us with
    | nil => simp at hl
    | cons x us => exact (qL_den fz (ds := r) (us := us) ⟨by simpa using hl, by have := h.one; simp at this; simpa using this.2, fun j d v e1 e2 => h.den (j + 1) d v (by simpa using e1) (by simpa using e2)⟩).cons (qD_den fz (h.den 0 d x rfl rfl))
theorem qL_len : ∀ {ds : List D}, (qL k ys ds).length = ds.length
  | [] => rfl
  | _ :: r => by simp [qL, qL_len (ds := r)]
theorem qC_get : ∀ {ss : List SC} {j : Nat} {s' : SC}, (qC k ys ss)[j]? = some s' → ∃ s, ss[j]? = some s ∧ ((∃ x, s = .d x ∧ s' = .d (qD k ys x)) ∨ ∃ xs, s = .a xs ∧ s' = .a (qL k ys xs))
  | [], j, s', h => by simp [qC] at h
  | s :: r, 0, s', h => by
    cases s with
    | d x => simp [qC] at h; subst h; exact ⟨_, rfl, .inl ⟨x, rfl, rfl⟩⟩
    | a xs => simp [qC] at h; subst h; exact ⟨_, rfl, .inr ⟨xs, rfl, rfl⟩⟩
  | s :: r, j + 1, s', h => by
    have : (qC k ys r)[j]? = some s' := by cases s <;> simpa [qC] using h
    obtain ⟨s0, q1, q2⟩ := qC_get this
    exact ⟨s0, by simpa using q1, q2⟩
theorem qC_len : ∀ {ss : List SC}, (qC k ys ss).length = ss.length
  | [] => rfl
  | s :: r => by cases s <;> simp [qC, qC_len (ss := r)]
theorem qS_den (fz : ∀ o v, Den ρ z (.p k o) v → Den ρ z (.q ys o) v) {s : SV} {v : Value} (h : DenS ρ z s v) : DenS ρ z (qS k ys s) v := by
  cases h with
  | d h => exact .d (qD_den fz h)
  | a h => exact .a (qL_den fz h)
  | t hl hd =>
    refine .t (by rw [qC_len]; exact hl) fun j s v e1 e2 => ?_
    obtain ⟨s0, q1, q2⟩ := qC_get e1
    have h0 := hd j s0 v q1 e2
    rcases q2 with ⟨x, rfl, rfl⟩ | ⟨xs, rfl, rfl⟩
    · cases h0 with | d h0 => exact .d (qD_den fz h0)
    · cases h0 with | a h0 => exact .a (qL_den fz h0)
theorem qTm_lk : ∀ {tm : List (Nat × SV)} {j : Nat} {s' : SV}, lk j (qTm k ys tm) = some s' → ∃ s, lk j tm = some s ∧ s' = qS k ys s
  | [], j, s', h => by simp [qTm, lk] at h
  | (i, s) :: r, j, s', h => by
    simp only [qTm, lk] at h ⊢
    cases hb : Nat.beq j i <;> rw [hb] at h
    · exact qTm_lk (tm := r) h
    · simp only [cond_true, Option.some.injEq] at h
      exact ⟨s, rfl, h.symm⟩
theorem qOb_den (fz : ∀ o v, Den ρ z (.p k o) v → Den ρ z (.q ys o) v) : ∀ {ob : List (Nat × Ob)} {hp : List (Nat × Hb)}, ObsOk ρ z ob hp → ObsOk ρ z (qOb k ys ob) hp
  | [], _, h => h
  | (j, .bx t cs) :: r, hp, ⟨Y, hp', h1, ⟨b, us, h2, h3, h4⟩, h5⟩ => ⟨Y, hp', h1, ⟨b, us, by rw [qL_len]; exact h2, by rw [qL_len]; exact h3, qL_den fz h4⟩, qOb_den fz h5⟩
  | (j, .ar t m ss) :: r, hp, ⟨Y, hp', h1, h2, h5⟩ => ⟨Y, hp', h1, h2, qOb_den fz h5⟩
  | (j, .fm t ss) :: r, hp, ⟨Y, hp', h1, h2, h5⟩ => ⟨Y, hp', h1, h2, qOb_den fz h5⟩
end
/-- A box is frozen. -/
theorem Ghost.frzB {tmT : List (Nat × SV)} {ob : List (Nat × Ob)} (k : Nat) {t : TypeId} {cs : List D} {ys : List V} (hk : lk k ob = some (.bx t cs)) (hb : borL [] cs = some ys) : Ghost tmT ob (qTm k ys tmT) (qOb k ys (obr k ob)) := ⟨fun c tm h ρ G w g hw => by
  obtain ⟨F, w0, hp⟩ := h
  obtain ⟨Y, f, ⟨b, us, rfl, g2, g3⟩, g6, _, g8⟩ := g.ob.set hk
  have g4 := borL_nil_den hb g3
  have hperm : hp.Perm ([(b, ⟨t, us, cs.length⟩)] ++ f []) := by have := g6.perm [(b, (⟨t, us, cs.length⟩ : Hb))]; rwa [g6.eq] at this
  have hnd : (([(b, (⟨t, us, cs.length⟩ : Hb))] ++ f []).map Prod.fst).Nodup := (hperm.map _).nodup_iff.1 hw.nd
  have hmem : ∀ p, p ∈ hp ↔ p ∈ [(b, (⟨t, us, cs.length⟩ : Hb))] ∨ p ∈ f [] := fun p => by rw [hperm.mem_iff, List.mem_append]
  have hmb : (b, (⟨t, us, cs.length⟩ : Hb)) ∈ hp := (hmem _).2 (.inl (by simp))
  have hB : ¬ F b := hw.out b _ hmb
  have hz : Mz ⟨G, w0⟩ ⟨G.or (· = b), w⟩ := ⟨fun _ h => .inl h, fun b hb => hw.same.block b (g.gF b hb), fun _ _ _ h => h⟩
  have g4' := g4.mono hz
  have fz : ∀ o v, Den ρ ⟨G.or (· = b), w⟩ (.p k o) v → Den ρ ⟨G.or (· = b), w⟩ (.q ys o) v := fun o v h => by
    cases h with | @p _ _ b' _ _ h0 =>
    rw [g2] at h0
    injection h0 with h0
    injection h0 with e1 _ _
    injection e1 with e1
    injection e1 with e1 _ _
    subst e1
    have := Den.q (ρ := ρ) (z := ⟨G.or (· = b), w⟩) (cs := ys) (o := o) (b := b) (o' := 0) (us := us) (.inr rfl) (fun j u hj => by rw [Nat.zero_add]; exact (hw.blk b _ hmb).cell (x := ⟨t, us, _⟩) hj) g4'
    rwa [Nat.zero_add] at this
  refine ⟨⟨fun x => F x ∨ x = b, w, f []⟩, ρ, G.or (· = b), ⟨fun b hb => .inl (g.fF b hb), g.fw.trans (hw.same.mono g.fF), fun b hb => hb.imp (g.gF b) id, fun x hx => ?_, g.fm.or, fun j s' hj => ?_, qOb_den fz (g8.mono hz .refl)⟩, ⟨Same.refl _ _, fun x hx => ?_, fun x y hx => hw.blk x y ((hmem _).2 (.inr hx)), ?_, fun x y hx hb => ?_⟩⟩
  · rcases hx with hx | rfl
    · exact g.gx x hx
    · exact .inr fun h0 => hB (g.fF _ h0)
  · obtain ⟨s, e1, rfl⟩ := qTm_lk hj
    obtain ⟨v, v1, v2⟩ := g.tm j s e1
    exact ⟨v, v1, qS_den fz (v2.mono hz .refl)⟩
  · rcases hx with hx | rfl
    · exact hw.Flt hx
    · exact (hw.blk _ _ hmb).lt
  · rw [List.map_append, List.nodup_append] at hnd; exact hnd.2.1
  · rcases hb with hb | rfl
    · exact hw.out x y ((hmem _).2 (.inr hx)) hb
    · rw [List.map_append, List.nodup_append] at hnd
      exact hnd.2.2 x (by simp) x (List.mem_map_of_mem (f := Prod.fst) hx) rfl⟩
end Go.Proofs.Ytgiebofmfkacgaa

/-
  The layer of trees: a call that has families of its own. Of no program.
-/
namespace Go.Proofs.Ytgiebofmfkacgaa
open Go.RowKit
/-- No pointer into a family. -/
inductive Nm : V → Prop
  | int {k : IntKind} {n : Int} : Nm (.int k n)
  | bool {b : Bool} : Nm (.bool b)
  | str {s : ByteArray} : Nm (.str s)
  | nl : Nm .nl
  | pn : Nm .pn
  | fn {f : FuncId} : Nm (.fn f)
  | v {x : Value} : Nm (.v x)
  | cl {f : FuncId} {cs : List (List V)} (h : ∀ r ∈ cs, ∀ x ∈ r, Nm x) : Nm (.cl f cs)
  | sl {sz : Nat} {rs : List (List V)} (h : ∀ r ∈ rs, ∀ x ∈ r, Nm x) : Nm (.sl sz rs)
def NmD (d : D) : Prop := ∃ x, d = .u x ∧ Nm x
def NmC : SC → Prop
  | .d x => NmD x
  | .a xs => ∀ x ∈ xs, NmD x
def NmS : SV → Prop
  | .d x => NmD x
  | .a xs => ∀ x ∈ xs, NmD x
  | .t vs => ∀ s ∈ vs, NmC s
section
variable {ρ ρ' : Rho} {z z' : Fz}
theorem DenV.nm {d : V} {v : Value} (h : DenV z d v) (hG : z'.G.on = z.G.on) (hw : z'.w0 = z.w0) : Nm d → DenV z' d v := by
  induction h with
  | int k n => exact fun _ => .int k n
  | bool b => exact fun _ => .bool b
  | str s hs => exact fun _ => .str s hs
  | nl => exact fun _ => .nl
  | @sl sz rs A n c b o us hn hc hm hr hA hl hu h1 hd ih =>
    intro hN
    cases hN with | sl hN =>
    refine .sl (b := b) (o := o) us hn hc hm hr (fun h => ⟨(hA h).1, by rw [hG]; exact (hA h).2⟩) hl (fun j u h => by rw [hw]; exact hu j u h) h1 fun j d u e1 e2 => ih j d u e1 e2 ?_
    obtain ⟨r, hr1, hr2⟩ := List.mem_flatten.1 (List.mem_of_getElem? e1)
    exact hN r hr1 d hr2
  | pn => exact fun _ => .pn
  | fn => exact fun _ => .fn
  | v h1 => exact fun _ => .v h1
  | m h => exact fun hN => by cases hN
  | cl us B O X hl hu hG' hX h1 hc hd ih =>
    intro hN
    cases hN with | cl hN =>
    exact .cl us B O X hl hu (fun j hj => by rw [hG]; exact hG' j hj) hX h1 (fun j hj i x hx => by rw [hw]; exact hc j hj i x hx) fun j c i d x e1 e2 e3 => ih j c i d x e1 e2 e3 (hN c (List.mem_of_getElem? e1) d (List.mem_of_getElem? e2))
theorem Den.nm {d : D} {v : Value} (h : Den ρ z d v) (hG : z'.G.on = z.G.on) (hw : z'.w0 = z.w0) (hN : NmD d) : Den ρ' z' d v := by
  obtain ⟨x, rfl, hx⟩ := hN
  cases h with | u h => exact .u (h.nm hG hw hx)
theorem DenL.nm {cs : List D} {us : List Value} (h : DenL ρ z cs us) (hG : z'.G.on = z.G.on) (hw : z'.w0 = z.w0) (hN : ∀ x ∈ cs, NmD x) : DenL ρ' z' cs us :=
  ⟨h.len, h.one, fun j d u h1 h2 => (h.den j d u h1 h2).nm hG hw (hN d (List.mem_of_getElem? h1))⟩
theorem DenS.nm {s : SV} {v : Value} (h : DenS ρ z s v) (hG : z'.G.on = z.G.on) (hw : z'.w0 = z.w0) (hN : NmS s) : DenS ρ' z' s v := by
  cases h with
  | d h => exact .d (h.nm hG hw hN)
  | a h => exact .a (h.nm hG hw hN)
  | t hl hd =>
    refine .t hl fun j s v h1 h2 => ?_
    have hs := hN s (List.mem_of_getElem? h1)
    cases hd j s v h1 h2 with
    | d h => exact .d (h.nm hG hw hs)
    | a h => exact .a (h.nm hG hw hs)
end
theorem fams_ok {ρ : Rho} {z : Fz} : ∀ {fs : List (Nat × TypeId)}, (∀ p ∈ fs, z.G.fam p.1 = [] ∧ z.G.own p.1) → ObsOk ρ z (fs.map fun p => (p.1, Ob.fm p.2 [])) []
  | [], _ => rfl
  | p :: r, h => by
    have h1 := h p (by simp)
    refine ⟨[], [], rfl, ⟨?_, h1.2⟩, fams_ok fun q hq => h q (by simp [hq])⟩
    rw [h1.1]
    exact .nil
/-- What is given back: slices over own arrays, values without pointers into families. -/
def NoD (d : D) : Prop := NmD d ∨ ∃ k n, d = .ow k n
def NoC : SC → Prop
  | .d x => NoD x
  | .a xs => ∀ x ∈ xs, NoD x
def NoS : SV → Prop
  | .d x => NoD x
  | .a xs => ∀ x ∈ xs, NoD x
  | .t vs => ∀ s ∈ vs, NoC s
def NoOb (ob : List (Nat × Ob)) : Prop := ∀ p ∈ ob, ∃ t sz rs, p.2 = .ar t sz rs ∧ ∀ r ∈ rs, ∀ x ∈ r, Nm x
section
variable {ρ : Rho} {z z' : Fz}
theorem Den.no {d : D} {v : Value} (h : Den ρ z d v) (hG : z'.G.on = z.G.on) (hw : z'.w0 = z.w0) (hN : NoD d) : Den ρ z' d v := by
  rcases hN with hN | ⟨k, n, rfl⟩
  · exact h.nm hG hw hN
  · cases h with | ow h hA hc => exact .ow h hA hc
theorem DenL.no {cs : List D} {us : List Value} (h : DenL ρ z cs us) (hG : z'.G.on = z.G.on) (hw : z'.w0 = z.w0) (hN : ∀ x ∈ cs, NoD x) : DenL ρ z' cs us :=
  ⟨h.len, h.one, fun j d u h1 h2 => (h.den j d u h1 h2).no hG hw (hN d (List.mem_of_getElem? h1))⟩
theorem DenS.no {s : SV} {v : Value} (h : DenS ρ z s v) (hG : z'.G.on = z.G.on) (hw : z'.w0 = z.w0) (hN : NoS s) : DenS ρ z' s v := by
  cases h with
  | d h => exact .d (h.no hG hw hN)
  | a h => exact .a (h.no hG hw hN)
  | t hl hd =>
    refine .t hl fun j s v h1 h2 => ?_
    have hs := hN s (List.mem_of_getElem? h1)
    cases hd j s v h1 h2 with
    | d h => exact .d (h.no hG hw hs)
    | a h => exact .a (h.no hG hw hs)
theorem ObsOk.no (hG : z'.G.on = z.G.on) (hw : z'.w0 = z.w0) : ∀ {ob : List (Nat × Ob)} {hp : List (Nat × Hb)}, NoOb ob → ObsOk ρ z ob hp → ObsOk ρ z' ob hp
  | [], _, _, h => h
  | (k, o) :: r, _, hN, ⟨X, hp', h1, h2, h3⟩ => by
    obtain ⟨t, sz, rs, rfl, hn⟩ := hN (k, o) (by simp)
    refine ⟨X, hp', h1, ?_, h3.no hG hw fun p hp => hN p (by simp [hp])⟩
    obtain ⟨A, c, us, e1, e2, e3, e4, e5⟩ := h2
    exact ⟨A, c, us, e1, e2, e3, ⟨e4.len, e4.one, fun j d u f1 f2 => (e4.den j d u f1 f2).nm hG hw (by
      obtain ⟨r', hr1, hr2⟩ := List.mem_flatten.1 (List.mem_of_getElem? f1)
      exact hn r' hr1 d hr2)⟩, e5⟩
end
/-- A call whose families no one else sees; it gives own arrays. -/
theorem CallsA.hideO {P : Program} {f : FuncId} {ss : List SV} (fs : List (Nat × TypeId)) {s0 : SV} {ob0 : List (Nat × Ob)} (hn : ∀ s ∈ ss, NmS s) (hs0 : NoS s0) (hob0 : NoOb ob0) (h : CallsA P f ss (fs.map fun p => (p.1, Ob.fm p.2 [])) (fun s ob => s = s0 ∧ ob = ob0)) : CallsA P f ss [] fun s ob => s = s0 ∧ ob = ob0 :=
  ⟨h.fn, fun c ρ hp vs w hw hv g => by
    have hp0 : hp = [] := g.ob
    subst hp0
    have g' : Gd ⟨c.F, c.w, ⟨c.G.on, fun k => if k ∈ fs.map Prod.fst then [] else c.G.fam k, fun k => k ∈ fs.map Prod.fst⟩⟩ ⟨slT 0 ss, fs.map fun p => (p.1, Ob.fm p.2 [])⟩ (slots 0 vs) ⟨c.F, c.w, []⟩ ρ ⟨c.G.on, fun k => if k ∈ fs.map Prod.fst then [] else c.G.fam k, fun k => k ∈ fs.map Prod.fst⟩ := by
      refine ⟨g.fF, g.fw, g.gF, g.gx, .refl _, fun k s hk => ?_, fams_ok fun p hp => ⟨?_, ?_⟩⟩
      · obtain ⟨v, q1, q2⟩ := g.tm k s hk
        exact ⟨v, q1, DenS.nm q2 rfl rfl (hn s (List.mem_of_getElem? (lk_slT hk).2))⟩
      · show (if p.1 ∈ fs.map Prod.fst then [] else c.G.fam p.1) = []
        rw [if_pos (List.mem_map_of_mem hp)]
      · exact List.mem_map_of_mem hp
    refine (h.out ⟨c.F, c.w, ⟨c.G.on, fun k => if k ∈ fs.map Prod.fst then [] else c.G.fam k, fun k => k ∈ fs.map Prod.fst⟩⟩ ρ [] vs w hw hv g').mono ?_
    rintro e w' ⟨v, h', s, ob', ρ', G', rfl, hw', g2, rfl, rfl⟩
    obtain ⟨u, u1, u2⟩ := g2.tm 0 s rfl
    refine ⟨v, h', s, ob', ρ', ⟨G'.on, c.G.fam, c.G.own⟩, rfl, hw', ⟨g2.fF, g2.fw, g2.gF, g2.gx, ⟨rfl, fun _ _ => rfl, fun _ _ _ h => h⟩, fun k s0 hk => ?_, ObsOk.no (z := ⟨G', h'.w0⟩) (z' := ⟨⟨G'.on, c.G.fam, c.G.own⟩, h'.w0⟩) rfl rfl hob0 g2.ob⟩, rfl, rfl⟩
    obtain ⟨v0, q1, q2⟩ := g2.tm k s0 hk
    refine ⟨v0, q1, DenS.no q2 rfl rfl ?_⟩
    simp only [lk] at hk
    cases hb : Nat.beq k 0 <;> rw [hb] at hk
    · cases hk
    · injection hk with hk
      subst hk
      exact hs0⟩
/-- A call whose families no one else sees. -/
theorem CallsA.hide {P : Program} {f : FuncId} {ss : List SV} (fs : List (Nat × TypeId)) {Q : SV → List (Nat × Ob) → Prop} (hn : ∀ s ∈ ss, NmS s) (hq : ∀ s ob, Q s ob → NmS s) (h : CallsA P f ss (fs.map fun p => (p.1, Ob.fm p.2 [])) Q) : CallsA P f ss [] fun s ob => ob = [] ∧ ∃ ob0, Q s ob0 :=
  ⟨h.fn, fun c ρ hp vs w hw hv g => by
    have hp0 : hp = [] := g.ob
    subst hp0
    have g' : Gd ⟨c.F, c.w, ⟨c.G.on, fun k => if k ∈ fs.map Prod.fst then [] else c.G.fam k, fun k => k ∈ fs.map Prod.fst⟩⟩ ⟨slT 0 ss, fs.map fun p => (p.1, Ob.fm p.2 [])⟩ (slots 0 vs) ⟨c.F, c.w, []⟩ ρ ⟨c.G.on, fun k => if k ∈ fs.map Prod.fst then [] else c.G.fam k, fun k => k ∈ fs.map Prod.fst⟩ := by
      refine ⟨g.fF, g.fw, g.gF, g.gx, .refl _, fun k s hk => ?_, fams_ok fun p hp => ⟨?_, ?_⟩⟩
      · obtain ⟨v, q1, q2⟩ := g.tm k s hk
        exact ⟨v, q1, DenS.nm q2 rfl rfl (hn s (List.mem_of_getElem? (lk_slT hk).2))⟩
      · show (if p.1 ∈ fs.map Prod.fst then [] else c.G.fam p.1) = []
        rw [if_pos (List.mem_map_of_mem hp)]
      · exact List.mem_map_of_mem hp
    refine (h.out ⟨c.F, c.w, ⟨c.G.on, fun k => if k ∈ fs.map Prod.fst then [] else c.G.fam k, fun k => k ∈ fs.map Prod.fst⟩⟩ ρ [] vs w hw hv g').mono ?_
    rintro e w' ⟨v, h', s, ob', ρ', G', rfl, hw', g2, q⟩
    obtain ⟨F, w0, hp2⟩ := h'
    obtain ⟨u, u1, u2⟩ := g2.tm 0 s rfl
    refine ⟨v, ⟨F, w0, []⟩, s, [], ρ', ⟨G'.on, c.G.fam, c.G.own⟩, rfl, hw'.sub (List.nil_sublist _), ⟨g2.fF, g2.fw, g2.gF, g2.gx, ⟨rfl, fun _ _ => rfl, fun _ _ _ h => h⟩, fun k s0 hk => ?_, rfl⟩, rfl, ob', q⟩
    obtain ⟨v0, q1, q2⟩ := g2.tm k s0 hk
    refine ⟨v0, q1, DenS.nm q2 rfl rfl ?_⟩
    simp only [lk] at hk
    cases hb : Nat.beq k 0 <;> rw [hb] at hk
    · cases hk
    · injection hk with hk
      subst hk
      exact hq s ob' q⟩
end Go.Proofs.Ytgiebofmfkacgaa

/-
  The layer of trees: rows of zeros: append(nil, make(..)), make. Of no program.
-/
namespace Go.Proofs.Ytgiebofmfkacgaa
open Go.RowKit
/-- Nil slices in cells of families are slices without elements. -/
inductive NlE : E → E → Prop
  | refl {e : E} : NlE e e
  | v {x y : V} : NlV x y → NlE (.v x) (.v y)
inductive NlEs : List E → List E → Prop
  | nil : NlEs [] []
  | cons {x y : E} {r s : List E} : NlE x y → NlEs r s → NlEs (x :: r) (y :: s)
inductive NlRs : List (List E) → List (List E) → Prop
  | nil : NlRs [] []
  | cons {x y : List E} {r s : List (List E)} : NlEs x y → NlRs r s → NlRs (x :: r) (y :: s)
inductive NlO : List (Nat × Ob) → List (Nat × Ob) → Prop
  | nil : NlO [] []
  | keep {p : Nat × Ob} {r s : List (Nat × Ob)} : NlO r s → NlO (p :: r) (p :: s)
  | fm {k : Nat} {t : TypeId} {rs ss : List (List E)} {r s : List (Nat × Ob)} : NlRs rs ss → NlO r s → NlO ((k, .fm t rs) :: r) ((k, .fm t ss) :: s)
section
variable {ρ : Rho} {z : Fz}
theorem NlE.ok {k i o : Nat} {e e' : E} {u : Value} {X : List (Nat × Hb)} (l : NlE e e') (h : CellOk ρ z k i o e u X) : CellOk ρ z k i o e' u X := by
  cases l with
  | refl => exact h
  | v l => exact ⟨h.1, l.den h.2⟩
theorem NlEs.ok {k i : Nat} {es es' : List E} (l : NlEs es es') : ∀ {o : Nat} {us : List Value} {X : List (Nat × Hb)}, CellsOk ρ z k i o es us X → CellsOk ρ z k i o es' us X := by
  induction l with
  | nil => exact fun h => h
  | cons l _ ih => intro o us X h; cases h with | cons h1 h2 => exact .cons (l.ok h1) (ih h2)
theorem NlRs.ok {k : Nat} {ty : TypeId} {rs rs' : List (List E)} (l : NlRs rs rs') : ∀ {i : Nat} {bs : List Nat} {X : List (Nat × Hb)}, FamOk ρ z k ty i bs rs X → FamOk ρ z k ty i bs rs' X := by
  induction l with
  | nil => exact fun h => h
  | cons l _ ih => intro i bs X h; cases h with | cons h1 h2 => exact .cons (l.ok h1) (ih h2)
theorem NlO.ok {ob ob' : List (Nat × Ob)} (l : NlO ob ob') : ∀ {hp : List (Nat × Hb)}, ObsOk ρ z ob hp → ObsOk ρ z ob' hp := by
  induction l with
  | nil => exact fun h => h
  | keep _ ih => intro hp ⟨X, hp', h1, h2, h3⟩; exact ⟨X, hp', h1, h2, ih h3⟩
  | fm l _ ih => intro hp ⟨X, hp', h1, h2, h3⟩; exact ⟨X, hp', h1, ⟨l.ok h2.1, h2.2⟩, ih h3⟩
end
theorem Ghost.nl {tm : List (Nat × SV)} {ob ob' : List (Nat × Ob)} (l : NlO ob ob') : Ghost tm ob tm ob' := ⟨fun c tmv h ρ G w g hw => ⟨h, ρ, G, ⟨g.fF, g.fw, g.gF, g.gx, g.fm, g.tm, l.ok g.ob⟩, hw⟩⟩
section
variable {P : Program} {T : List (Nat × Ty)} [hT : Tys P T] {nt : Nat} {Q : Exit → Act → World → Prop} {c : Cx} {tm : List (Nat × Value)} {h : Hs} {ρ : Rho} {G : FG} {ty : TypeId} {pos : String} {af : Array Edge} {gd : Option (Nat × Bool)} {K : Kt}
omit hT in
theorem rep_den {z : Fz} {zs : List V} {jz : List Value} (hz : vzT jz = some zs) : ∀ n, DenVL z (List.replicate n zs).flatten (zrepT jz n) := fun n => by
  induction n with
  | zero => exact .nil
  | succ n ih => simp only [List.replicate_succ, List.flatten_cons, zrepT]; exact (vzT_den hz).app ih
omit hT in
/-- A new own array. -/
theorem Kd.newAr {tmT : List (Nat × SV)} {ob : List (Nat × Ob)} {F : Nat → Prop} {w0 w w' : World} {hp : List (Nat × Hb)} (g : Gd c ⟨tmT, ob⟩ tm ⟨F, w0, hp⟩ ρ G) (hw : Hp ⟨F, w0, hp⟩ w) {d e sz n cc : Nat} {zs : List V} {jz : List Value} {A : Option Addr} (hz : vzT jz = some zs) (hl : jz.length = sz) (hnew : newN d tmT ob = true) (hb : Below w.heap.size w w') (ho : w'.ownsRow w.heap.size e sz (.slice A n cc) n (zrepT jz n)) (k : K ((d, .d (.ow d n)) :: tmT) ((d, .ar e sz (List.replicate n zs)) :: ob)) :
    ∃ h', Hp h' w' ∧ Kd c K ((d, .slice A n cc) :: tm) h' := by
  have hw' := hw.addRow hb (Nat.le_refl _) ho
  have hok := OkA.of_own ho
  have hzl : zs.length = sz := by rw [← (vzT_den (z := ⟨G, w0⟩) hz).len]; exact hl
  have hob : ObOk (upd ρ d ⟨A, cc, sz⟩) ⟨G, w0⟩ d (.ar e sz (List.replicate n zs)) (hbA A e (zrepT jz n) cc sz) := ⟨A, cc, _, rfl, upd_self, by rw [List.length_replicate]; exact hok, rep_den hz n, fun r hr => by rw [List.eq_of_mem_replicate hr]; exact hzl⟩
  refine ⟨_, hw', .of ((g.new (st := ⟨tmT, ob⟩) hnew hob).put (d := d) (s := .d (.ow d n)) (v := .slice A n cc) (.d (.ow (l := ⟨A, cc, sz⟩) upd_self (fun hA0 => ?_) hok.cap))) k⟩
  rcases hok.form with ⟨_, e0, _⟩ | ⟨b, e0⟩
  · exact e0
  · dsimp only at hA0; rw [e0] at hA0; cases hA0
theorem Raw.appendZ {x y : Operand} {t tn d e sz : Nat} (n : Nat) {kn kq : IntKind} {m : Int} {tmT : List (Nat × SV)} {ob : List (Nat × Ob)} {zs : List V} {i i2 : Ty} {jk : Tk} {jb : Nat} {jz : List Value} (hx : evT tmT x = some (.d (.u .nl))) (hy : evT tmT y = some (.d (.u (.int kq m)))) (hm : m = (n : Int)) (ht : lk t T = some i) (hi : i.k = .sl e) (htn : lk tn T = some i2) (hi2 : i2.k = .in_ kn) (hj : lk e T = some ⟨jk, sz, jb, jz⟩) (hz : vzT jz = some zs)
    (hl : (Nat.beq jz.length sz && Nat.blt 0 sz) = true) (hd : Nat.blt d nt = true) (hnew : newN d tmT ob = true) (h0 : 0 < n) (h1 : n ≤ 1000000) (hb : n * jb ≤ 281474976710656) (k : K ((d, .d (.ow d n)) :: tmT) ((d, .ar e sz (List.replicate n zs)) :: ob)) : Raw P nt ⟨some d, .call ⟨.builtin .append, #[x, y], #[t, tn]⟩, ty, pos, af, gd⟩ tmT ob K := ⟨fun Q c tm h ρ G g => by
  subst hm
  simp only [Bool.and_eq_true] at hl
  have hl1 := Nat.eq_of_beq_eq_true hl.1
  have hl2 : 0 < sz := by simpa [Nat.blt_eq] using hl.2
  obtain ⟨vx, x1, x2⟩ := g.ev hx
  cases x2 with | d x2 => cases x2 with | u x2 => cases x2 with | nl =>
  have y1 := evT_int g hy
  obtain ⟨f, z, q1, q2, q3, q4, q5⟩ := (hT.ok e _ hj).info
  dsimp only at q2 q3 q5
  have ku := (hT.ok t i ht).kind
  rw [hi] at ku
  have ku : P.underlying t = some (.slice e) := ku
  have ku2 := (hT.ok tn i2 htn).kind
  rw [hi2] at ku2
  have ku2 : P.underlying tn = some (.int kn) := ku2
  obtain ⟨F, w0, hp⟩ := h
  refine OpS.of_run hd fun a w ha hw => ?_
  have hrun := Go.Lib.run_append_nil_zeros w t tn ty e f z kq kn ku ku2 q1 q4 n h0 (by rw [q2]; exact hl2) (by omega) (by rw [q3]; exact hb)
  have hzc : ∀ n, (Builtin.zeroCells z.cells n).toList = zrepT jz n := fun n => by
    have e1 : z.cells = jz.toArray := by rw [← q5]
    rw [zrepT_eq]
    simp [Builtin.zeroCells, e1, Array.toList_map, Array.toList_range]
  have hcap := grownCap_ge w n 0 e
  have hcm := grownCap_le_maxLen w n 0 e (by unfold maxLen; omega)
  have hzl : ∀ n, (zrepT jz n).length = n * sz := fun n => by rw [zrepT_len, hl1]
  have hbel : Below w.heap.size w (w.drew.alloc (.cells (Builtin.zeroCells z.cells n ++ Builtin.zeroCells z.cells (grownCap w n 0 e - n)) e)) := (Below.refl _ _).drew.alloc (Nat.le_refl _) _
  have ho : (w.drew.alloc (.cells (Builtin.zeroCells z.cells n ++ Builtin.zeroCells z.cells (grownCap w n 0 e - n)) e)).ownsRow w.heap.size e sz (.slice (some ⟨w.heap.size, 0, none⟩) n (grownCap w n 0 e)) n (zrepT jz n) := by
    refine ⟨hzl n, .inr ⟨w.heap.size, _, _, rfl, Nat.le_refl _, heap_alloc_new w.drew _, hcap, hcm, ?_, ?_⟩⟩
    · rw [← Array.length_toList, Array.toList_append, hzc, hzc, List.length_append, hzl, hzl, ← Nat.add_mul, Nat.add_sub_cancel' hcap]
    · rw [Array.toList_append, hzc, hzc, List.take_left' (hzl n)]
  obtain ⟨h', r1, r2⟩ := Kd.newAr g hw hz hl1 hnew hbel ho k
  exact ⟨_, _, h', by simp [execOp, resolve, invoke, builtin, ha.ev x1, ha.ev y1, hrun], r1, r2⟩⟩
theorem Raw.capNil {x : Operand} {t e d : Nat} {i : Ty} {tmT : List (Nat × SV)} {ob : List (Nat × Ob)} (hx : evT tmT x = some (.d (.u .nl))) (ht : lk t T = some i) (hi : i.k = .sl e) (hd : Nat.blt d nt = true) (k : K ((d, .d (.u (.int .i64 0))) :: tmT) ob) : Raw P nt ⟨some d, .call ⟨.builtin .cap, #[x], #[t]⟩, ty, pos, af, gd⟩ tmT ob K := ⟨fun Q c tm h ρ G g => by
  obtain ⟨vx, x1, x2⟩ := g.ev hx
  cases x2 with | d x2 => cases x2 with | u x2 => cases x2 with | nl =>
  have ku := (hT.ok t i ht).kind
  rw [hi] at ku
  have ku : P.underlying t = some (.slice e) := ku
  exact OpS.yd (v := .int .i64 0) ⟨fun a w ha hw => by simp [execOp, resolve, invoke, builtin, ha.ev x1, Builtin.cap_, goInt, run_underlying ku]⟩ hd (.of (g.put (.d (.u (.int _ _)))) k)⟩
theorem Raw.sliceNil {x y : Operand} {t d e : Nat} {kq : IntKind} {m : Int} {tmT : List (Nat × SV)} {ob : List (Nat × Ob)} {i : Ty} {jk : Tk} {js jb : Nat} {jz : List Value} (hx : evT tmT x = some (.d (.u .nl))) (hy : evT tmT y = some (.d (.u (.int kq m)))) (hm : m = 0) (ht : lk t T = some i) (hi : i.k = .sl e) (hj : lk e T = some ⟨jk, js, jb, jz⟩) (hd : Nat.blt d nt = true) (k : K ((d, .d (.u .nl)) :: tmT) ob) : Raw P nt ⟨some d, .slice t x none (some y) none, ty, pos, af, gd⟩ tmT ob K := ⟨fun Q c tm h ρ G g => by
  subst hm
  obtain ⟨vx, x1, x2⟩ := g.ev hx
  cases x2 with | d x2 => cases x2 with | u x2 => cases x2 with | nl =>
  have y1 := evT_int g hy
  have hyd := Yd.sliceG (P := P) (T := T) (nt := nt) (h := h) (d := some d) (ty := ty) (pos := pos) (af := af) (gd := gd) (lo := none) (hi := some y) (l := 0) (m := 0) x1 ht hi hj (.inl ⟨rfl, rfl⟩) (.inr ⟨y, kq, rfl, y1⟩) (Nat.le_refl _) (Nat.le_refl _)
  exact OpS.yd hyd hd (.of (g.put (.d (.u .nl))) k)⟩
end
end Go.Proofs.Ytgiebofmfkacgaa

/-
  The layer of trees: own arrays are frozen anywhere; nil slices inside of rows. Of no program.
-/
namespace Go.Proofs.Ytgiebofmfkacgaa
open Go.RowKit
/-- An own array is frozen. -/
theorem Ghost.frzA {tmT : List (Nat × SV)} {ob : List (Nat × Ob)} (k : Nat) {u sz : Nat} {rs : List (List V)} (hk : lk k ob = some (.ar u sz rs)) (hn : frNeedT k rs (frNeedO k rs True (obr k ob)) tmT) : Ghost tmT ob (frTm k sz rs tmT) (frOb k sz rs (obr k ob)) := ⟨fun c tm h ρ G w g hw => by
  obtain ⟨_, h', G', q1, q2, _⟩ := Gd.freeze (st := ⟨tmT, ob⟩) (X := True) g hw hk hn
  exact ⟨h', ρ, G', q1, q2⟩⟩
/-- A nil slice is a slice without elements, also inside of rows. -/
inductive NvV : V → V → Prop
  | refl {x : V} : NvV x x
  | nl {sz : Nat} {rs : List (List V)} : rs = [] → NvV .nl (.sl sz rs)
  | sl {sz : Nat} {rs rs' : List (List V)} : rs.length = rs'.length → (∀ (i : Nat) r r', rs[i]? = some r → rs'[i]? = some r' → r.length = r'.length) → (∀ (i : Nat) r r' (j : Nat) x y, rs[i]? = some r → rs'[i]? = some r' → r[j]? = some x → r'[j]? = some y → NvV x y) → NvV (.sl sz rs) (.sl sz rs')
theorem flat_split {α : Type} {sz : Nat} : ∀ {rs : List (List α)} {k : Nat} {d : α}, (∀ r ∈ rs, r.length = sz) → rs.flatten[k]? = some d → ∃ (i j : Nat) (r : List α), k = i * sz + j ∧ rs[i]? = some r ∧ r[j]? = some d
  | [], k, d, _, h => by simp at h
  | r :: rs, k, d, hr, h => by
    have h0 := hr r (by simp)
    rw [List.flatten_cons] at h
    by_cases hk : k < r.length
    · rw [List.getElem?_append_left hk] at h
      exact ⟨0, k, r, by simp, rfl, h⟩
    · rw [List.getElem?_append_right (by omega)] at h
      obtain ⟨i, j, r', e1, e2, e3⟩ := flat_split (fun r' h' => hr r' (by simp [h'])) h
      exact ⟨i + 1, j, r', by rw [Nat.add_mul, Nat.one_mul]; omega, by simpa using e2, e3⟩
theorem NvV.den {z : Fz} {x y : V} (l : NvV x y) : ∀ {v : Value}, DenV z x v → DenV z y v := by
  induction l with
  | refl => exact fun h => h
  | nl e => subst e; exact fun h => (NlV.nl rfl).den h
  | @sl sz rs rs' hl hr hx ih =>
    intro v h
    cases h with | @sl _ _ A n c b o us hn hc hm hrs hA hlu hu h1 hd =>
    have hrs' : ∀ r ∈ rs', r.length = sz := fun r' hr' => by
      obtain ⟨i, hi⟩ := List.getElem?_of_mem hr'
      have hlt : i < rs.length := by rw [hl]; exact (List.getElem?_eq_some_iff.1 hi).1
      rw [← hr i _ r' (List.getElem?_eq_getElem hlt) hi]
      exact hrs _ (List.getElem_mem hlt)
    refine .sl us (by rw [← hl]; exact hn) hc hm hrs' (fun h => hA fun e => h (List.eq_nil_of_length_eq_zero (by rw [← hl, e]; rfl))) (by rw [hlu, flat_len hrs, flat_len hrs', hl]) hu h1 fun k d u e1 e2 => ?_
    obtain ⟨i, j, r', q1, q2, q3⟩ := flat_split hrs' e1
    have hlt : i < rs.length := by rw [hl]; exact (List.getElem?_eq_some_iff.1 q2).1
    have hi := List.getElem?_eq_getElem hlt
    have hle := hr i _ r' hi q2
    have hj : j < (rs[i]).length := by rw [hle]; exact (List.getElem?_eq_some_iff.1 q3).1
    have hjj := List.getElem?_eq_getElem hj
    refine ih i _ r' j _ d hi q2 hjj q3 (hd k _ u ?_ e2)
    rw [q1]
    exact flat_get hrs hi j _ hjj
def NvR (rs rs' : List (List V)) : Prop := rs.length = rs'.length ∧ (∀ (i : Nat) r r', rs[i]? = some r → rs'[i]? = some r' → r.length = r'.length) ∧ (∀ (i : Nat) r r' (j : Nat) x y, rs[i]? = some r → rs'[i]? = some r' → r[j]? = some x → r'[j]? = some y → NvV x y)
def NvC (r r' : List V) : Prop := r.length = r'.length ∧ ∀ (j : Nat) x y, r[j]? = some x → r'[j]? = some y → NvV x y
theorem NvC.nil : NvC [] [] := ⟨rfl, fun _ _ _ h => by simp at h⟩
theorem NvC.cons {x y : V} {r s : List V} (h : NvV x y) (h' : NvC r s) : NvC (x :: r) (y :: s) := ⟨by simp [h'.1], fun j a b e1 e2 => by
  cases j with
  | zero => simp at e1 e2; subst e1 e2; exact h
  | succ j => exact h'.2 j a b (by simpa using e1) (by simpa using e2)⟩
theorem NvR.nil : NvR [] [] := ⟨rfl, fun _ _ _ h => by simp at h, fun _ _ _ _ _ _ h => by simp at h⟩
theorem NvR.cons {x y : List V} {r s : List (List V)} (h : NvC x y) (h' : NvR r s) : NvR (x :: r) (y :: s) := ⟨by simp [h'.1], fun i a b e1 e2 => by
  cases i with
  | zero => simp at e1 e2; subst e1 e2; exact h.1
  | succ i => exact h'.2.1 i a b (by simpa using e1) (by simpa using e2), fun i a b j u v e1 e2 e3 e4 => by
  cases i with
  | zero => simp at e1 e2; subst e1 e2; exact h.2 j u v e3 e4
  | succ i => exact h'.2.2 i a b j u v (by simpa using e1) (by simpa using e2) e3 e4⟩
theorem NvV.rows {sz : Nat} {rs rs' : List (List V)} (h : NvR rs rs') : NvV (.sl sz rs) (.sl sz rs') := .sl h.1 h.2.1 h.2.2
/-- Arguments with nil slices inside. -/
theorem CallsA.nv {P : Program} {f : FuncId} {xs ys : List V} {ob : List (Nat × Ob)} {Q : SV → List (Nat × Ob) → Prop} (h : CallsA P f (ys.map fun y => .d (.u y)) ob Q) (l : NvC xs ys) : CallsA P f (xs.map fun x => .d (.u x)) ob Q :=
  ⟨h.fn, fun c ρ hp vs w hw hv g => h.out c ρ hp vs w hw (by rw [hv]; simp [l.1]) ⟨g.fF, g.fw, g.gF, g.gx, g.fm, fun k s hk => by
    obtain ⟨q1, q2⟩ := lk_slT hk
    rw [List.getElem?_map] at q2
    cases hy : ys[k - 0]? with
    | none => rw [hy] at q2; cases q2
    | some y =>
      rw [hy] at q2
      injection q2 with q2
      subst q2
      have hlt : k - 0 < xs.length := by rw [l.1]; exact (List.getElem?_eq_some_iff.1 hy).1
      have hx := List.getElem?_eq_getElem hlt
      obtain ⟨v, v1, v2⟩ := g.tm k (.d (.u xs[k - 0])) (slT_lk q1 (by rw [List.getElem?_map, hx]; rfl))
      refine ⟨v, v1, ?_⟩
      cases v2 with | d v2 => cases v2 with | u v2 => exact .d (.u ((l.2 (k - 0) _ y hx hy).den v2)), g.ob⟩⟩
end Go.Proofs.Ytgiebofmfkacgaa
namespace Go.Proofs.Ytgiebofmfkacgaa
open Go.RowKit

def cancelTs (tasks : List Tsk) (n : Nat) : List Tsk := (tasks.modify n fun t => { t with cancelled := true }).map fun t => { t with waiters := t.waiters.filter fun w => w != n }
abbrev iar (ws : List Int) : Nat × Ob := (900, .ar 3 1 (ws.map fun n => [V.int .i64 n]))
abbrev clM (m : Int) : V := .cl 73 [[.int .i64 m]]
theorem cancel1_T (x m : Int) : CallsA Try.prog 73 [di x, .d (.q [.int .i64 m] 0)] [] (Is (db (x == m))) := by
  refine callsA_of_vc (T := tt) Try.func73 rfl rfl rfl rfl rfl ?_
  repeat' ((conv => whnf); first | refine Gs.id ?_ | with_reducible refine And.intro ?_ ?_ | with_reducible refine Brn.T rfl ?_ | with_reducible refine Brn.F rfl ?_ | refine Brn.T (by (try simp only [smT]); first | rfl | assumption | omega | (simp only [*]; done) | (simp [*]; done) | fail) ?_ | refine Brn.F (by (try simp only [smT]); first | rfl | assumption | omega | (simp only [*]; done) | (simp [*]; done) | fail) ?_ | (refine Brn.mk (fun hb => ?_) (fun hb => ?_) <;> (try simp only [smT] at hb) <;> (try (exact absurd trivial hb)) <;> (try (exfalso; omega))) | (refine Bnd.mk (fun hm => ?_); (try simp only [smT] at hm)) | refine Rng.mk (by (try simp only [smT]); omega) ?_ | refine Ix.map rfl (by (try simp only [smT]); omega) ?_ | refine Ix.map (m := 0) rfl (by (try simp only [smT]); omega) ?_ | refine Ix.lit (m := 0) rfl rfl ?_ | refine Ixo.mk ⟨_, rfl, (by (try simp only [smT]); omega), ?_⟩ | refine Rw.lit rfl ?_ | refine Rw.self (by (try simp only [smT]); omega) ?_ | refine Rw.map (by (try simp only [smT]); omega) ?_ | refine Len.mk (by first | rfl | (simp; done) | (simp only [smT]; assumption) | (simp only [smT]; omega)) ?_ | refine Eqv.mk (by kernel_rfl) ?_ | refine Apd.mk (by first | rfl | simp) (by first | rfl | simp) (by (try simp only [smT]); first | omega | (simp; omega)) (by unfold maxLen; first | (simp; done) | (simp; omega) | omega) ?_ | refine Raw.capNil (T := tt) rfl rfl rfl rfl ?_ | refine Raw.sliceNil (T := tt) rfl rfl (by first | rfl | omega | (simp; done)) rfl rfl rfl rfl ?_ | (refine Raw.appendR (T := tt) ?_; (conv => whnf); first | refine Rw.lit rfl ?_ | refine Rw.self (by (try simp only [smT]); omega) ?_ | refine Rw.map (by (try simp only [smT]); omega) ?_) | refine Raw.appendIn (T := tt) rfl rfl rfl rfl rfl rfl rfl rfl rfl rfl (by (try simp only [smT]); omega) (by (try simp only [smT]); omega) ?_ | refine Raw.clear (T := tt) rfl rfl rfl rfl rfl rfl rfl (by (try simp only [smT]); omega) ?_ | refine Slc.mk ⟨_, _, rfl, rfl, (by (try simp only [smT]); omega), (by (try simp only [smT]); omega), ?_⟩ | refine Slc.mk ⟨0, _, rfl, rfl, (by (try simp only [smT]); omega), (by (try simp only [smT]); omega), ?_⟩ | refine Slc.mk ⟨1, _, rfl, rfl, (by (try simp only [smT]); omega), (by (try simp only [smT]); omega), ?_⟩ | refine Slc3.mk ⟨_, _, _, rfl, rfl, rfl, (by (try simp only [smT]); omega), (by (try simp only [smT]); omega), (by (try simp only [smT]); omega)⟩ ?_)
  all_goals (conv => whnf)
  · exact Ret.is rfl
/-- Where the first m stands, from i on; -1: nowhere. -/
def ixM (m : Int) : List Int → Nat → Int
  | [], _ => -1
  | w :: r, i => if w = m then i else ixM m r (i + 1)
theorem ixM_cases (m : Int) : ∀ (ws : List Int) (k : Nat), (ixM m ws k = -1 ∧ (ws.filter fun w => w != m) = ws) ∨ ∃ i : Nat, i < ws.length ∧ ixM m ws k = ((k + i : Nat) : Int) ∧ ((ws.take (i + 1)).filter fun w => w != m) = ws.take i
  | [], k => .inl ⟨rfl, rfl⟩
  | w :: r, k => by
    by_cases h : w = m
    · exact .inr ⟨0, by simp, by simp [ixM, h], by simp [h]⟩
    · rcases ixM_cases m r (k + 1) with ⟨h1, h2⟩ | ⟨i, h1, h2, h3⟩
      · exact .inl ⟨by rw [ixM, if_neg h, h1], by rw [List.filter_cons_of_pos (by simpa using h), h2]⟩
      · refine .inr ⟨i + 1, by simpa using h1, by rw [ixM, if_neg h, h2]; congr 1; omega, ?_⟩
        rw [List.take_succ_cons, List.filter_cons_of_pos (by simpa using h), h3, List.take_succ_cons]
theorem ix_T (ws : List Int) (m : Int) (hl : ws.length ≤ 1000000) : CallsA Try.prog 74 [.d (.u (ivs ws)), .d (.u (clM m))] [] (Is (di (ixM m ws 0))) := by
  refine callsA_of_vc (T := tt) Try.func74 rfl rfl rfl rfl rfl ?_
  repeat' ((conv => whnf); first | refine Gs.id ?_ | with_reducible refine And.intro ?_ ?_ | with_reducible refine Brn.T rfl ?_ | with_reducible refine Brn.F rfl ?_ | refine Brn.T (by (try simp only [smT]); first | rfl | assumption | omega | (simp only [*]; done) | (simp [*]; done) | fail) ?_ | refine Brn.F (by (try simp only [smT]); first | rfl | assumption | omega | (simp only [*]; done) | (simp [*]; done) | fail) ?_ | (refine Brn.mk (fun hb => ?_) (fun hb => ?_) <;> (try simp only [smT] at hb) <;> (try (exact absurd trivial hb)) <;> (try (exfalso; omega))) | (refine Bnd.mk (fun hm => ?_); (try simp only [smT] at hm)) | refine Rng.mk (by (try simp only [smT]); omega) ?_ | refine Ix.map rfl (by (try simp only [smT]); omega) ?_ | refine Ix.map (m := 0) rfl (by (try simp only [smT]); omega) ?_ | refine Ix.lit (m := 0) rfl rfl ?_ | refine Ixo.mk ⟨_, rfl, (by (try simp only [smT]); omega), ?_⟩ | refine Rw.lit rfl ?_ | refine Rw.self (by (try simp only [smT]); omega) ?_ | refine Rw.map (by (try simp only [smT]); omega) ?_ | refine Len.mk (by first | rfl | (simp; done) | (simp only [smT]; assumption) | (simp only [smT]; omega)) ?_ | refine Eqv.mk (by kernel_rfl) ?_ | refine Apd.mk (by first | rfl | simp) (by first | rfl | simp) (by (try simp only [smT]); first | omega | (simp; omega)) (by unfold maxLen; first | (simp; done) | (simp; omega) | omega) ?_ | refine Raw.capNil (T := tt) rfl rfl rfl rfl ?_ | refine Raw.sliceNil (T := tt) rfl rfl (by first | rfl | omega | (simp; done)) rfl rfl rfl rfl ?_ | (refine Raw.appendR (T := tt) ?_; (conv => whnf); first | refine Rw.lit rfl ?_ | refine Rw.self (by (try simp only [smT]); omega) ?_ | refine Rw.map (by (try simp only [smT]); omega) ?_) | refine Raw.appendIn (T := tt) rfl rfl rfl rfl rfl rfl rfl rfl rfl rfl (by (try simp only [smT]); omega) (by (try simp only [smT]); omega) ?_ | refine Raw.clear (T := tt) rfl rfl rfl rfl rfl rfl rfl (by (try simp only [smT]); omega) ?_ | refine Slc.mk ⟨_, _, rfl, rfl, (by (try simp only [smT]); omega), (by (try simp only [smT]); omega), ?_⟩ | refine Slc.mk ⟨0, _, rfl, rfl, (by (try simp only [smT]); omega), (by (try simp only [smT]); omega), ?_⟩ | refine Slc.mk ⟨1, _, rfl, rfl, (by (try simp only [smT]); omega), (by (try simp only [smT]); omega), ?_⟩ | refine Slc3.mk ⟨_, _, _, rfl, rfl, rfl, (by (try simp only [smT]); omega), (by (try simp only [smT]); omega), (by (try simp only [smT]); omega)⟩ ?_)
  all_goals (conv => whnf)
  · refine ⟨⟨Nat, fun i => i ≤ ws.length ∧ ixM m ws 0 = ixM m (ws.drop i) i, fun i => ws.length - i, fun i => ⟨[(0, .d (.u (ivs ws))), (1, .d (.u (clM m))), (7, di ws.length), (8, di i)], []⟩, 0, ⟨Nat.zero_le _, rfl⟩, ⟨[], ⟨by (try dsimp only); (repeat (refine LeT.cons rfl (by first | exact LeS.d (by first | exact LeD.u rfl | exact LeD.p rfl | exact LeD.ow rfl rfl | exact LeD.ow rfl (by simp) | exact LeD.no rfl rfl | exact LeD.nl (by first | rfl | simp) | exact LeD.u (by simp; done) | exact LeD.u (by congr 1; omega) | exact LeD.q rfl | exact LeD.r rfl | exact LeD.r (by simp; done) | exact LeD.re | exact LeD.ows rfl rfl rfl | exact LeD.u (by congr 1; congr 1; simp) | exact LeD.fn (by repeat (first | exact LeN.nil | refine LeN.cons rfl ?_))) | exact LeS.a (by repeat (first | exact LeL.nil | refine LeL.cons (by first | exact LeD.u rfl | exact LeD.p rfl | exact LeD.ow rfl rfl | exact LeD.ow rfl (by simp) | exact LeD.no rfl rfl | exact LeD.nl (by first | rfl | simp) | exact LeD.u (by simp; done) | exact LeD.u (by congr 1; omega) | exact LeD.q rfl | exact LeD.r rfl | exact LeD.r (by simp; done) | exact LeD.re | exact LeD.ows rfl rfl rfl | exact LeD.u (by congr 1; congr 1; simp) | exact LeD.fn (by repeat (first | exact LeN.nil | refine LeN.cons rfl ?_))) ?_))) ?_)); exact LeT.nil, by (try dsimp only); repeat (first | exact LeO.nil | refine LeO.bx rfl rfl (by repeat (first | exact LeL.nil | refine LeL.cons (by first | exact LeD.u rfl | exact LeD.p rfl | exact LeD.ow rfl rfl | exact LeD.ow rfl (by simp) | exact LeD.no rfl rfl | exact LeD.nl (by first | rfl | simp) | exact LeD.u (by simp; done) | exact LeD.u (by congr 1; omega) | exact LeD.q rfl | exact LeD.r rfl | exact LeD.r (by simp; done) | exact LeD.re | exact LeD.ows rfl rfl rfl | exact LeD.u (by congr 1; congr 1; simp) | exact LeD.fn (by repeat (first | exact LeN.nil | refine LeN.cons rfl ?_))) ?_)) ?_ | refine LeO.ar rfl rfl (by first | rfl | simp) ?_ | refine LeO.fm rfl (by first | rfl | simp) ?_ | refine LeO.no rfl rfl ?_)⟩⟩, fun i ⟨hi, he⟩ => ?_⟩⟩
    dsimp only
    repeat' ((conv => whnf); first | refine Gs.id ?_ | with_reducible refine And.intro ?_ ?_ | with_reducible refine Brn.T rfl ?_ | with_reducible refine Brn.F rfl ?_ | refine Brn.T (by (try simp only [smT]); first | rfl | assumption | omega | (simp only [*]; done) | (simp [*]; done) | fail) ?_ | refine Brn.F (by (try simp only [smT]); first | rfl | assumption | omega | (simp only [*]; done) | (simp [*]; done) | fail) ?_ | (refine Brn.mk (fun hb => ?_) (fun hb => ?_) <;> (try simp only [smT] at hb) <;> (try (exact absurd trivial hb)) <;> (try (exfalso; omega))) | (refine Bnd.mk (fun hm => ?_); (try simp only [smT] at hm)) | refine Rng.mk (by (try simp only [smT]); omega) ?_ | refine Ix.map rfl (by (try simp only [smT]); omega) ?_ | refine Ix.map (m := 0) rfl (by (try simp only [smT]); omega) ?_ | refine Ix.lit (m := 0) rfl rfl ?_ | refine Ixo.mk ⟨_, rfl, (by (try simp only [smT]); omega), ?_⟩ | refine Rw.lit rfl ?_ | refine Rw.self (by (try simp only [smT]); omega) ?_ | refine Rw.map (by (try simp only [smT]); omega) ?_ | refine Len.mk (by first | rfl | (simp; done) | (simp only [smT]; assumption) | (simp only [smT]; omega)) ?_ | refine Eqv.mk (by kernel_rfl) ?_ | refine Apd.mk (by first | rfl | simp) (by first | rfl | simp) (by (try simp only [smT]); first | omega | (simp; omega)) (by unfold maxLen; first | (simp; done) | (simp; omega) | omega) ?_ | refine Raw.capNil (T := tt) rfl rfl rfl rfl ?_ | refine Raw.sliceNil (T := tt) rfl rfl (by first | rfl | omega | (simp; done)) rfl rfl rfl rfl ?_ | (refine Raw.appendR (T := tt) ?_; (conv => whnf); first | refine Rw.lit rfl ?_ | refine Rw.self (by (try simp only [smT]); omega) ?_ | refine Rw.map (by (try simp only [smT]); omega) ?_) | refine Raw.appendIn (T := tt) rfl rfl rfl rfl rfl rfl rfl rfl rfl rfl (by (try simp only [smT]); omega) (by (try simp only [smT]); omega) ?_ | refine Raw.clear (T := tt) rfl rfl rfl rfl rfl rfl rfl (by (try simp only [smT]); omega) ?_ | refine Slc.mk ⟨_, _, rfl, rfl, (by (try simp only [smT]); omega), (by (try simp only [smT]); omega), ?_⟩ | refine Slc.mk ⟨0, _, rfl, rfl, (by (try simp only [smT]); omega), (by (try simp only [smT]); omega), ?_⟩ | refine Slc.mk ⟨1, _, rfl, rfl, (by (try simp only [smT]); omega), (by (try simp only [smT]); omega), ?_⟩ | refine Slc3.mk ⟨_, _, _, rfl, rfl, rfl, (by (try simp only [smT]); omega), (by (try simp only [smT]); omega), (by (try simp only [smT]); omega)⟩ ?_ | (refine Raw.callF [] [] rfl rfl rfl rfl rfl rfl rfl rfl (cancel1_T _ m) ?_; rintro _ _ ⟨rfl, rfl⟩; refine Bk.mk rfl rfl ?_))
    all_goals (conv => whnf)
    · have h9 : i < ws.length := by omega
      have e : ixM m ws 0 = i := by rw [he, List.drop_eq_getElem_cons h9, ixM, if_pos (by assumption)]
      rw [e]
      exact Ret.is rfl
    · have h9 : i < ws.length := by omega
      refine ⟨i + 1, ⟨by omega, ?_⟩, by omega, [], ⟨by (try dsimp only); (repeat (refine LeT.cons rfl (by first | exact LeS.d (by first | exact LeD.u rfl | exact LeD.p rfl | exact LeD.ow rfl rfl | exact LeD.ow rfl (by simp) | exact LeD.no rfl rfl | exact LeD.nl (by first | rfl | simp) | exact LeD.u (by simp; done) | exact LeD.u (by congr 1; omega) | exact LeD.q rfl | exact LeD.r rfl | exact LeD.r (by simp; done) | exact LeD.re | exact LeD.ows rfl rfl rfl | exact LeD.u (by congr 1; congr 1; simp) | exact LeD.fn (by repeat (first | exact LeN.nil | refine LeN.cons rfl ?_))) | exact LeS.a (by repeat (first | exact LeL.nil | refine LeL.cons (by first | exact LeD.u rfl | exact LeD.p rfl | exact LeD.ow rfl rfl | exact LeD.ow rfl (by simp) | exact LeD.no rfl rfl | exact LeD.nl (by first | rfl | simp) | exact LeD.u (by simp; done) | exact LeD.u (by congr 1; omega) | exact LeD.q rfl | exact LeD.r rfl | exact LeD.r (by simp; done) | exact LeD.re | exact LeD.ows rfl rfl rfl | exact LeD.u (by congr 1; congr 1; simp) | exact LeD.fn (by repeat (first | exact LeN.nil | refine LeN.cons rfl ?_))) ?_))) ?_)); exact LeT.nil, by (try dsimp only); repeat (first | exact LeO.nil | refine LeO.bx rfl rfl (by repeat (first | exact LeL.nil | refine LeL.cons (by first | exact LeD.u rfl | exact LeD.p rfl | exact LeD.ow rfl rfl | exact LeD.ow rfl (by simp) | exact LeD.no rfl rfl | exact LeD.nl (by first | rfl | simp) | exact LeD.u (by simp; done) | exact LeD.u (by congr 1; omega) | exact LeD.q rfl | exact LeD.r rfl | exact LeD.r (by simp; done) | exact LeD.re | exact LeD.ows rfl rfl rfl | exact LeD.u (by congr 1; congr 1; simp) | exact LeD.fn (by repeat (first | exact LeN.nil | refine LeN.cons rfl ?_))) ?_)) ?_ | refine LeO.ar rfl rfl (by first | rfl | simp) ?_ | refine LeO.fm rfl (by first | rfl | simp) ?_ | refine LeO.no rfl rfl ?_)⟩⟩
      rw [he, List.drop_eq_getElem_cons h9, ixM, if_neg (by assumption)]
    · have h9 : i = ws.length := by omega
      have e : ixM m ws 0 = -1 := by rw [he, h9, List.drop_length, ixM]
      rw [e]
      exact Ret.is rfl
theorem putR_take {α : Type} (rs new : List α) (n : Nat) (h : n ≤ rs.length) : (putR rs new n).take n = rs.take n := by
  rw [putR, List.append_assoc, List.take_append_of_le_length (by simp; omega), List.take_take, Nat.min_self]
set_option maxHeartbeats 1000000 in
theorem delF_T (ws : List Int) (m : Int) (hl : ws.length ≤ 1000000) : CallsA Try.prog 72 [.d (.ow 900 ws.length), .d (.u (clM m))] [iar ws] (Iso (.d (.ow 900 (ws.filter fun w => w != m).length)) [iar (ws.filter fun w => w != m)]) := by
  rcases ixM_cases m ws 0 with ⟨h1, h2⟩ | ⟨i0, h1, h2, h3⟩
  · rw [h2]
    have hx := ix_T ws m hl
    rw [h1] at hx
    refine callsA_of_vcO (T := tt) Try.func72 rfl rfl rfl rfl rfl ?_
    repeat' ((conv => whnf); first | refine Gs.id ?_ | with_reducible refine And.intro ?_ ?_ | with_reducible refine Brn.T rfl ?_ | with_reducible refine Brn.F rfl ?_ | refine Brn.T (by (try simp only [smT]); first | rfl | assumption | omega | (simp only [*]; done) | (simp [*]; done) | fail) ?_ | refine Brn.F (by (try simp only [smT]); first | rfl | assumption | omega | (simp only [*]; done) | (simp [*]; done) | fail) ?_ | (refine Brn.mk (fun hb => ?_) (fun hb => ?_) <;> (try simp only [smT] at hb) <;> (try (exact absurd trivial hb)) <;> (try (exfalso; omega))) | (refine Bnd.mk (fun hm => ?_); (try simp only [smT] at hm)) | refine Rng.mk (by (try simp only [smT]); omega) ?_ | refine Ix.map rfl (by (try simp only [smT]); omega) ?_ | refine Ix.map (m := 0) rfl (by (try simp only [smT]); omega) ?_ | refine Ix.lit (m := 0) rfl rfl ?_ | refine Ixo.mk ⟨_, rfl, (by (try simp only [smT]); omega), ?_⟩ | refine Rw.lit rfl ?_ | refine Rw.self (by (try simp only [smT]); omega) ?_ | refine Rw.map (by (try simp only [smT]); omega) ?_ | refine Len.mk (by first | rfl | (simp; done) | (simp only [smT]; assumption) | (simp only [smT]; omega)) ?_ | refine Eqv.mk (by kernel_rfl) ?_ | refine Apd.mk (by first | rfl | simp) (by first | rfl | simp) (by (try simp only [smT]); first | omega | (simp; omega)) (by unfold maxLen; first | (simp; done) | (simp; omega) | omega) ?_ | refine Raw.capNil (T := tt) rfl rfl rfl rfl ?_ | refine Raw.sliceNil (T := tt) rfl rfl (by first | rfl | omega | (simp; done)) rfl rfl rfl rfl ?_ | (refine Raw.appendR (T := tt) ?_; (conv => whnf); first | refine Rw.lit rfl ?_ | refine Rw.self (by (try simp only [smT]); omega) ?_ | refine Rw.map (by (try simp only [smT]); omega) ?_) | refine Raw.appendIn (T := tt) rfl rfl rfl rfl rfl rfl rfl rfl rfl rfl (by (try simp only [smT]); omega) (by (try simp only [smT]); omega) ?_ | refine Raw.clear (T := tt) rfl rfl rfl rfl rfl rfl rfl (by (try simp only [smT]); omega) ?_ | refine Slc.mk ⟨_, _, rfl, rfl, (by (try simp only [smT]); omega), (by (try simp only [smT]); omega), ?_⟩ | refine Slc.mk ⟨0, _, rfl, rfl, (by (try simp only [smT]); omega), (by (try simp only [smT]); omega), ?_⟩ | refine Slc.mk ⟨1, _, rfl, rfl, (by (try simp only [smT]); omega), (by (try simp only [smT]); omega), ?_⟩ | refine Slc3.mk ⟨_, _, _, rfl, rfl, rfl, (by (try simp only [smT]); omega), (by (try simp only [smT]); omega), (by (try simp only [smT]); omega)⟩ ?_ | (refine CL.mk (Or.inl ?_); (conv => whnf); first | refine Cl.is (hx) rfl (by first | exact fun _ => rfl | (intro e; cases e; done) | fail) ?_) | (refine CL.mk (Or.inl ?_); (conv => whnf); refine ClO.mk (Or.inl ?_); (repeat ((conv => whnf); refine Len.mk (by first | rfl | (simp; done) | (simp only [smT]; assumption) | (simp only [smT]; omega)) ?_)); (conv => whnf); first | refine Cl.is (hx) rfl (by first | exact fun _ => rfl | (intro e; cases e; done) | fail) ?_) | (refine CL.mk (Or.inl ?_); (conv => whnf); refine ClO.mk (Or.inr ?_); (repeat ((conv => whnf); refine Len.mk (by first | rfl | (simp; done) | (simp only [smT]; assumption) | (simp only [smT]; omega)) ?_)); (conv => whnf); first | refine Cl.is (hx) rfl (by first | exact fun _ => rfl | (intro e; cases e; done) | fail) ?_))
    all_goals (conv => whnf)
    · refine RetO.mk ⟨[(900, .k 900)], _, _, (by first | exact LeS.d (by first | exact LeD.u rfl | exact LeD.p rfl | exact LeD.ow rfl rfl | exact LeD.ow rfl (by simp) | exact LeD.no rfl rfl | exact LeD.nl (by first | rfl | simp) | exact LeD.u (by simp; done) | exact LeD.u (by congr 1; omega) | exact LeD.q rfl | exact LeD.r rfl | exact LeD.r (by simp; done) | exact LeD.re | exact LeD.ows rfl rfl rfl | exact LeD.u (by congr 1; congr 1; simp) | exact LeD.fn (by repeat (first | exact LeN.nil | refine LeN.cons rfl ?_))) | exact LeS.a (by repeat (first | exact LeL.nil | refine LeL.cons (by first | exact LeD.u rfl | exact LeD.p rfl | exact LeD.ow rfl rfl | exact LeD.ow rfl (by simp) | exact LeD.no rfl rfl | exact LeD.nl (by first | rfl | simp) | exact LeD.u (by simp; done) | exact LeD.u (by congr 1; omega) | exact LeD.q rfl | exact LeD.r rfl | exact LeD.r (by simp; done) | exact LeD.re | exact LeD.ows rfl rfl rfl | exact LeD.u (by congr 1; congr 1; simp) | exact LeD.fn (by repeat (first | exact LeN.nil | refine LeN.cons rfl ?_))) ?_)) | exact LeS.ts (by repeat (first | exact LeCs.nil | refine LeCs.cons (by first | exact LeC.d (by first | exact LeD.u rfl | exact LeD.p rfl | exact LeD.ow rfl rfl | exact LeD.ow rfl (by simp) | exact LeD.no rfl rfl | exact LeD.nl (by first | rfl | simp) | exact LeD.u (by simp; done) | exact LeD.u (by congr 1; omega) | exact LeD.q rfl | exact LeD.r rfl | exact LeD.r (by simp; done) | exact LeD.re | exact LeD.ows rfl rfl rfl | exact LeD.u (by congr 1; congr 1; simp) | exact LeD.fn (by repeat (first | exact LeN.nil | refine LeN.cons rfl ?_))) | exact LeC.a (by repeat (first | exact LeL.nil | refine LeL.cons (by first | exact LeD.u rfl | exact LeD.p rfl | exact LeD.ow rfl rfl | exact LeD.ow rfl (by simp) | exact LeD.no rfl rfl | exact LeD.nl (by first | rfl | simp) | exact LeD.u (by simp; done) | exact LeD.u (by congr 1; omega) | exact LeD.q rfl | exact LeD.r rfl | exact LeD.r (by simp; done) | exact LeD.re | exact LeD.ows rfl rfl rfl | exact LeD.u (by congr 1; congr 1; simp) | exact LeD.fn (by repeat (first | exact LeN.nil | refine LeN.cons rfl ?_))) ?_))) ?_))), (by repeat (first | exact LeO.nil | refine LeO.bx rfl rfl (by repeat (first | exact LeL.nil | refine LeL.cons (by first | exact LeD.u rfl | exact LeD.p rfl | exact LeD.ow rfl rfl | exact LeD.ow rfl (by simp) | exact LeD.no rfl rfl | exact LeD.nl (by first | rfl | simp) | exact LeD.u (by simp; done) | exact LeD.u (by congr 1; omega) | exact LeD.q rfl | exact LeD.r rfl | exact LeD.r (by simp; done) | exact LeD.re | exact LeD.ows rfl rfl rfl | exact LeD.u (by congr 1; congr 1; simp) | exact LeD.fn (by repeat (first | exact LeN.nil | refine LeN.cons rfl ?_))) ?_)) ?_ | refine LeO.ar rfl rfl (by first | rfl | simp) ?_ | refine LeO.fm rfl (by first | rfl | simp) ?_ | refine LeO.no rfl rfl ?_)), rfl, rfl⟩
  · have hx := ix_T ws m hl
    rw [h2, Nat.zero_add] at hx
    refine callsA_of_vcO (T := tt) Try.func72 rfl rfl rfl rfl rfl ?_
    repeat' ((conv => whnf); first | refine Gs.id ?_ | with_reducible refine And.intro ?_ ?_ | with_reducible refine Brn.T rfl ?_ | with_reducible refine Brn.F rfl ?_ | refine Brn.T (by (try simp only [smT]); first | rfl | assumption | omega | (simp only [*]; done) | (simp [*]; done) | fail) ?_ | refine Brn.F (by (try simp only [smT]); first | rfl | assumption | omega | (simp only [*]; done) | (simp [*]; done) | fail) ?_ | (refine Brn.mk (fun hb => ?_) (fun hb => ?_) <;> (try simp only [smT] at hb) <;> (try (exact absurd trivial hb)) <;> (try (exfalso; omega))) | (refine Bnd.mk (fun hm => ?_); (try simp only [smT] at hm)) | refine Rng.mk (by (try simp only [smT]); omega) ?_ | refine Ix.map rfl (by (try simp only [smT]); omega) ?_ | refine Ix.map (m := 0) rfl (by (try simp only [smT]); omega) ?_ | refine Ix.lit (m := 0) rfl rfl ?_ | refine Ixo.mk ⟨_, rfl, (by (try simp only [smT]); omega), ?_⟩ | refine Rw.lit rfl ?_ | refine Rw.self (by (try simp only [smT]); omega) ?_ | refine Rw.map (by (try simp only [smT]); omega) ?_ | refine Len.mk (by first | rfl | (simp; done) | (simp only [smT]; assumption) | (simp only [smT]; omega)) ?_ | refine Eqv.mk (by kernel_rfl) ?_ | refine Apd.mk (by first | rfl | simp) (by first | rfl | simp) (by (try simp only [smT]); first | omega | (simp; omega)) (by unfold maxLen; first | (simp; done) | (simp; omega) | omega) ?_ | refine Raw.capNil (T := tt) rfl rfl rfl rfl ?_ | refine Raw.sliceNil (T := tt) rfl rfl (by first | rfl | omega | (simp; done)) rfl rfl rfl rfl ?_ | (refine Raw.appendR (T := tt) ?_; (conv => whnf); first | refine Rw.lit rfl ?_ | refine Rw.self (by (try simp only [smT]); omega) ?_ | refine Rw.map (by (try simp only [smT]); omega) ?_) | refine Raw.appendIn (T := tt) rfl rfl rfl rfl rfl rfl rfl rfl rfl rfl (by (try simp only [smT]); omega) (by (try simp only [smT]); omega) ?_ | refine Raw.clear (T := tt) rfl rfl rfl rfl rfl rfl rfl (by (try simp only [smT]); omega) ?_ | refine Slc.mk ⟨_, _, rfl, rfl, (by (try simp only [smT]); omega), (by (try simp only [smT]); omega), ?_⟩ | refine Slc.mk ⟨0, _, rfl, rfl, (by (try simp only [smT]); omega), (by (try simp only [smT]); omega), ?_⟩ | refine Slc.mk ⟨1, _, rfl, rfl, (by (try simp only [smT]); omega), (by (try simp only [smT]); omega), ?_⟩ | refine Slc3.mk ⟨_, _, _, rfl, rfl, rfl, (by (try simp only [smT]); omega), (by (try simp only [smT]); omega), (by (try simp only [smT]); omega)⟩ ?_ | (refine CL.mk (Or.inl ?_); (conv => whnf); first | refine Cl.is (hx) rfl (by first | exact fun _ => rfl | (intro e; cases e; done) | fail) ?_) | (refine CL.mk (Or.inl ?_); (conv => whnf); refine ClO.mk (Or.inl ?_); (repeat ((conv => whnf); refine Len.mk (by first | rfl | (simp; done) | (simp only [smT]; assumption) | (simp only [smT]; omega)) ?_)); (conv => whnf); first | refine Cl.is (hx) rfl (by first | exact fun _ => rfl | (intro e; cases e; done) | fail) ?_) | (refine CL.mk (Or.inl ?_); (conv => whnf); refine ClO.mk (Or.inr ?_); (repeat ((conv => whnf); refine Len.mk (by first | rfl | (simp; done) | (simp only [smT]; assumption) | (simp only [smT]; omega)) ?_)); (conv => whnf); first | refine Cl.is (hx) rfl (by first | exact fun _ => rfl | (intro e; cases e; done) | fail) ?_))
    all_goals (conv => whnf)
    · refine ⟨⟨Nat × Nat × List Int, fun x => x.1 < x.2.1 ∧ x.2.1 ≤ ws.length ∧ x.2.2.length = ws.length ∧ x.2.2.take x.1 = ((ws.take x.2.1).filter fun w => w != m) ∧ x.2.2.drop x.2.1 = ws.drop x.2.1, fun x => ws.length - x.2.1, fun x => ⟨[(0, .d (.ow 900 ws.length)), (1, .d (.u (clM m))), (5, di x.1), (6, di x.2.1)], [iar x.2.2]⟩, (i0, i0 + 1, ws), ⟨by dsimp only; omega, by dsimp only; omega, rfl, h3.symm, rfl⟩, ⟨[(900, .k 900)], ⟨by (try dsimp only); (repeat (refine LeT.cons rfl (by first | exact LeS.d (by first | exact LeD.u rfl | exact LeD.p rfl | exact LeD.ow rfl rfl | exact LeD.ow rfl (by simp) | exact LeD.no rfl rfl | exact LeD.nl (by first | rfl | simp) | exact LeD.u (by simp; done) | exact LeD.u (by congr 1; omega) | exact LeD.q rfl | exact LeD.r rfl | exact LeD.r (by simp; done) | exact LeD.re | exact LeD.ows rfl rfl rfl | exact LeD.u (by congr 1; congr 1; simp) | exact LeD.fn (by repeat (first | exact LeN.nil | refine LeN.cons rfl ?_))) | exact LeS.a (by repeat (first | exact LeL.nil | refine LeL.cons (by first | exact LeD.u rfl | exact LeD.p rfl | exact LeD.ow rfl rfl | exact LeD.ow rfl (by simp) | exact LeD.no rfl rfl | exact LeD.nl (by first | rfl | simp) | exact LeD.u (by simp; done) | exact LeD.u (by congr 1; omega) | exact LeD.q rfl | exact LeD.r rfl | exact LeD.r (by simp; done) | exact LeD.re | exact LeD.ows rfl rfl rfl | exact LeD.u (by congr 1; congr 1; simp) | exact LeD.fn (by repeat (first | exact LeN.nil | refine LeN.cons rfl ?_))) ?_))) ?_)); exact LeT.nil, by (try dsimp only); repeat (first | exact LeO.nil | refine LeO.bx rfl rfl (by repeat (first | exact LeL.nil | refine LeL.cons (by first | exact LeD.u rfl | exact LeD.p rfl | exact LeD.ow rfl rfl | exact LeD.ow rfl (by simp) | exact LeD.no rfl rfl | exact LeD.nl (by first | rfl | simp) | exact LeD.u (by simp; done) | exact LeD.u (by congr 1; omega) | exact LeD.q rfl | exact LeD.r rfl | exact LeD.r (by simp; done) | exact LeD.re | exact LeD.ows rfl rfl rfl | exact LeD.u (by congr 1; congr 1; simp) | exact LeD.fn (by repeat (first | exact LeN.nil | refine LeN.cons rfl ?_))) ?_)) ?_ | refine LeO.ar rfl rfl (by first | rfl | simp) ?_ | refine LeO.fm rfl (by first | rfl | simp) ?_ | refine LeO.no rfl rfl ?_)⟩⟩, fun ⟨i, j, a⟩ ⟨q1, q2, q3, q4, q5⟩ => ?_⟩⟩
      dsimp only at q1 q2 q3 q4 q5 ⊢
      repeat' ((conv => whnf); first | refine Gs.id ?_ | with_reducible refine And.intro ?_ ?_ | with_reducible refine Brn.T rfl ?_ | with_reducible refine Brn.F rfl ?_ | refine Brn.T (by (try simp only [smT]); first | rfl | assumption | omega | (simp only [*]; done) | (simp [*]; done) | fail) ?_ | refine Brn.F (by (try simp only [smT]); first | rfl | assumption | omega | (simp only [*]; done) | (simp [*]; done) | fail) ?_ | (refine Brn.mk (fun hb => ?_) (fun hb => ?_) <;> (try simp only [smT] at hb) <;> (try (exact absurd trivial hb)) <;> (try (exfalso; omega))) | (refine Bnd.mk (fun hm => ?_); (try simp only [smT] at hm)) | refine Rng.mk (by (try simp only [smT]); omega) ?_ | refine Ix.map rfl (by (try simp only [smT]); omega) ?_ | refine Ix.map (m := 0) rfl (by (try simp only [smT]); omega) ?_ | refine Ix.lit (m := 0) rfl rfl ?_ | refine Ixo.mk ⟨_, rfl, (by (try simp only [smT]); omega), ?_⟩ | refine Rw.lit rfl ?_ | refine Rw.self (by (try simp only [smT]); omega) ?_ | refine Rw.map (by (try simp only [smT]); omega) ?_ | refine Len.mk (by first | rfl | (simp; done) | (simp only [smT]; assumption) | (simp only [smT]; omega)) ?_ | refine Eqv.mk (by kernel_rfl) ?_ | refine Apd.mk (by first | rfl | simp) (by first | rfl | simp) (by (try simp only [smT]); first | omega | (simp; omega)) (by unfold maxLen; first | (simp; done) | (simp; omega) | omega) ?_ | refine Raw.capNil (T := tt) rfl rfl rfl rfl ?_ | refine Raw.sliceNil (T := tt) rfl rfl (by first | rfl | omega | (simp; done)) rfl rfl rfl rfl ?_ | (refine Raw.appendR (T := tt) ?_; (conv => whnf); first | refine Rw.lit rfl ?_ | refine Rw.self (by (try simp only [smT]); omega) ?_ | refine Rw.map (by (try simp only [smT]); omega) ?_) | refine Raw.appendIn (T := tt) rfl rfl rfl rfl rfl rfl rfl rfl rfl rfl (by (try simp only [smT]); omega) (by (try simp only [smT]); omega) ?_ | refine Raw.clear (T := tt) rfl rfl rfl rfl rfl rfl rfl (by (try simp only [smT]); omega) ?_ | refine Slc.mk ⟨_, _, rfl, rfl, (by (try simp only [smT]); omega), (by (try simp only [smT]); omega), ?_⟩ | refine Slc.mk ⟨0, _, rfl, rfl, (by (try simp only [smT]); omega), (by (try simp only [smT]); omega), ?_⟩ | refine Slc.mk ⟨1, _, rfl, rfl, (by (try simp only [smT]); omega), (by (try simp only [smT]); omega), ?_⟩ | refine Slc3.mk ⟨_, _, _, rfl, rfl, rfl, (by (try simp only [smT]); omega), (by (try simp only [smT]); omega), (by (try simp only [smT]); omega)⟩ ?_ | (refine Raw.callF [] [] rfl rfl rfl rfl rfl rfl rfl rfl (cancel1_T _ m) ?_; rintro _ _ ⟨rfl, rfl⟩; refine Bk.mk rfl rfl ?_))
      all_goals (conv => whnf)
      · have h9 : j < ws.length := by omega
        have hv : a[j]'(by omega) = ws[j] := by
          have := congrArg List.head? q5
          simpa [List.head?_drop, h9, show j < a.length by omega] using this
        have hne : ¬ ws[j] = m := by rw [← hv]; assumption
        refine ⟨(i + 1, j + 1, a.set i (a[j]'(by omega))), ⟨by dsimp only; omega, by dsimp only; omega, by simp [q3], ?_, ?_⟩, by dsimp only; omega, [(900, .k 900)], ⟨by (try dsimp only); (repeat (refine LeT.cons rfl (by first | exact LeS.d (by first | exact LeD.u rfl | exact LeD.p rfl | exact LeD.ow rfl rfl | exact LeD.ow rfl (by simp [List.map_set]) | exact LeD.no rfl rfl | exact LeD.nl (by first | rfl | simp [List.map_set]) | exact LeD.u (by simp [List.map_set]; done) | exact LeD.u (by congr 1; omega) | exact LeD.q rfl | exact LeD.r rfl | exact LeD.r (by simp [List.map_set]; done) | exact LeD.re | exact LeD.ows rfl rfl rfl | exact LeD.u (by congr 1; congr 1; simp) | exact LeD.fn (by repeat (first | exact LeN.nil | refine LeN.cons rfl ?_))) | exact LeS.a (by repeat (first | exact LeL.nil | refine LeL.cons (by first | exact LeD.u rfl | exact LeD.p rfl | exact LeD.ow rfl rfl | exact LeD.ow rfl (by simp [List.map_set]) | exact LeD.no rfl rfl | exact LeD.nl (by first | rfl | simp [List.map_set]) | exact LeD.u (by simp [List.map_set]; done) | exact LeD.u (by congr 1; omega) | exact LeD.q rfl | exact LeD.r rfl | exact LeD.r (by simp [List.map_set]; done) | exact LeD.re | exact LeD.ows rfl rfl rfl | exact LeD.u (by congr 1; congr 1; simp) | exact LeD.fn (by repeat (first | exact LeN.nil | refine LeN.cons rfl ?_))) ?_))) ?_)); exact LeT.nil, by (try dsimp only); repeat (first | exact LeO.nil | refine LeO.bx rfl rfl (by repeat (first | exact LeL.nil | refine LeL.cons (by first | exact LeD.u rfl | exact LeD.p rfl | exact LeD.ow rfl rfl | exact LeD.ow rfl (by simp [List.map_set]) | exact LeD.no rfl rfl | exact LeD.nl (by first | rfl | simp [List.map_set]) | exact LeD.u (by simp [List.map_set]; done) | exact LeD.u (by congr 1; omega) | exact LeD.q rfl | exact LeD.r rfl | exact LeD.r (by simp [List.map_set]; done) | exact LeD.re | exact LeD.ows rfl rfl rfl | exact LeD.u (by congr 1; congr 1; simp) | exact LeD.fn (by repeat (first | exact LeN.nil | refine LeN.cons rfl ?_))) ?_)) ?_ | refine LeO.ar rfl rfl (by first | rfl | simp [List.map_set]) ?_ | refine LeO.fm rfl (by first | rfl | simp [List.map_set]) ?_ | refine LeO.no rfl rfl ?_)⟩⟩
        · dsimp only
          rw [List.take_succ_eq_append_getElem h9, List.filter_append, ← q4, List.filter_cons_of_pos (by simpa using hne), List.filter_nil, List.take_succ_eq_append_getElem (by simp; omega), List.take_set_of_le (Nat.le_refl _), List.getElem_set_self, hv]
        · dsimp only
          rw [List.drop_set_of_lt (by omega), ← List.tail_drop, q5, List.tail_drop]
      · have h9 : j < ws.length := by omega
        have hv : a[j]'(by omega) = ws[j] := by
          have := congrArg List.head? q5
          simpa [List.head?_drop, h9, show j < a.length by omega] using this
        have hne : ws[j] = m := by rw [← hv]; assumption
        refine ⟨(i, j + 1, a), ⟨by dsimp only; omega, by dsimp only; omega, q3, ?_, ?_⟩, by dsimp only; omega, [(900, .k 900)], ⟨by (try dsimp only); (repeat (refine LeT.cons rfl (by first | exact LeS.d (by first | exact LeD.u rfl | exact LeD.p rfl | exact LeD.ow rfl rfl | exact LeD.ow rfl (by simp) | exact LeD.no rfl rfl | exact LeD.nl (by first | rfl | simp) | exact LeD.u (by simp; done) | exact LeD.u (by congr 1; omega) | exact LeD.q rfl | exact LeD.r rfl | exact LeD.r (by simp; done) | exact LeD.re | exact LeD.ows rfl rfl rfl | exact LeD.u (by congr 1; congr 1; simp) | exact LeD.fn (by repeat (first | exact LeN.nil | refine LeN.cons rfl ?_))) | exact LeS.a (by repeat (first | exact LeL.nil | refine LeL.cons (by first | exact LeD.u rfl | exact LeD.p rfl | exact LeD.ow rfl rfl | exact LeD.ow rfl (by simp) | exact LeD.no rfl rfl | exact LeD.nl (by first | rfl | simp) | exact LeD.u (by simp; done) | exact LeD.u (by congr 1; omega) | exact LeD.q rfl | exact LeD.r rfl | exact LeD.r (by simp; done) | exact LeD.re | exact LeD.ows rfl rfl rfl | exact LeD.u (by congr 1; congr 1; simp) | exact LeD.fn (by repeat (first | exact LeN.nil | refine LeN.cons rfl ?_))) ?_))) ?_)); exact LeT.nil, by (try dsimp only); repeat (first | exact LeO.nil | refine LeO.bx rfl rfl (by repeat (first | exact LeL.nil | refine LeL.cons (by first | exact LeD.u rfl | exact LeD.p rfl | exact LeD.ow rfl rfl | exact LeD.ow rfl (by simp) | exact LeD.no rfl rfl | exact LeD.nl (by first | rfl | simp) | exact LeD.u (by simp; done) | exact LeD.u (by congr 1; omega) | exact LeD.q rfl | exact LeD.r rfl | exact LeD.r (by simp; done) | exact LeD.re | exact LeD.ows rfl rfl rfl | exact LeD.u (by congr 1; congr 1; simp) | exact LeD.fn (by repeat (first | exact LeN.nil | refine LeN.cons rfl ?_))) ?_)) ?_ | refine LeO.ar rfl rfl (by first | rfl | simp) ?_ | refine LeO.fm rfl (by first | rfl | simp) ?_ | refine LeO.no rfl rfl ?_)⟩⟩
        · dsimp only
          rw [List.take_succ_eq_append_getElem h9, List.filter_append, ← q4, List.filter_cons_of_neg (by simpa using hne), List.filter_nil, List.append_nil]
        · dsimp only
          rw [← List.tail_drop, q5, List.tail_drop]
      · have h9 : j = ws.length := by omega
        subst h9
        rw [List.take_length] at q4
        have hl2 : i = (ws.filter fun w => w != m).length := by rw [← q4]; simp; omega
        refine RetO.mk ⟨[(900, .k 900)], _, _, .d (.ow rfl hl2), LeO.tr (m := i) rfl rfl ?_ ?_ .nil, rfl, rfl⟩
        · simp [putR]; omega
        · rw [putR_take _ _ _ (by simp; omega), ← List.map_take, q4]
theorem delF_T' (ws : List Int) (m : Int) (n0 : Nat) (h0 : n0 = ws.length) (hl : ws.length ≤ 1000000) : CallsA Try.prog 72 [.d (.ow 900 n0), .d (.u (clM m))] [iar ws] (Iso (.d (.ow 900 (ws.filter fun w => w != m).length)) [iar (ws.filter fun w => w != m)]) := by
  subst h0; exact delF_T ws m hl
def strT (n : Nat) (t : Tsk) : Tsk := { t with waiters := t.waiters.filter fun w => w != n }
def mixT (l : List Tsk) (n k : Nat) : List Tsk := (l.take k).map (strT n) ++ l.drop k
theorem mixT_len (l : List Tsk) (n k : Nat) : (mixT l n k).length = l.length := by simp [mixT]; omega
theorem mixT_get (l : List Tsk) (n k : Nat) (h : k < l.length) : (mixT l n k)[k]? = some l[k] := by
  rw [mixT, List.getElem?_append_right (by simp; omega)]
  simp [Nat.min_eq_left (Nat.le_of_lt h), h]
theorem mixT_succ (l : List Tsk) (n k : Nat) (h : k < l.length) : mixT l n (k + 1) = (mixT l n k).set k (strT n l[k]) := by
  rw [mixT, mixT, List.take_succ_eq_append_getElem h, List.map_append, List.set_append_right _ _ (by simp; omega)]
  simp only [List.length_map, List.length_take, Nat.min_eq_left (Nat.le_of_lt h), Nat.sub_self]
  simp
  rw [List.drop_eq_getElem_cons h]
  rfl
set_option maxHeartbeats 1000000 in
theorem cancel_T (jobs : List Jb) (now ser : Int) (rs : List Int) (ts : List Tm) (tasks : List Tsk) (log : List Rc) (n : Nat) (hn : n < tasks.length) (hw : ∀ t ∈ tasks, t.waiters.length ≤ 1000000) (hs : Small ⟨now, ser, rs, ts⟩) (y1 y2 : Int) (y3 : List Int) (y4 : List Tm) (f : Int × Int) (ys : List Tsk) (e : wakeP ⟨now, ser, rs, ts⟩ n = (⟨y1, y2, y3, y4⟩, f)) (ey : cancelTs tasks n = ys) (r1 r2 : List (List E)) (e1 : r1 = [smRow jobs now ser rs ts tasks.length log]) (e2 : r2 = tasks.map Tsk.row) :
    CallsA Try.prog 70 [smP, di n] [(1, .fm 80 r1), (2, .fm 104 r2)] (Iso (.t []) (smOb jobs y1 y2 y3 y4 ys log)) := by
  subst e1 e2
  obtain ⟨tn, htn⟩ : ∃ t, tasks[n]? = some t := ⟨_, List.getElem?_eq_getElem hn⟩
  obtain ⟨job, begun, guarding, ended, cancelled, left, ws⟩ := tn
  have hmod : (tasks.modify n fun t => { t with cancelled := true }) = tasks.set n ⟨job, begun, guarding, ended, true, left, ws⟩ := by
    apply List.ext_getElem?
    intro i
    rw [List.getElem?_modify, List.getElem?_set]
    by_cases hi : n = i
    · subst hi; rw [htn]; simp [hn]
    · simp [hi]
  have hw0 : ∀ t ∈ tasks.set n ⟨job, begun, guarding, ended, true, left, ws⟩, t.waiters.length ≤ 1000000 := fun t ht => by
    rcases List.mem_or_eq_of_mem_set ht with h | rfl
    · exact hw t h
    · have := hw _ (List.mem_of_getElem? htn); exact this
  have hlen0 : (tasks.set n ⟨job, begun, guarding, ended, true, left, ws⟩).length = tasks.length := by simp
  have hys : ys = mixT (tasks.set n ⟨job, begun, guarding, ended, true, left, ws⟩) n tasks.length := by
    rw [← ey, cancelTs, hmod, mixT, List.take_of_length_le (by simp), List.drop_of_length_le (by simp), List.append_nil]; rfl
  refine callsA_of_vcO (T := tt) Try.func70 rfl rfl rfl rfl rfl ?_
  repeat' ((conv => whnf); first | refine Rw_ptrs (by omega) ?_ | refine Rw_tsk htn ?_ | refine Gs.go (i := 2) (Ghost.frzB 3 rfl rfl) ?_ | refine Drw.ghost (i := 2) (Ghost.frzB 3 rfl rfl) ?_ | refine Gs.id ?_ | with_reducible refine And.intro ?_ ?_ | with_reducible refine Brn.T rfl ?_ | with_reducible refine Brn.F rfl ?_ | refine Brn.T (by (try simp only [smT]); first | rfl | assumption | omega | (simp only [*]; done) | (simp [*]; done) | fail) ?_ | refine Brn.F (by (try simp only [smT]); first | rfl | assumption | omega | (simp only [*]; done) | (simp [*]; done) | fail) ?_ | (refine Brn.mk (fun hb => ?_) (fun hb => ?_) <;> (try simp only [smT] at hb) <;> (try (exact absurd trivial hb)) <;> (try (exfalso; omega))) | (refine Bnd.mk (fun hm => ?_); (try simp only [smT] at hm)) | refine Rng.mk (by (try simp only [smT]); omega) ?_ | refine Ix.map rfl (by (try simp only [smT]); omega) ?_ | refine Ix.map (m := 0) rfl (by (try simp only [smT]); omega) ?_ | refine Ix.lit (m := 0) rfl rfl ?_ | refine Ixo.mk ⟨_, rfl, (by (try simp only [smT]); omega), ?_⟩ | refine Rw.lit rfl ?_ | refine Rw.self (by (try simp only [smT]); omega) ?_ | refine Rw.map (by (try simp only [smT]); omega) ?_ | refine Len.mk (by first | rfl | (simp; done) | (simp only [smT]; assumption) | (simp only [smT]; omega)) ?_ | refine Eqv.mk (by kernel_rfl) ?_ | refine Apd.mk (by first | rfl | simp) (by first | rfl | simp) (by (try simp only [smT]); first | omega | (simp; omega)) (by unfold maxLen; first | (simp; done) | (simp; omega) | omega) ?_ | refine Raw.capNil (T := tt) rfl rfl rfl rfl ?_ | refine Raw.sliceNil (T := tt) rfl rfl (by first | rfl | omega | (simp; done)) rfl rfl rfl rfl ?_ | (refine Raw.appendR (T := tt) ?_; (conv => whnf); first | refine Rw_ptrs (by omega) ?_ | refine Rw_tsk htn ?_ | refine Gs.go (i := 2) (Ghost.frzB 3 rfl rfl) ?_ | refine Drw.ghost (i := 2) (Ghost.frzB 3 rfl rfl) ?_ | refine Rw.lit rfl ?_ | refine Rw.self (by (try simp only [smT]); omega) ?_ | refine Rw.map (by (try simp only [smT]); omega) ?_) | refine Raw.appendIn (T := tt) rfl rfl rfl rfl rfl rfl rfl rfl rfl rfl (by (try simp only [smT]); omega) (by (try simp only [smT]); omega) ?_ | refine Raw.clear (T := tt) rfl rfl rfl rfl rfl rfl rfl (by (try simp only [smT]); omega) ?_ | refine Slc.mk ⟨_, _, rfl, rfl, (by (try simp only [smT]); omega), (by (try simp only [smT]); omega), ?_⟩ | refine Slc.mk ⟨0, _, rfl, rfl, (by (try simp only [smT]); omega), (by (try simp only [smT]); omega), ?_⟩ | refine Slc.mk ⟨1, _, rfl, rfl, (by (try simp only [smT]); omega), (by (try simp only [smT]); omega), ?_⟩ | refine Slc3.mk ⟨_, _, _, rfl, rfl, rfl, (by (try simp only [smT]); omega), (by (try simp only [smT]); omega), (by (try simp only [smT]); omega)⟩ ?_ | refine Drw.of (T := tt) (i := 1) [9] [] [(0, true), (1, true), (2, true), (3, true), (4, true), (5, true), (6, true), (7, true), (8, true), (9, false)] (by kernel_rfl) ?_ | refine Drw.of (T := tt) (i := 7) [12] [9] [(0, true), (1, true), (2, true), (3, true), (4, true), (5, true), (6, false), (7, true), (8, true), (9, true), (10, true), (11, true), (12, false)] (by kernel_rfl) ?_)
  all_goals (conv => whnf)
  generalize htk : tasks.set n ⟨job, begun, guarding, ended, true, left, ws⟩ = tk at hw0 hys hlen0
  refine ⟨⟨Nat, fun k => k ≤ tasks.length, fun k => tasks.length - k, fun k => ⟨[(0, smP), (3, .d (.q [.int .i64 n] 0)), (18, .d (D.r 1 0 5 1 tasks.length)), (19, di tasks.length), (20, di k)], [(1, .fm 80 [smRow jobs now ser rs ts tasks.length log]), (2, .fm 104 ((mixT tk n k).map Tsk.row))]⟩, 0, Nat.zero_le _, ⟨[(1, .k 1), (2, .k 2)], ⟨by (try dsimp only); (repeat (refine LeT.cons rfl (by first | exact LeS.d (by first | exact LeD.u rfl | exact LeD.p rfl | exact LeD.ow rfl rfl | exact LeD.ow rfl (by simp [mixT, ← htk, List.map_set, Tsk.row]) | exact LeD.no rfl rfl | exact LeD.nl (by first | rfl | simp [mixT, ← htk, List.map_set, Tsk.row]) | exact LeD.u (by simp [mixT, ← htk, List.map_set, Tsk.row]; done) | exact LeD.u (by congr 1; omega) | exact LeD.q rfl | exact LeD.r rfl | exact LeD.r (by simp [mixT, ← htk, List.map_set, Tsk.row]; done) | exact LeD.re | exact LeD.ows rfl rfl rfl | exact LeD.u (by congr 1; congr 1; simp) | exact LeD.fn (by repeat (first | exact LeN.nil | refine LeN.cons rfl ?_))) | exact LeS.a (by repeat (first | exact LeL.nil | refine LeL.cons (by first | exact LeD.u rfl | exact LeD.p rfl | exact LeD.ow rfl rfl | exact LeD.ow rfl (by simp [mixT, ← htk, List.map_set, Tsk.row]) | exact LeD.no rfl rfl | exact LeD.nl (by first | rfl | simp [mixT, ← htk, List.map_set, Tsk.row]) | exact LeD.u (by simp [mixT, ← htk, List.map_set, Tsk.row]; done) | exact LeD.u (by congr 1; omega) | exact LeD.q rfl | exact LeD.r rfl | exact LeD.r (by simp [mixT, ← htk, List.map_set, Tsk.row]; done) | exact LeD.re | exact LeD.ows rfl rfl rfl | exact LeD.u (by congr 1; congr 1; simp) | exact LeD.fn (by repeat (first | exact LeN.nil | refine LeN.cons rfl ?_))) ?_))) ?_)); exact LeT.nil, by (try dsimp only); repeat (first | exact LeO.nil | refine LeO.bx rfl rfl (by repeat (first | exact LeL.nil | refine LeL.cons (by first | exact LeD.u rfl | exact LeD.p rfl | exact LeD.ow rfl rfl | exact LeD.ow rfl (by simp [mixT, ← htk, List.map_set, Tsk.row]) | exact LeD.no rfl rfl | exact LeD.nl (by first | rfl | simp [mixT, ← htk, List.map_set, Tsk.row]) | exact LeD.u (by simp [mixT, ← htk, List.map_set, Tsk.row]; done) | exact LeD.u (by congr 1; omega) | exact LeD.q rfl | exact LeD.r rfl | exact LeD.r (by simp [mixT, ← htk, List.map_set, Tsk.row]; done) | exact LeD.re | exact LeD.ows rfl rfl rfl | exact LeD.u (by congr 1; congr 1; simp) | exact LeD.fn (by repeat (first | exact LeN.nil | refine LeN.cons rfl ?_))) ?_)) ?_ | refine LeO.ar rfl rfl (by first | rfl | simp [mixT, ← htk, List.map_set, Tsk.row]) ?_ | refine LeO.fm rfl (by first | rfl | simp [mixT, ← htk, List.map_set, Tsk.row]) ?_ | refine LeO.no rfl rfl ?_)⟩⟩, fun k hk => ?_⟩⟩
  dsimp only at hk ⊢
  by_cases h9 : k < tasks.length
  · have hg := mixT_get tk n k (by omega)
    have hws := hw0 _ (List.getElem_mem (show k < tk.length by omega))
    have hsu := mixT_succ tk n k (by omega)
    generalize tk[k]'(by omega) = t at hg hws hsu
    obtain ⟨job', begun', guarding', ended', cancelled', left', ws'⟩ := t
    repeat' ((conv => whnf); first | refine Rw_ptrs (by omega) ?_ | refine Rw_tsk hg ?_ | refine Rw.self (by simp [mixT_len]; omega) ?_ | refine Gs.id ?_ | with_reducible refine And.intro ?_ ?_ | with_reducible refine Brn.T rfl ?_ | with_reducible refine Brn.F rfl ?_ | refine Brn.T (by (try simp only [smT]); first | rfl | assumption | omega | (simp only [*]; done) | (simp [*]; done) | fail) ?_ | refine Brn.F (by (try simp only [smT]); first | rfl | assumption | omega | (simp only [*]; done) | (simp [*]; done) | fail) ?_ | (refine Brn.mk (fun hb => ?_) (fun hb => ?_) <;> (try simp only [smT] at hb) <;> (try (exact absurd trivial hb)) <;> (try (exfalso; omega))) | (refine Bnd.mk (fun hm => ?_); (try simp only [smT] at hm)) | refine Rng.mk (by (try simp only [smT]); omega) ?_ | refine Ix.map rfl (by (try simp only [smT]); omega) ?_ | refine Ix.map (m := 0) rfl (by (try simp only [smT]); omega) ?_ | refine Ix.lit (m := 0) rfl rfl ?_ | refine Ixo.mk ⟨_, rfl, (by (try simp only [smT]); omega), ?_⟩ | refine Rw.lit rfl ?_ | refine Rw.self (by (try simp only [smT]); omega) ?_ | refine Rw.map (by (try simp only [smT]); omega) ?_ | refine Len.mk (by first | rfl | (simp; done) | (simp only [smT]; assumption) | (simp only [smT]; omega)) ?_ | refine Eqv.mk (by kernel_rfl) ?_ | refine Apd.mk (by first | rfl | simp) (by first | rfl | simp) (by (try simp only [smT]); first | omega | (simp; omega)) (by unfold maxLen; first | (simp; done) | (simp; omega) | omega) ?_ | refine Raw.capNil (T := tt) rfl rfl rfl rfl ?_ | refine Raw.sliceNil (T := tt) rfl rfl (by first | rfl | omega | (simp; done)) rfl rfl rfl rfl ?_ | (refine Raw.appendR (T := tt) ?_; (conv => whnf); first | refine Rw_ptrs (by omega) ?_ | refine Rw_tsk hg ?_ | refine Rw.self (by simp [mixT_len]; omega) ?_ | refine Rw.lit rfl ?_ | refine Rw.self (by (try simp only [smT]); omega) ?_ | refine Rw.map (by (try simp only [smT]); omega) ?_) | refine Raw.appendIn (T := tt) rfl rfl rfl rfl rfl rfl rfl rfl rfl rfl (by (try simp only [smT]); omega) (by (try simp only [smT]); omega) ?_ | refine Raw.clear (T := tt) rfl rfl rfl rfl rfl rfl rfl (by (try simp only [smT]); omega) ?_ | refine Slc.mk ⟨_, _, rfl, rfl, (by (try simp only [smT]); omega), (by (try simp only [smT]); omega), ?_⟩ | refine Slc.mk ⟨0, _, rfl, rfl, (by (try simp only [smT]); omega), (by (try simp only [smT]); omega), ?_⟩ | refine Slc.mk ⟨1, _, rfl, rfl, (by (try simp only [smT]); omega), (by (try simp only [smT]); omega), ?_⟩ | refine Slc3.mk ⟨_, _, _, rfl, rfl, rfl, (by (try simp only [smT]); omega), (by (try simp only [smT]); omega), (by (try simp only [smT]); omega)⟩ ?_ | refine Drw.of (T := tt) (i := 1) [9] [] [(0, true), (1, true), (2, true), (3, true), (4, true), (5, true), (6, true), (7, true), (8, true), (9, false)] (by kernel_rfl) ?_ | refine Drw.of (T := tt) (i := 7) [12] [9] [(0, true), (1, true), (2, true), (3, true), (4, true), (5, true), (6, false), (7, true), (8, true), (9, true), (10, true), (11, true), (12, false)] (by kernel_rfl) ?_ | (refine CL.mk (Or.inr (Raw.take 900 28 rfl rfl rfl ((by rw [List.getElem?_map, hg]; rfl)) rfl rfl rfl (Raw.callI [900] [900] rfl rfl rfl rfl rfl rfl rfl (delF_T' ws' n _ (by simp) hws) ?_))); rintro _ _ ⟨rfl, rfl⟩; refine Bk.mk rfl rfl ?_))
    all_goals (conv => whnf)
    · refine ⟨k + 1, by omega, by omega, [(1, .k 1), (2, .k 2)], ⟨by (try dsimp only); (repeat (refine LeT.cons rfl (by first | exact LeS.d (by first | exact LeD.u rfl | exact LeD.p rfl | exact LeD.ow rfl rfl | exact LeD.ow rfl (by simp [hsu, List.map_set, strT, Tsk.row]) | exact LeD.no rfl rfl | exact LeD.nl (by first | rfl | simp [hsu, List.map_set, strT, Tsk.row]) | exact LeD.u (by simp [hsu, List.map_set, strT, Tsk.row]; done) | exact LeD.u (by congr 1; omega) | exact LeD.q rfl | exact LeD.r rfl | exact LeD.r (by simp [hsu, List.map_set, strT, Tsk.row]; done) | exact LeD.re | exact LeD.ows rfl rfl rfl | exact LeD.u (by congr 1; congr 1; simp) | exact LeD.fn (by repeat (first | exact LeN.nil | refine LeN.cons rfl ?_))) | exact LeS.a (by repeat (first | exact LeL.nil | refine LeL.cons (by first | exact LeD.u rfl | exact LeD.p rfl | exact LeD.ow rfl rfl | exact LeD.ow rfl (by simp [hsu, List.map_set, strT, Tsk.row]) | exact LeD.no rfl rfl | exact LeD.nl (by first | rfl | simp [hsu, List.map_set, strT, Tsk.row]) | exact LeD.u (by simp [hsu, List.map_set, strT, Tsk.row]; done) | exact LeD.u (by congr 1; omega) | exact LeD.q rfl | exact LeD.r rfl | exact LeD.r (by simp [hsu, List.map_set, strT, Tsk.row]; done) | exact LeD.re | exact LeD.ows rfl rfl rfl | exact LeD.u (by congr 1; congr 1; simp) | exact LeD.fn (by repeat (first | exact LeN.nil | refine LeN.cons rfl ?_))) ?_))) ?_)); exact LeT.nil, by (try dsimp only); repeat (first | exact LeO.nil | refine LeO.bx rfl rfl (by repeat (first | exact LeL.nil | refine LeL.cons (by first | exact LeD.u rfl | exact LeD.p rfl | exact LeD.ow rfl rfl | exact LeD.ow rfl (by simp [hsu, List.map_set, strT, Tsk.row]) | exact LeD.no rfl rfl | exact LeD.nl (by first | rfl | simp [hsu, List.map_set, strT, Tsk.row]) | exact LeD.u (by simp [hsu, List.map_set, strT, Tsk.row]; done) | exact LeD.u (by congr 1; omega) | exact LeD.q rfl | exact LeD.r rfl | exact LeD.r (by simp [hsu, List.map_set, strT, Tsk.row]; done) | exact LeD.re | exact LeD.ows rfl rfl rfl | exact LeD.u (by congr 1; congr 1; simp) | exact LeD.fn (by repeat (first | exact LeN.nil | refine LeN.cons rfl ?_))) ?_)) ?_ | refine LeO.ar rfl rfl (by first | rfl | simp [hsu, List.map_set, strT, Tsk.row]) ?_ | refine LeO.fm rfl (by first | rfl | simp [hsu, List.map_set, strT, Tsk.row]) ?_ | refine LeO.no rfl rfl ?_)⟩⟩
  · obtain rfl : k = tasks.length := by omega
    repeat' ((conv => whnf); first | refine Gs.id ?_ | with_reducible refine And.intro ?_ ?_ | with_reducible refine Brn.T rfl ?_ | with_reducible refine Brn.F rfl ?_ | refine Brn.T (by (try simp only [smT]); first | rfl | assumption | omega | (simp only [*]; done) | (simp [*]; done) | fail) ?_ | refine Brn.F (by (try simp only [smT]); first | rfl | assumption | omega | (simp only [*]; done) | (simp [*]; done) | fail) ?_ | (refine Brn.mk (fun hb => ?_) (fun hb => ?_) <;> (try simp only [smT] at hb) <;> (try (exact absurd trivial hb)) <;> (try (exfalso; omega))) | (refine Bnd.mk (fun hm => ?_); (try simp only [smT] at hm)) | refine Rng.mk (by (try simp only [smT]); omega) ?_ | refine Ix.map rfl (by (try simp only [smT]); omega) ?_ | refine Ix.map (m := 0) rfl (by (try simp only [smT]); omega) ?_ | refine Ix.lit (m := 0) rfl rfl ?_ | refine Ixo.mk ⟨_, rfl, (by (try simp only [smT]); omega), ?_⟩ | refine Rw.lit rfl ?_ | refine Rw.self (by (try simp only [smT]); omega) ?_ | refine Rw.map (by (try simp only [smT]); omega) ?_ | refine Len.mk (by first | rfl | (simp; done) | (simp only [smT]; assumption) | (simp only [smT]; omega)) ?_ | refine Eqv.mk (by kernel_rfl) ?_ | refine Apd.mk (by first | rfl | simp) (by first | rfl | simp) (by (try simp only [smT]); first | omega | (simp; omega)) (by unfold maxLen; first | (simp; done) | (simp; omega) | omega) ?_ | refine Raw.capNil (T := tt) rfl rfl rfl rfl ?_ | refine Raw.sliceNil (T := tt) rfl rfl (by first | rfl | omega | (simp; done)) rfl rfl rfl rfl ?_ | (refine Raw.appendR (T := tt) ?_; (conv => whnf); first | refine Rw.lit rfl ?_ | refine Rw.self (by (try simp only [smT]); omega) ?_ | refine Rw.map (by (try simp only [smT]); omega) ?_) | refine Raw.appendIn (T := tt) rfl rfl rfl rfl rfl rfl rfl rfl rfl rfl (by (try simp only [smT]); omega) (by (try simp only [smT]); omega) ?_ | refine Raw.clear (T := tt) rfl rfl rfl rfl rfl rfl rfl (by (try simp only [smT]); omega) ?_ | refine Slc.mk ⟨_, _, rfl, rfl, (by (try simp only [smT]); omega), (by (try simp only [smT]); omega), ?_⟩ | refine Slc.mk ⟨0, _, rfl, rfl, (by (try simp only [smT]); omega), (by (try simp only [smT]); omega), ?_⟩ | refine Slc.mk ⟨1, _, rfl, rfl, (by (try simp only [smT]); omega), (by (try simp only [smT]); omega), ?_⟩ | refine Slc3.mk ⟨_, _, _, rfl, rfl, rfl, (by (try simp only [smT]); omega), (by (try simp only [smT]); omega), (by (try simp only [smT]); omega)⟩ ?_ | refine Drw.of (T := tt) (i := 1) [9] [] [(0, true), (1, true), (2, true), (3, true), (4, true), (5, true), (6, true), (7, true), (8, true), (9, false)] (by kernel_rfl) ?_ | refine Drw.of (T := tt) (i := 7) [12] [9] [(0, true), (1, true), (2, true), (3, true), (4, true), (5, true), (6, false), (7, true), (8, true), (9, true), (10, true), (11, true), (12, false)] (by kernel_rfl) ?_ | (refine CL.mk (Or.inl ?_); (conv => whnf); first | refine Cl.is (wake_T' _ _ _ _ hs _ y1 y2 y3 y4 f e) rfl (by first | exact fun _ => rfl | (intro e; cases e; done) | fail) ?_) | (refine CL.mk (Or.inl ?_); (conv => whnf); refine ClO.mk (Or.inl ?_); (repeat ((conv => whnf); refine Len.mk (by first | rfl | (simp; done) | (simp only [smT]; assumption) | (simp only [smT]; omega)) ?_)); (conv => whnf); first | refine Cl.is (wake_T' _ _ _ _ hs _ y1 y2 y3 y4 f e) rfl (by first | exact fun _ => rfl | (intro e; cases e; done) | fail) ?_) | (refine CL.mk (Or.inl ?_); (conv => whnf); refine ClO.mk (Or.inr ?_); (repeat ((conv => whnf); refine Len.mk (by first | rfl | (simp; done) | (simp only [smT]; assumption) | (simp only [smT]; omega)) ?_)); (conv => whnf); first | refine Cl.is (wake_T' _ _ _ _ hs _ y1 y2 y3 y4 f e) rfl (by first | exact fun _ => rfl | (intro e; cases e; done) | fail) ?_))
    all_goals (conv => whnf)
    · subst hys
      exact RetO.mk ⟨[], _, _, .ts .nil, LeO.fm rfl (by simp [mixT_len, hlen0]) (LeO.fm rfl rfl .nil), rfl, rfl⟩
end Go.Proofs.Ytgiebofmfkacgaa
namespace Go.Proofs.Ytgiebofmfkacgaa
open Go.RowKit

structure Sm where
  now : Int
  ser : Int
  rs : List Int
  ts : List Tm
  tasks : List Tsk
  log : List Rc
abbrev Sm.ck (s : Sm) : Ck := ⟨s.now, s.ser, s.rs, s.ts⟩
def Sm.put (s : Sm) (c : Ck) : Sm := ⟨c.now, c.ser, c.rs, c.ts, s.tasks, s.log⟩
def Sm.note (s : Sm) (n k x : Int) : Sm := ⟨s.now, s.ser, s.rs, s.ts, s.tasks, s.log ++ [⟨s.now, n, k, x⟩]⟩
def spawnM (jobs : List Jb) (s : Sm) (j : Nat) : Sm := if s.tasks.length = 60 then s else
  ⟨(readyM s.ck s.tasks.length).1.now, (readyM s.ck s.tasks.length).1.ser, (readyM s.ck s.tasks.length).1.rs, (readyM s.ck s.tasks.length).1.ts, s.tasks ++ [⟨j, false, false, false, false, (jobs.getD j ⟨[], []⟩).acts, []⟩], s.log⟩
theorem sleep_T' (now ser : Int) (rs : List Int) (ts : List Tm) (hs : Small ⟨now, ser, rs, ts⟩) (n d y1 y2 : Int) (y3 : List Int) (y4 : List Tm) (f : Int × Int) (e : sleepM ⟨now, ser, rs, ts⟩ n d = (⟨y1, y2, y3, y4⟩, f)) : CallsA Try.prog 12 [.a [.u (.int .i64 now), .u (.int .i64 ser), .u (ivs rs), .u (tvs ts)], di n, di d] [] (Is (.t [.a [.u (.int .i64 y1), .u (.int .i64 y2), .u (ivs y3), .u (tvs y4)], .a (fd f)])) := by
  have := sleep_T ⟨now, ser, rs, ts⟩ hs n d
  rw [e] at this
  exact this
theorem spawn_T' (jobs : List Jb) (now ser : Int) (rs : List Int) (ts : List Tm) (tasks : List Tsk) (log : List Rc) (j : Nat) (hj : j < jobs.length) (hn : tasks.length ≤ 60) (hs : Small ⟨now, ser, rs, ts⟩) (y1 y2 : Int) (y3 : List Int) (y4 : List Tm) (ys : List Tsk) (e : spawnM jobs ⟨now, ser, rs, ts, tasks, log⟩ j = ⟨y1, y2, y3, y4, ys, log⟩) (r1 r2 : List (List E)) (e1 : r1 = [smRow jobs now ser rs ts tasks.length log]) (e2 : r2 = tasks.map Tsk.row) :
    CallsA Try.prog 46 [smP, di j] [(1, .fm 80 r1), (2, .fm 104 r2)] (Iso (.t []) (smOb jobs y1 y2 y3 y4 ys log)) := by
  subst e1 e2
  by_cases h6 : tasks.length = 60
  · rw [spawnM, if_pos h6] at e
    injection e with q1 q2 q3 q4 q5
    subst q1 q2 q3 q4 q5
    refine callsA_of_vcO (T := tt) Try.func46 rfl rfl rfl rfl rfl ?_
    repeat' ((conv => whnf); first | refine Gs.id ?_ | with_reducible refine And.intro ?_ ?_ | with_reducible refine Brn.T rfl ?_ | with_reducible refine Brn.F rfl ?_ | refine Brn.T (by (try simp only [smT]); first | rfl | assumption | omega | (simp only [*]; done) | (simp [*]; done) | fail) ?_ | refine Brn.F (by (try simp only [smT]); first | rfl | assumption | omega | (simp only [*]; done) | (simp [*]; done) | fail) ?_ | (refine Brn.mk (fun hb => ?_) (fun hb => ?_) <;> (try simp only [smT] at hb) <;> (try (exact absurd trivial hb)) <;> (try (exfalso; omega))) | (refine Bnd.mk (fun hm => ?_); (try simp only [smT] at hm)) | refine Rng.mk (by (try simp only [smT]); omega) ?_ | refine Ix.map rfl (by (try simp only [smT]); omega) ?_ | refine Ix.map (m := 0) rfl (by (try simp only [smT]); omega) ?_ | refine Ix.lit (m := 0) rfl rfl ?_ | refine Ixo.mk ⟨_, rfl, (by (try simp only [smT]); omega), ?_⟩ | refine Rw.lit rfl ?_ | refine Rw.self (by (try simp only [smT]); omega) ?_ | refine Rw.map (by (try simp only [smT]); omega) ?_ | refine Len.mk (by first | rfl | (simp; done) | (simp only [smT]; assumption) | (simp only [smT]; omega)) ?_ | refine Eqv.mk (by kernel_rfl) ?_ | refine Apd.mk (by first | rfl | simp) (by first | rfl | simp) (by (try simp only [smT]); first | omega | (simp; omega)) (by unfold maxLen; first | (simp; done) | (simp; omega) | omega) ?_ | refine Raw.capNil (T := tt) rfl rfl rfl rfl ?_ | refine Raw.sliceNil (T := tt) rfl rfl (by first | rfl | omega | (simp; done)) rfl rfl rfl rfl ?_ | (refine Raw.appendR (T := tt) ?_; (conv => whnf); first | refine Rw.lit rfl ?_ | refine Rw.self (by (try simp only [smT]); omega) ?_ | refine Rw.map (by (try simp only [smT]); omega) ?_) | refine Raw.appendIn (T := tt) rfl rfl rfl rfl rfl rfl rfl rfl rfl rfl (by (try simp only [smT]); omega) (by (try simp only [smT]); omega) ?_ | refine Raw.clear (T := tt) rfl rfl rfl rfl rfl rfl rfl (by (try simp only [smT]); omega) ?_ | refine Slc.mk ⟨_, _, rfl, rfl, (by (try simp only [smT]); omega), (by (try simp only [smT]); omega), ?_⟩ | refine Slc.mk ⟨0, _, rfl, rfl, (by (try simp only [smT]); omega), (by (try simp only [smT]); omega), ?_⟩ | refine Slc.mk ⟨1, _, rfl, rfl, (by (try simp only [smT]); omega), (by (try simp only [smT]); omega), ?_⟩ | refine Slc3.mk ⟨_, _, _, rfl, rfl, rfl, (by (try simp only [smT]); omega), (by (try simp only [smT]); omega), (by (try simp only [smT]); omega)⟩ ?_ | refine Drw.of (T := tt) (i := 1) [17, 18, 19, 20] [0] [(0, true), (1, true), (2, true), (3, true), (4, true), (5, true), (6, true), (7, true), (8, true), (9, true), (10, true), (11, true), (12, true), (13, true), (14, true), (15, false), (16, false), (17, false), (18, false), (19, false), (20, false)] (by kernel_rfl) ?_ | refine Drw.of (T := tt) (i := 2) [17] [14] [(0, true), (1, true), (2, true), (3, true), (4, true), (5, true), (6, true), (7, true), (8, true), (9, true), (10, true), (11, false), (12, true), (13, true), (14, true), (15, true), (16, true), (17, false)] (by kernel_rfl) ?_)
    all_goals (conv => whnf)
    · exact RetO.mk ⟨[], _, _, .ts .nil, LeO.fm rfl rfl (LeO.fm rfl rfl .nil), rfl, rfl⟩
  · rw [spawnM, if_neg h6] at e
    generalize hz : readyM ⟨now, ser, rs, ts⟩ tasks.length = z at e
    obtain ⟨⟨z1, z2, z3, z4⟩, zf⟩ := z
    have := spawn_T jobs now ser rs ts tasks log j hj (by omega) hs z1 z2 z3 z4 zf hz
    injection e with q1 q2 q3 q4 q5
    dsimp only [Sm.ck] at q1 q2 q3 q4 q5
    try rw [hz] at q1 q2 q3 q4
    try dsimp only at q1 q2 q3 q4
    subst q1 q2 q3 q4 q5
    have hq : jobs.getD j ⟨[], []⟩ = jobs[j] := by simp [List.getD, hj]
    rw [hq]
    exact this
theorem Rw_ptrs' {n m : Nat} (m' : Nat) {K : List V → Prop} (h : m' < n) (hm : m = m') (k : K [V.m 2 m' 0]) : Rw (ptrs n) m K := by subst hm; exact Rw_ptrs h k
theorem act1_T (jobs : List Jb) (now ser : Int) (rs : List Int) (ts : List Tm) (tasks : List Tsk) (log : List Rc) (n : Nat) (hn : n < tasks.length) (m : Nat) (hl : log.length ≤ 1000000) (r1 r2 : List (List E)) (e1 : r1 = [smRow jobs now ser rs ts tasks.length log]) (e2 : r2 = tasks.map Tsk.row) :
    CallsA Try.prog 63 [smP, di n, .a [.u (.int .i64 1), .u (.int .i64 m)]] [(1, .fm 80 r1), (2, .fm 104 r2)] (Iso (db false) (smOb jobs now ser rs ts tasks (log ++ [⟨now, n, 2, m⟩]))) := by
  subst e1 e2
  refine callsA_of_vcO (T := tt) Try.func63 rfl rfl rfl rfl rfl ?_
  repeat' ((conv => whnf); first | refine Rw_ptrs' m (by omega) (by omega) ?_ | refine Ixo.mk ⟨m, (by first | omega | (simp only [smT]; omega)), (by first | omega | (simp only [smT]; omega)), ?_⟩ | refine Gs.id ?_ | with_reducible refine And.intro ?_ ?_ | with_reducible refine Brn.T rfl ?_ | with_reducible refine Brn.F rfl ?_ | refine Brn.T (by (try simp only [smT]); first | rfl | assumption | omega | (simp only [*]; done) | (simp [*]; done) | fail) ?_ | refine Brn.F (by (try simp only [smT]); first | rfl | assumption | omega | (simp only [*]; done) | (simp [*]; done) | fail) ?_ | (refine Brn.mk (fun hb => ?_) (fun hb => ?_) <;> (try simp only [smT] at hb) <;> (try (exact absurd trivial hb)) <;> (try (exfalso; omega))) | (refine Bnd.mk (fun hm => ?_); (try simp only [smT] at hm)) | refine Rng.mk (by (try simp only [smT]); omega) ?_ | refine Ix.map rfl (by (try simp only [smT]); omega) ?_ | refine Ix.map (m := 0) rfl (by (try simp only [smT]); omega) ?_ | refine Ix.lit (m := 0) rfl rfl ?_ | refine Ixo.mk ⟨_, rfl, (by (try simp only [smT]); omega), ?_⟩ | refine Rw.lit rfl ?_ | refine Rw.self (by (try simp only [smT]); omega) ?_ | refine Rw.map (by (try simp only [smT]); omega) ?_ | refine Len.mk (by first | rfl | (simp; done) | (simp only [smT]; assumption) | (simp only [smT]; omega)) ?_ | refine Eqv.mk (by kernel_rfl) ?_ | refine Apd.mk (by first | rfl | simp) (by first | rfl | simp) (by (try simp only [smT]); first | omega | (simp; omega)) (by unfold maxLen; first | (simp; done) | (simp; omega) | omega) ?_ | refine Raw.capNil (T := tt) rfl rfl rfl rfl ?_ | refine Raw.sliceNil (T := tt) rfl rfl (by first | rfl | omega | (simp; done)) rfl rfl rfl rfl ?_ | (refine Raw.appendR (T := tt) ?_; (conv => whnf); first | refine Rw_ptrs' m (by omega) (by omega) ?_ | refine Ixo.mk ⟨m, (by first | omega | (simp only [smT]; omega)), (by first | omega | (simp only [smT]; omega)), ?_⟩ | refine Rw.lit rfl ?_ | refine Rw.self (by (try simp only [smT]); omega) ?_ | refine Rw.map (by (try simp only [smT]); omega) ?_) | refine Raw.appendIn (T := tt) rfl rfl rfl rfl rfl rfl rfl rfl rfl rfl (by (try simp only [smT]); omega) (by (try simp only [smT]); omega) ?_ | refine Raw.clear (T := tt) rfl rfl rfl rfl rfl rfl rfl (by (try simp only [smT]); omega) ?_ | refine Slc.mk ⟨_, _, rfl, rfl, (by (try simp only [smT]); omega), (by (try simp only [smT]); omega), ?_⟩ | refine Slc.mk ⟨0, _, rfl, rfl, (by (try simp only [smT]); omega), (by (try simp only [smT]); omega), ?_⟩ | refine Slc.mk ⟨1, _, rfl, rfl, (by (try simp only [smT]); omega), (by (try simp only [smT]); omega), ?_⟩ | refine Slc3.mk ⟨_, _, _, rfl, rfl, rfl, (by (try simp only [smT]); omega), (by (try simp only [smT]); omega), (by (try simp only [smT]); omega)⟩ ?_ | refine Drw.of (T := tt) (i := 2) [] [] [(0, true), (1, true), (2, true), (3, true), (4, true), (5, true), (6, true), (7, true), (8, true), (9, true), (10, true), (11, true), (12, true), (13, true), (14, true), (15, true), (16, true), (17, true), (18, true), (19, true), (20, true), (21, true), (22, true), (23, true), (24, true), (25, true), (26, true), (27, true), (28, true), (29, true), (30, true), (31, true), (32, true)] (by kernel_rfl) ?_ | refine Drw.of (T := tt) (i := 7) [14] [11] [(0, true), (1, true), (2, true), (3, true), (4, true), (5, true), (6, true), (7, true), (8, false), (9, true), (10, true), (11, true), (12, true), (13, true), (14, false)] (by kernel_rfl) ?_ | (refine CL.mk (Or.inr (Raw.callI [1,2] [1,2] rfl rfl rfl rfl rfl rfl rfl (note_T' jobs now ser rs ts tasks _ _ _ _ hl _ _ rfl rfl) ?_)); rintro _ _ ⟨rfl, rfl⟩; refine Bk.mk rfl rfl ?_))
  all_goals (conv => whnf)
  all_goals exact RetO.mk ⟨[], _, _, .d (.u rfl), LeO.fm rfl (by first | rfl | simp [Tsk.row, List.map_set]) (LeO.fm rfl (by first | rfl | simp [Tsk.row, List.map_set]) .nil), rfl, rfl⟩
theorem act2_T (jobs : List Jb) (now ser : Int) (rs : List Int) (ts : List Tm) (tasks : List Tsk) (log : List Rc) (n : Nat) (hn : n < tasks.length) (m : Nat) (hs : Small ⟨now, ser, rs, ts⟩) (z1 z2 : Int) (z3 : List Int) (z4 : List Tm) (zf : Int × Int) (hz : sleepM ⟨now, ser, rs, ts⟩ n m = (⟨z1, z2, z3, z4⟩, zf)) (r1 r2 : List (List E)) (e1 : r1 = [smRow jobs now ser rs ts tasks.length log]) (e2 : r2 = tasks.map Tsk.row) :
    CallsA Try.prog 63 [smP, di n, .a [.u (.int .i64 2), .u (.int .i64 m)]] [(1, .fm 80 r1), (2, .fm 104 r2)] (Iso (db true) (smOb jobs z1 z2 z3 z4 tasks log)) := by
  subst e1 e2
  refine callsA_of_vcO (T := tt) Try.func63 rfl rfl rfl rfl rfl ?_
  repeat' ((conv => whnf); first | refine Rw_ptrs' m (by omega) (by omega) ?_ | refine Ixo.mk ⟨m, (by first | omega | (simp only [smT]; omega)), (by first | omega | (simp only [smT]; omega)), ?_⟩ | refine Gs.id ?_ | with_reducible refine And.intro ?_ ?_ | with_reducible refine Brn.T rfl ?_ | with_reducible refine Brn.F rfl ?_ | refine Brn.T (by (try simp only [smT]); first | rfl | assumption | omega | (simp only [*]; done) | (simp [*]; done) | fail) ?_ | refine Brn.F (by (try simp only [smT]); first | rfl | assumption | omega | (simp only [*]; done) | (simp [*]; done) | fail) ?_ | (refine Brn.mk (fun hb => ?_) (fun hb => ?_) <;> (try simp only [smT] at hb) <;> (try (exact absurd trivial hb)) <;> (try (exfalso; omega))) | (refine Bnd.mk (fun hm => ?_); (try simp only [smT] at hm)) | refine Rng.mk (by (try simp only [smT]); omega) ?_ | refine Ix.map rfl (by (try simp only [smT]); omega) ?_ | refine Ix.map (m := 0) rfl (by (try simp only [smT]); omega) ?_ | refine Ix.lit (m := 0) rfl rfl ?_ | refine Ixo.mk ⟨_, rfl, (by (try simp only [smT]); omega), ?_⟩ | refine Rw.lit rfl ?_ | refine Rw.self (by (try simp only [smT]); omega) ?_ | refine Rw.map (by (try simp only [smT]); omega) ?_ | refine Len.mk (by first | rfl | (simp; done) | (simp only [smT]; assumption) | (simp only [smT]; omega)) ?_ | refine Eqv.mk (by kernel_rfl) ?_ | refine Apd.mk (by first | rfl | simp) (by first | rfl | simp) (by (try simp only [smT]); first | omega | (simp; omega)) (by unfold maxLen; first | (simp; done) | (simp; omega) | omega) ?_ | refine Raw.capNil (T := tt) rfl rfl rfl rfl ?_ | refine Raw.sliceNil (T := tt) rfl rfl (by first | rfl | omega | (simp; done)) rfl rfl rfl rfl ?_ | (refine Raw.appendR (T := tt) ?_; (conv => whnf); first | refine Rw_ptrs' m (by omega) (by omega) ?_ | refine Ixo.mk ⟨m, (by first | omega | (simp only [smT]; omega)), (by first | omega | (simp only [smT]; omega)), ?_⟩ | refine Rw.lit rfl ?_ | refine Rw.self (by (try simp only [smT]); omega) ?_ | refine Rw.map (by (try simp only [smT]); omega) ?_) | refine Raw.appendIn (T := tt) rfl rfl rfl rfl rfl rfl rfl rfl rfl rfl (by (try simp only [smT]); omega) (by (try simp only [smT]); omega) ?_ | refine Raw.clear (T := tt) rfl rfl rfl rfl rfl rfl rfl (by (try simp only [smT]); omega) ?_ | refine Slc.mk ⟨_, _, rfl, rfl, (by (try simp only [smT]); omega), (by (try simp only [smT]); omega), ?_⟩ | refine Slc.mk ⟨0, _, rfl, rfl, (by (try simp only [smT]); omega), (by (try simp only [smT]); omega), ?_⟩ | refine Slc.mk ⟨1, _, rfl, rfl, (by (try simp only [smT]); omega), (by (try simp only [smT]); omega), ?_⟩ | refine Slc3.mk ⟨_, _, _, rfl, rfl, rfl, (by (try simp only [smT]); omega), (by (try simp only [smT]); omega), (by (try simp only [smT]); omega)⟩ ?_ | refine Drw.of (T := tt) (i := 2) [] [] [(0, true), (1, true), (2, true), (3, true), (4, true), (5, true), (6, true), (7, true), (8, true), (9, true), (10, true), (11, true), (12, true), (13, true), (14, true), (15, true), (16, true), (17, true), (18, true), (19, true), (20, true), (21, true), (22, true), (23, true), (24, true), (25, true), (26, true), (27, true), (28, true), (29, true), (30, true), (31, true), (32, true)] (by kernel_rfl) ?_ | refine Drw.of (T := tt) (i := 7) [14] [11] [(0, true), (1, true), (2, true), (3, true), (4, true), (5, true), (6, true), (7, true), (8, false), (9, true), (10, true), (11, true), (12, true), (13, true), (14, false)] (by kernel_rfl) ?_ | (refine CL.mk (Or.inl ?_); (conv => whnf); first | refine Cl.is (sleep_T' _ _ _ _ hs _ _ z1 z2 z3 z4 zf hz) rfl (by first | exact fun _ => rfl | (intro e; cases e; done) | fail) ?_) | (refine CL.mk (Or.inl ?_); (conv => whnf); refine ClO.mk (Or.inl ?_); (repeat ((conv => whnf); refine Len.mk (by first | rfl | (simp; done) | (simp only [smT]; assumption) | (simp only [smT]; omega)) ?_)); (conv => whnf); first | refine Cl.is (sleep_T' _ _ _ _ hs _ _ z1 z2 z3 z4 zf hz) rfl (by first | exact fun _ => rfl | (intro e; cases e; done) | fail) ?_) | (refine CL.mk (Or.inl ?_); (conv => whnf); refine ClO.mk (Or.inr ?_); (repeat ((conv => whnf); refine Len.mk (by first | rfl | (simp; done) | (simp only [smT]; assumption) | (simp only [smT]; omega)) ?_)); (conv => whnf); first | refine Cl.is (sleep_T' _ _ _ _ hs _ _ z1 z2 z3 z4 zf hz) rfl (by first | exact fun _ => rfl | (intro e; cases e; done) | fail) ?_))
  all_goals (conv => whnf)
  all_goals exact RetO.mk ⟨[], _, _, .d (.u rfl), LeO.fm rfl (by first | rfl | simp [Tsk.row, List.map_set]) (LeO.fm rfl (by first | rfl | simp [Tsk.row, List.map_set]) .nil), rfl, rfl⟩
theorem act3_T (jobs : List Jb) (now ser : Int) (rs : List Int) (ts : List Tm) (tasks : List Tsk) (log : List Rc) (n : Nat) (hn : n < tasks.length) (m : Nat) (hmj : m < jobs.length) (hn6 : tasks.length ≤ 60) (hs : Small ⟨now, ser, rs, ts⟩) (p1 p2 : Int) (p3 : List Int) (p4 : List Tm) (ys : List Tsk) (hp : spawnM jobs ⟨now, ser, rs, ts, tasks, log⟩ m = ⟨p1, p2, p3, p4, ys, log⟩) (r1 r2 : List (List E)) (e1 : r1 = [smRow jobs now ser rs ts tasks.length log]) (e2 : r2 = tasks.map Tsk.row) :
    CallsA Try.prog 63 [smP, di n, .a [.u (.int .i64 3), .u (.int .i64 m)]] [(1, .fm 80 r1), (2, .fm 104 r2)] (Iso (db false) (smOb jobs p1 p2 p3 p4 ys log)) := by
  subst e1 e2
  refine callsA_of_vcO (T := tt) Try.func63 rfl rfl rfl rfl rfl ?_
  repeat' ((conv => whnf); first | refine Rw_ptrs' m (by omega) (by omega) ?_ | refine Ixo.mk ⟨m, (by first | omega | (simp only [smT]; omega)), (by first | omega | (simp only [smT]; omega)), ?_⟩ | refine Gs.id ?_ | with_reducible refine And.intro ?_ ?_ | with_reducible refine Brn.T rfl ?_ | with_reducible refine Brn.F rfl ?_ | refine Brn.T (by (try simp only [smT]); first | rfl | assumption | omega | (simp only [*]; done) | (simp [*]; done) | fail) ?_ | refine Brn.F (by (try simp only [smT]); first | rfl | assumption | omega | (simp only [*]; done) | (simp [*]; done) | fail) ?_ | (refine Brn.mk (fun hb => ?_) (fun hb => ?_) <;> (try simp only [smT] at hb) <;> (try (exact absurd trivial hb)) <;> (try (exfalso; omega))) | (refine Bnd.mk (fun hm => ?_); (try simp only [smT] at hm)) | refine Rng.mk (by (try simp only [smT]); omega) ?_ | refine Ix.map rfl (by (try simp only [smT]); omega) ?_ | refine Ix.map (m := 0) rfl (by (try simp only [smT]); omega) ?_ | refine Ix.lit (m := 0) rfl rfl ?_ | refine Ixo.mk ⟨_, rfl, (by (try simp only [smT]); omega), ?_⟩ | refine Rw.lit rfl ?_ | refine Rw.self (by (try simp only [smT]); omega) ?_ | refine Rw.map (by (try simp only [smT]); omega) ?_ | refine Len.mk (by first | rfl | (simp; done) | (simp only [smT]; assumption) | (simp only [smT]; omega)) ?_ | refine Eqv.mk (by kernel_rfl) ?_ | refine Apd.mk (by first | rfl | simp) (by first | rfl | simp) (by (try simp only [smT]); first | omega | (simp; omega)) (by unfold maxLen; first | (simp; done) | (simp; omega) | omega) ?_ | refine Raw.capNil (T := tt) rfl rfl rfl rfl ?_ | refine Raw.sliceNil (T := tt) rfl rfl (by first | rfl | omega | (simp; done)) rfl rfl rfl rfl ?_ | (refine Raw.appendR (T := tt) ?_; (conv => whnf); first | refine Rw_ptrs' m (by omega) (by omega) ?_ | refine Ixo.mk ⟨m, (by first | omega | (simp only [smT]; omega)), (by first | omega | (simp only [smT]; omega)), ?_⟩ | refine Rw.lit rfl ?_ | refine Rw.self (by (try simp only [smT]); omega) ?_ | refine Rw.map (by (try simp only [smT]); omega) ?_) | refine Raw.appendIn (T := tt) rfl rfl rfl rfl rfl rfl rfl rfl rfl rfl (by (try simp only [smT]); omega) (by (try simp only [smT]); omega) ?_ | refine Raw.clear (T := tt) rfl rfl rfl rfl rfl rfl rfl (by (try simp only [smT]); omega) ?_ | refine Slc.mk ⟨_, _, rfl, rfl, (by (try simp only [smT]); omega), (by (try simp only [smT]); omega), ?_⟩ | refine Slc.mk ⟨0, _, rfl, rfl, (by (try simp only [smT]); omega), (by (try simp only [smT]); omega), ?_⟩ | refine Slc.mk ⟨1, _, rfl, rfl, (by (try simp only [smT]); omega), (by (try simp only [smT]); omega), ?_⟩ | refine Slc3.mk ⟨_, _, _, rfl, rfl, rfl, (by (try simp only [smT]); omega), (by (try simp only [smT]); omega), (by (try simp only [smT]); omega)⟩ ?_ | refine Drw.of (T := tt) (i := 2) [] [] [(0, true), (1, true), (2, true), (3, true), (4, true), (5, true), (6, true), (7, true), (8, true), (9, true), (10, true), (11, true), (12, true), (13, true), (14, true), (15, true), (16, true), (17, true), (18, true), (19, true), (20, true), (21, true), (22, true), (23, true), (24, true), (25, true), (26, true), (27, true), (28, true), (29, true), (30, true), (31, true), (32, true)] (by kernel_rfl) ?_ | refine Drw.of (T := tt) (i := 7) [14] [11] [(0, true), (1, true), (2, true), (3, true), (4, true), (5, true), (6, true), (7, true), (8, false), (9, true), (10, true), (11, true), (12, true), (13, true), (14, false)] (by kernel_rfl) ?_ | (refine CL.mk (Or.inr (Raw.callI [1,2] [1,2] rfl rfl rfl rfl rfl rfl rfl (spawn_T' jobs now ser rs ts tasks _ m hmj hn6 hs p1 p2 p3 p4 ys hp _ _ rfl rfl) ?_)); rintro _ _ ⟨rfl, rfl⟩; refine Bk.mk rfl rfl ?_))
  all_goals (conv => whnf)
  all_goals exact RetO.mk ⟨[], _, _, .d (.u rfl), LeO.fm rfl (by first | rfl | simp [Tsk.row, List.map_set]) (LeO.fm rfl (by first | rfl | simp [Tsk.row, List.map_set]) .nil), rfl, rfl⟩
theorem act4a_T (jobs : List Jb) (now ser : Int) (rs : List Int) (ts : List Tm) (tasks : List Tsk) (log : List Rc) (n : Nat) (hn : n < tasks.length) (m : Nat) (job : Int) (begun guarding cancelled : Bool) (left : List Ac) (ws : List Int) (ht : tasks[m]? = some ⟨job, begun, guarding, false, cancelled, left, ws⟩) (hmn : m ≠ n) (hw : ws.length ≤ 1000000) (r1 r2 : List (List E)) (e1 : r1 = [smRow jobs now ser rs ts tasks.length log]) (e2 : r2 = tasks.map Tsk.row) :
    CallsA Try.prog 63 [smP, di n, .a [.u (.int .i64 4), .u (.int .i64 m)]] [(1, .fm 80 r1), (2, .fm 104 r2)] (Iso (db true) (smOb jobs now ser rs ts (tasks.set m ⟨job, begun, guarding, false, cancelled, left, ws ++ [(n : Int)]⟩) log)) := by
  subst e1 e2
  have hmt := lt_of_get ht
  refine callsA_of_vcO (T := tt) Try.func63 rfl rfl rfl rfl rfl ?_
  repeat' ((conv => whnf); first | refine Rw_ptrs' m (by omega) (by omega) ?_ | refine Ixo.mk ⟨m, (by first | omega | (simp only [smT]; omega)), (by first | omega | (simp only [smT]; omega)), ?_⟩ | refine Rw_tsk ht ?_ | refine Gs.id ?_ | with_reducible refine And.intro ?_ ?_ | with_reducible refine Brn.T rfl ?_ | with_reducible refine Brn.F rfl ?_ | refine Brn.T (by (try simp only [smT]); first | rfl | assumption | omega | (simp only [*]; done) | (simp [*]; done) | fail) ?_ | refine Brn.F (by (try simp only [smT]); first | rfl | assumption | omega | (simp only [*]; done) | (simp [*]; done) | fail) ?_ | (refine Brn.mk (fun hb => ?_) (fun hb => ?_) <;> (try simp only [smT] at hb) <;> (try (exact absurd trivial hb)) <;> (try (exfalso; omega))) | (refine Bnd.mk (fun hm => ?_); (try simp only [smT] at hm)) | refine Rng.mk (by (try simp only [smT]); omega) ?_ | refine Ix.map rfl (by (try simp only [smT]); omega) ?_ | refine Ix.map (m := 0) rfl (by (try simp only [smT]); omega) ?_ | refine Ix.lit (m := 0) rfl rfl ?_ | refine Ixo.mk ⟨_, rfl, (by (try simp only [smT]); omega), ?_⟩ | refine Rw.lit rfl ?_ | refine Rw.self (by (try simp only [smT]); omega) ?_ | refine Rw.map (by (try simp only [smT]); omega) ?_ | refine Len.mk (by first | rfl | (simp; done) | (simp only [smT]; assumption) | (simp only [smT]; omega)) ?_ | refine Eqv.mk (by kernel_rfl) ?_ | refine Apd.mk (by first | rfl | simp) (by first | rfl | simp) (by (try simp only [smT]); first | omega | (simp; omega)) (by unfold maxLen; first | (simp; done) | (simp; omega) | omega) ?_ | refine Raw.capNil (T := tt) rfl rfl rfl rfl ?_ | refine Raw.sliceNil (T := tt) rfl rfl (by first | rfl | omega | (simp; done)) rfl rfl rfl rfl ?_ | (refine Raw.appendR (T := tt) ?_; (conv => whnf); first | refine Rw_ptrs' m (by omega) (by omega) ?_ | refine Ixo.mk ⟨m, (by first | omega | (simp only [smT]; omega)), (by first | omega | (simp only [smT]; omega)), ?_⟩ | refine Rw_tsk ht ?_ | refine Rw.lit rfl ?_ | refine Rw.self (by (try simp only [smT]); omega) ?_ | refine Rw.map (by (try simp only [smT]); omega) ?_) | refine Raw.appendIn (T := tt) rfl rfl rfl rfl rfl rfl rfl rfl rfl rfl (by (try simp only [smT]); omega) (by (try simp only [smT]); omega) ?_ | refine Raw.clear (T := tt) rfl rfl rfl rfl rfl rfl rfl (by (try simp only [smT]); omega) ?_ | refine Slc.mk ⟨_, _, rfl, rfl, (by (try simp only [smT]); omega), (by (try simp only [smT]); omega), ?_⟩ | refine Slc.mk ⟨0, _, rfl, rfl, (by (try simp only [smT]); omega), (by (try simp only [smT]); omega), ?_⟩ | refine Slc.mk ⟨1, _, rfl, rfl, (by (try simp only [smT]); omega), (by (try simp only [smT]); omega), ?_⟩ | refine Slc3.mk ⟨_, _, _, rfl, rfl, rfl, (by (try simp only [smT]); omega), (by (try simp only [smT]); omega), (by (try simp only [smT]); omega)⟩ ?_ | refine Drw.of (T := tt) (i := 2) [] [] [(0, true), (1, true), (2, true), (3, true), (4, true), (5, true), (6, true), (7, true), (8, true), (9, true), (10, true), (11, true), (12, true), (13, true), (14, true), (15, true), (16, true), (17, true), (18, true), (19, true), (20, true), (21, true), (22, true), (23, true), (24, true), (25, true), (26, true), (27, true), (28, true), (29, true), (30, true), (31, true), (32, true)] (by kernel_rfl) ?_ | refine Drw.of (T := tt) (i := 7) [14] [11] [(0, true), (1, true), (2, true), (3, true), (4, true), (5, true), (6, true), (7, true), (8, false), (9, true), (10, true), (11, true), (12, true), (13, true), (14, false)] (by kernel_rfl) ?_)
  all_goals (conv => whnf)
  all_goals exact RetO.mk ⟨[], _, _, .d (.u rfl), LeO.fm rfl (by first | rfl | simp [Tsk.row, List.map_set]) (LeO.fm rfl (by first | rfl | simp [Tsk.row, List.map_set]) .nil), rfl, rfl⟩
theorem act4b_T (jobs : List Jb) (now ser : Int) (rs : List Int) (ts : List Tm) (tasks : List Tsk) (log : List Rc) (n : Nat) (hn : n < tasks.length) (m : Nat) (hd : m = n ∨ tasks.length ≤ m) (r1 r2 : List (List E)) (e1 : r1 = [smRow jobs now ser rs ts tasks.length log]) (e2 : r2 = tasks.map Tsk.row) :
    CallsA Try.prog 63 [smP, di n, .a [.u (.int .i64 4), .u (.int .i64 m)]] [(1, .fm 80 r1), (2, .fm 104 r2)] (Iso (db false) (smOb jobs now ser rs ts tasks log)) := by
  subst e1 e2
  refine callsA_of_vcO (T := tt) Try.func63 rfl rfl rfl rfl rfl ?_
  repeat' ((conv => whnf); first | refine Rw_ptrs' m (by omega) (by omega) ?_ | refine Ixo.mk ⟨m, (by first | omega | (simp only [smT]; omega)), (by first | omega | (simp only [smT]; omega)), ?_⟩ | refine Gs.id ?_ | with_reducible refine And.intro ?_ ?_ | with_reducible refine Brn.T rfl ?_ | with_reducible refine Brn.F rfl ?_ | refine Brn.T (by (try simp only [smT]); first | rfl | assumption | omega | (simp only [*]; done) | (simp [*]; done) | fail) ?_ | refine Brn.F (by (try simp only [smT]); first | rfl | assumption | omega | (simp only [*]; done) | (simp [*]; done) | fail) ?_ | (refine Brn.mk (fun hb => ?_) (fun hb => ?_) <;> (try simp only [smT] at hb) <;> (try (exact absurd trivial hb)) <;> (try (exfalso; omega))) | (refine Bnd.mk (fun hm => ?_); (try simp only [smT] at hm)) | refine Rng.mk (by (try simp only [smT]); omega) ?_ | refine Ix.map rfl (by (try simp only [smT]); omega) ?_ | refine Ix.map (m := 0) rfl (by (try simp only [smT]); omega) ?_ | refine Ix.lit (m := 0) rfl rfl ?_ | refine Ixo.mk ⟨_, rfl, (by (try simp only [smT]); omega), ?_⟩ | refine Rw.lit rfl ?_ | refine Rw.self (by (try simp only [smT]); omega) ?_ | refine Rw.map (by (try simp only [smT]); omega) ?_ | refine Len.mk (by first | rfl | (simp; done) | (simp only [smT]; assumption) | (simp only [smT]; omega)) ?_ | refine Eqv.mk (by kernel_rfl) ?_ | refine Apd.mk (by first | rfl | simp) (by first | rfl | simp) (by (try simp only [smT]); first | omega | (simp; omega)) (by unfold maxLen; first | (simp; done) | (simp; omega) | omega) ?_ | refine Raw.capNil (T := tt) rfl rfl rfl rfl ?_ | refine Raw.sliceNil (T := tt) rfl rfl (by first | rfl | omega | (simp; done)) rfl rfl rfl rfl ?_ | (refine Raw.appendR (T := tt) ?_; (conv => whnf); first | refine Rw_ptrs' m (by omega) (by omega) ?_ | refine Ixo.mk ⟨m, (by first | omega | (simp only [smT]; omega)), (by first | omega | (simp only [smT]; omega)), ?_⟩ | refine Rw.lit rfl ?_ | refine Rw.self (by (try simp only [smT]); omega) ?_ | refine Rw.map (by (try simp only [smT]); omega) ?_) | refine Raw.appendIn (T := tt) rfl rfl rfl rfl rfl rfl rfl rfl rfl rfl (by (try simp only [smT]); omega) (by (try simp only [smT]); omega) ?_ | refine Raw.clear (T := tt) rfl rfl rfl rfl rfl rfl rfl (by (try simp only [smT]); omega) ?_ | refine Slc.mk ⟨_, _, rfl, rfl, (by (try simp only [smT]); omega), (by (try simp only [smT]); omega), ?_⟩ | refine Slc.mk ⟨0, _, rfl, rfl, (by (try simp only [smT]); omega), (by (try simp only [smT]); omega), ?_⟩ | refine Slc.mk ⟨1, _, rfl, rfl, (by (try simp only [smT]); omega), (by (try simp only [smT]); omega), ?_⟩ | refine Slc3.mk ⟨_, _, _, rfl, rfl, rfl, (by (try simp only [smT]); omega), (by (try simp only [smT]); omega), (by (try simp only [smT]); omega)⟩ ?_ | refine Drw.of (T := tt) (i := 2) [] [] [(0, true), (1, true), (2, true), (3, true), (4, true), (5, true), (6, true), (7, true), (8, true), (9, true), (10, true), (11, true), (12, true), (13, true), (14, true), (15, true), (16, true), (17, true), (18, true), (19, true), (20, true), (21, true), (22, true), (23, true), (24, true), (25, true), (26, true), (27, true), (28, true), (29, true), (30, true), (31, true), (32, true)] (by kernel_rfl) ?_ | refine Drw.of (T := tt) (i := 7) [14] [11] [(0, true), (1, true), (2, true), (3, true), (4, true), (5, true), (6, true), (7, true), (8, false), (9, true), (10, true), (11, true), (12, true), (13, true), (14, false)] (by kernel_rfl) ?_)
  all_goals (conv => whnf)
  all_goals exact RetO.mk ⟨[], _, _, .d (.u rfl), LeO.fm rfl (by first | rfl | simp [Tsk.row, List.map_set]) (LeO.fm rfl (by first | rfl | simp [Tsk.row, List.map_set]) .nil), rfl, rfl⟩
theorem act4c_T (jobs : List Jb) (now ser : Int) (rs : List Int) (ts : List Tm) (tasks : List Tsk) (log : List Rc) (n : Nat) (hn : n < tasks.length) (m : Nat) (job : Int) (begun guarding cancelled : Bool) (left : List Ac) (ws : List Int) (ht : tasks[m]? = some ⟨job, begun, guarding, true, cancelled, left, ws⟩) (r1 r2 : List (List E)) (e1 : r1 = [smRow jobs now ser rs ts tasks.length log]) (e2 : r2 = tasks.map Tsk.row) :
    CallsA Try.prog 63 [smP, di n, .a [.u (.int .i64 4), .u (.int .i64 m)]] [(1, .fm 80 r1), (2, .fm 104 r2)] (Iso (db false) (smOb jobs now ser rs ts tasks log)) := by
  subst e1 e2
  have hmt := lt_of_get ht
  refine callsA_of_vcO (T := tt) Try.func63 rfl rfl rfl rfl rfl ?_
  repeat' ((conv => whnf); first | refine Rw_ptrs' m (by omega) (by omega) ?_ | refine Ixo.mk ⟨m, (by first | omega | (simp only [smT]; omega)), (by first | omega | (simp only [smT]; omega)), ?_⟩ | refine Rw_tsk ht ?_ | refine Gs.id ?_ | with_reducible refine And.intro ?_ ?_ | with_reducible refine Brn.T rfl ?_ | with_reducible refine Brn.F rfl ?_ | refine Brn.T (by (try simp only [smT]); first | rfl | assumption | omega | (simp only [*]; done) | (simp [*]; done) | fail) ?_ | refine Brn.F (by (try simp only [smT]); first | rfl | assumption | omega | (simp only [*]; done) | (simp [*]; done) | fail) ?_ | (refine Brn.mk (fun hb => ?_) (fun hb => ?_) <;> (try simp only [smT] at hb) <;> (try (exact absurd trivial hb)) <;> (try (exfalso; omega))) | (refine Bnd.mk (fun hm => ?_); (try simp only [smT] at hm)) | refine Rng.mk (by (try simp only [smT]); omega) ?_ | refine Ix.map rfl (by (try simp only [smT]); omega) ?_ | refine Ix.map (m := 0) rfl (by (try simp only [smT]); omega) ?_ | refine Ix.lit (m := 0) rfl rfl ?_ | refine Ixo.mk ⟨_, rfl, (by (try simp only [smT]); omega), ?_⟩ | refine Rw.lit rfl ?_ | refine Rw.self (by (try simp only [smT]); omega) ?_ | refine Rw.map (by (try simp only [smT]); omega) ?_ | refine Len.mk (by first | rfl | (simp; done) | (simp only [smT]; assumption) | (simp only [smT]; omega)) ?_ | refine Eqv.mk (by kernel_rfl) ?_ | refine Apd.mk (by first | rfl | simp) (by first | rfl | simp) (by (try simp only [smT]); first | omega | (simp; omega)) (by unfold maxLen; first | (simp; done) | (simp; omega) | omega) ?_ | refine Raw.capNil (T := tt) rfl rfl rfl rfl ?_ | refine Raw.sliceNil (T := tt) rfl rfl (by first | rfl | omega | (simp; done)) rfl rfl rfl rfl ?_ | (refine Raw.appendR (T := tt) ?_; (conv => whnf); first | refine Rw_ptrs' m (by omega) (by omega) ?_ | refine Ixo.mk ⟨m, (by first | omega | (simp only [smT]; omega)), (by first | omega | (simp only [smT]; omega)), ?_⟩ | refine Rw_tsk ht ?_ | refine Rw.lit rfl ?_ | refine Rw.self (by (try simp only [smT]); omega) ?_ | refine Rw.map (by (try simp only [smT]); omega) ?_) | refine Raw.appendIn (T := tt) rfl rfl rfl rfl rfl rfl rfl rfl rfl rfl (by (try simp only [smT]); omega) (by (try simp only [smT]); omega) ?_ | refine Raw.clear (T := tt) rfl rfl rfl rfl rfl rfl rfl (by (try simp only [smT]); omega) ?_ | refine Slc.mk ⟨_, _, rfl, rfl, (by (try simp only [smT]); omega), (by (try simp only [smT]); omega), ?_⟩ | refine Slc.mk ⟨0, _, rfl, rfl, (by (try simp only [smT]); omega), (by (try simp only [smT]); omega), ?_⟩ | refine Slc.mk ⟨1, _, rfl, rfl, (by (try simp only [smT]); omega), (by (try simp only [smT]); omega), ?_⟩ | refine Slc3.mk ⟨_, _, _, rfl, rfl, rfl, (by (try simp only [smT]); omega), (by (try simp only [smT]); omega), (by (try simp only [smT]); omega)⟩ ?_ | refine Drw.of (T := tt) (i := 2) [] [] [(0, true), (1, true), (2, true), (3, true), (4, true), (5, true), (6, true), (7, true), (8, true), (9, true), (10, true), (11, true), (12, true), (13, true), (14, true), (15, true), (16, true), (17, true), (18, true), (19, true), (20, true), (21, true), (22, true), (23, true), (24, true), (25, true), (26, true), (27, true), (28, true), (29, true), (30, true), (31, true), (32, true)] (by kernel_rfl) ?_ | refine Drw.of (T := tt) (i := 7) [14] [11] [(0, true), (1, true), (2, true), (3, true), (4, true), (5, true), (6, true), (7, true), (8, false), (9, true), (10, true), (11, true), (12, true), (13, true), (14, false)] (by kernel_rfl) ?_)
  all_goals (conv => whnf)
  all_goals exact RetO.mk ⟨[], _, _, .d (.u rfl), LeO.fm rfl (by first | rfl | simp [Tsk.row, List.map_set]) (LeO.fm rfl (by first | rfl | simp [Tsk.row, List.map_set]) .nil), rfl, rfl⟩
theorem act5a_T (jobs : List Jb) (now ser : Int) (rs : List Int) (ts : List Tm) (tasks : List Tsk) (log : List Rc) (n : Nat) (hn : n < tasks.length) (m : Nat) (job : Int) (begun guarding : Bool) (left : List Ac) (ws : List Int) (ht : tasks[m]? = some ⟨job, begun, guarding, false, false, left, ws⟩) (hmn : m ≠ n) (hwl : ∀ t ∈ tasks, t.waiters.length ≤ 1000000) (hs : Small ⟨now, ser, rs, ts⟩) (w1 w2 : Int) (w3 : List Int) (w4 : List Tm) (wf : Int × Int) (hw : wakeP ⟨now, ser, rs, ts⟩ m = (⟨w1, w2, w3, w4⟩, wf)) (r1 r2 : List (List E)) (e1 : r1 = [smRow jobs now ser rs ts tasks.length log]) (e2 : r2 = tasks.map Tsk.row) :
    CallsA Try.prog 63 [smP, di n, .a [.u (.int .i64 5), .u (.int .i64 m)]] [(1, .fm 80 r1), (2, .fm 104 r2)] (Iso (db false) (smOb jobs w1 w2 w3 w4 (cancelTs tasks m) log)) := by
  subst e1 e2
  have hmt := lt_of_get ht
  refine callsA_of_vcO (T := tt) Try.func63 rfl rfl rfl rfl rfl ?_
  repeat' ((conv => whnf); first | refine Rw_ptrs' m (by omega) (by omega) ?_ | refine Ixo.mk ⟨m, (by first | omega | (simp only [smT]; omega)), (by first | omega | (simp only [smT]; omega)), ?_⟩ | refine Rw_tsk ht ?_ | refine Gs.id ?_ | with_reducible refine And.intro ?_ ?_ | with_reducible refine Brn.T rfl ?_ | with_reducible refine Brn.F rfl ?_ | refine Brn.T (by (try simp only [smT]); first | rfl | assumption | omega | (simp only [*]; done) | (simp [*]; done) | fail) ?_ | refine Brn.F (by (try simp only [smT]); first | rfl | assumption | omega | (simp only [*]; done) | (simp [*]; done) | fail) ?_ | (refine Brn.mk (fun hb => ?_) (fun hb => ?_) <;> (try simp only [smT] at hb) <;> (try (exact absurd trivial hb)) <;> (try (exfalso; omega))) | (refine Bnd.mk (fun hm => ?_); (try simp only [smT] at hm)) | refine Rng.mk (by (try simp only [smT]); omega) ?_ | refine Ix.map rfl (by (try simp only [smT]); omega) ?_ | refine Ix.map (m := 0) rfl (by (try simp only [smT]); omega) ?_ | refine Ix.lit (m := 0) rfl rfl ?_ | refine Ixo.mk ⟨_, rfl, (by (try simp only [smT]); omega), ?_⟩ | refine Rw.lit rfl ?_ | refine Rw.self (by (try simp only [smT]); omega) ?_ | refine Rw.map (by (try simp only [smT]); omega) ?_ | refine Len.mk (by first | rfl | (simp; done) | (simp only [smT]; assumption) | (simp only [smT]; omega)) ?_ | refine Eqv.mk (by kernel_rfl) ?_ | refine Apd.mk (by first | rfl | simp) (by first | rfl | simp) (by (try simp only [smT]); first | omega | (simp; omega)) (by unfold maxLen; first | (simp; done) | (simp; omega) | omega) ?_ | refine Raw.capNil (T := tt) rfl rfl rfl rfl ?_ | refine Raw.sliceNil (T := tt) rfl rfl (by first | rfl | omega | (simp; done)) rfl rfl rfl rfl ?_ | (refine Raw.appendR (T := tt) ?_; (conv => whnf); first | refine Rw_ptrs' m (by omega) (by omega) ?_ | refine Ixo.mk ⟨m, (by first | omega | (simp only [smT]; omega)), (by first | omega | (simp only [smT]; omega)), ?_⟩ | refine Rw_tsk ht ?_ | refine Rw.lit rfl ?_ | refine Rw.self (by (try simp only [smT]); omega) ?_ | refine Rw.map (by (try simp only [smT]); omega) ?_) | refine Raw.appendIn (T := tt) rfl rfl rfl rfl rfl rfl rfl rfl rfl rfl (by (try simp only [smT]); omega) (by (try simp only [smT]); omega) ?_ | refine Raw.clear (T := tt) rfl rfl rfl rfl rfl rfl rfl (by (try simp only [smT]); omega) ?_ | refine Slc.mk ⟨_, _, rfl, rfl, (by (try simp only [smT]); omega), (by (try simp only [smT]); omega), ?_⟩ | refine Slc.mk ⟨0, _, rfl, rfl, (by (try simp only [smT]); omega), (by (try simp only [smT]); omega), ?_⟩ | refine Slc.mk ⟨1, _, rfl, rfl, (by (try simp only [smT]); omega), (by (try simp only [smT]); omega), ?_⟩ | refine Slc3.mk ⟨_, _, _, rfl, rfl, rfl, (by (try simp only [smT]); omega), (by (try simp only [smT]); omega), (by (try simp only [smT]); omega)⟩ ?_ | refine Drw.of (T := tt) (i := 2) [] [] [(0, true), (1, true), (2, true), (3, true), (4, true), (5, true), (6, true), (7, true), (8, true), (9, true), (10, true), (11, true), (12, true), (13, true), (14, true), (15, true), (16, true), (17, true), (18, true), (19, true), (20, true), (21, true), (22, true), (23, true), (24, true), (25, true), (26, true), (27, true), (28, true), (29, true), (30, true), (31, true), (32, true)] (by kernel_rfl) ?_ | refine Drw.of (T := tt) (i := 7) [14] [11] [(0, true), (1, true), (2, true), (3, true), (4, true), (5, true), (6, true), (7, true), (8, false), (9, true), (10, true), (11, true), (12, true), (13, true), (14, false)] (by kernel_rfl) ?_ | (refine CL.mk (Or.inr (Raw.callI [1,2] [1,2] rfl rfl rfl rfl rfl rfl rfl (cancel_T jobs now ser rs ts tasks _ m hmt hwl hs w1 w2 w3 w4 wf _ hw rfl _ _ rfl rfl) ?_)); rintro _ _ ⟨rfl, rfl⟩; refine Bk.mk rfl rfl ?_))
  all_goals (conv => whnf)
  all_goals exact RetO.mk ⟨[], _, _, .d (.u rfl), LeO.fm rfl (by first | rfl | simp [Tsk.row, List.map_set]) (LeO.fm rfl (by first | rfl | simp [Tsk.row, List.map_set]) .nil), rfl, rfl⟩
theorem act5b_T (jobs : List Jb) (now ser : Int) (rs : List Int) (ts : List Tm) (tasks : List Tsk) (log : List Rc) (n : Nat) (hn : n < tasks.length) (m : Nat) (hd : m = n ∨ tasks.length ≤ m) (r1 r2 : List (List E)) (e1 : r1 = [smRow jobs now ser rs ts tasks.length log]) (e2 : r2 = tasks.map Tsk.row) :
    CallsA Try.prog 63 [smP, di n, .a [.u (.int .i64 5), .u (.int .i64 m)]] [(1, .fm 80 r1), (2, .fm 104 r2)] (Iso (db false) (smOb jobs now ser rs ts tasks log)) := by
  subst e1 e2
  refine callsA_of_vcO (T := tt) Try.func63 rfl rfl rfl rfl rfl ?_
  repeat' ((conv => whnf); first | refine Rw_ptrs' m (by omega) (by omega) ?_ | refine Ixo.mk ⟨m, (by first | omega | (simp only [smT]; omega)), (by first | omega | (simp only [smT]; omega)), ?_⟩ | refine Gs.id ?_ | with_reducible refine And.intro ?_ ?_ | with_reducible refine Brn.T rfl ?_ | with_reducible refine Brn.F rfl ?_ | refine Brn.T (by (try simp only [smT]); first | rfl | assumption | omega | (simp only [*]; done) | (simp [*]; done) | fail) ?_ | refine Brn.F (by (try simp only [smT]); first | rfl | assumption | omega | (simp only [*]; done) | (simp [*]; done) | fail) ?_ | (refine Brn.mk (fun hb => ?_) (fun hb => ?_) <;> (try simp only [smT] at hb) <;> (try (exact absurd trivial hb)) <;> (try (exfalso; omega))) | (refine Bnd.mk (fun hm => ?_); (try simp only [smT] at hm)) | refine Rng.mk (by (try simp only [smT]); omega) ?_ | refine Ix.map rfl (by (try simp only [smT]); omega) ?_ | refine Ix.map (m := 0) rfl (by (try simp only [smT]); omega) ?_ | refine Ix.lit (m := 0) rfl rfl ?_ | refine Ixo.mk ⟨_, rfl, (by (try simp only [smT]); omega), ?_⟩ | refine Rw.lit rfl ?_ | refine Rw.self (by (try simp only [smT]); omega) ?_ | refine Rw.map (by (try simp only [smT]); omega) ?_ | refine Len.mk (by first | rfl | (simp; done) | (simp only [smT]; assumption) | (simp only [smT]; omega)) ?_ | refine Eqv.mk (by kernel_rfl) ?_ | refine Apd.mk (by first | rfl | simp) (by first | rfl | simp) (by (try simp only [smT]); first | omega | (simp; omega)) (by unfold maxLen; first | (simp; done) | (simp; omega) | omega) ?_ | refine Raw.capNil (T := tt) rfl rfl rfl rfl ?_ | refine Raw.sliceNil (T := tt) rfl rfl (by first | rfl | omega | (simp; done)) rfl rfl rfl rfl ?_ | (refine Raw.appendR (T := tt) ?_; (conv => whnf); first | refine Rw_ptrs' m (by omega) (by omega) ?_ | refine Ixo.mk ⟨m, (by first | omega | (simp only [smT]; omega)), (by first | omega | (simp only [smT]; omega)), ?_⟩ | refine Rw.lit rfl ?_ | refine Rw.self (by (try simp only [smT]); omega) ?_ | refine Rw.map (by (try simp only [smT]); omega) ?_) | refine Raw.appendIn (T := tt) rfl rfl rfl rfl rfl rfl rfl rfl rfl rfl (by (try simp only [smT]); omega) (by (try simp only [smT]); omega) ?_ | refine Raw.clear (T := tt) rfl rfl rfl rfl rfl rfl rfl (by (try simp only [smT]); omega) ?_ | refine Slc.mk ⟨_, _, rfl, rfl, (by (try simp only [smT]); omega), (by (try simp only [smT]); omega), ?_⟩ | refine Slc.mk ⟨0, _, rfl, rfl, (by (try simp only [smT]); omega), (by (try simp only [smT]); omega), ?_⟩ | refine Slc.mk ⟨1, _, rfl, rfl, (by (try simp only [smT]); omega), (by (try simp only [smT]); omega), ?_⟩ | refine Slc3.mk ⟨_, _, _, rfl, rfl, rfl, (by (try simp only [smT]); omega), (by (try simp only [smT]); omega), (by (try simp only [smT]); omega)⟩ ?_ | refine Drw.of (T := tt) (i := 2) [] [] [(0, true), (1, true), (2, true), (3, true), (4, true), (5, true), (6, true), (7, true), (8, true), (9, true), (10, true), (11, true), (12, true), (13, true), (14, true), (15, true), (16, true), (17, true), (18, true), (19, true), (20, true), (21, true), (22, true), (23, true), (24, true), (25, true), (26, true), (27, true), (28, true), (29, true), (30, true), (31, true), (32, true)] (by kernel_rfl) ?_ | refine Drw.of (T := tt) (i := 7) [14] [11] [(0, true), (1, true), (2, true), (3, true), (4, true), (5, true), (6, true), (7, true), (8, false), (9, true), (10, true), (11, true), (12, true), (13, true), (14, false)] (by kernel_rfl) ?_)
  all_goals (conv => whnf)
  all_goals exact RetO.mk ⟨[], _, _, .d (.u rfl), LeO.fm rfl (by first | rfl | simp [Tsk.row, List.map_set]) (LeO.fm rfl (by first | rfl | simp [Tsk.row, List.map_set]) .nil), rfl, rfl⟩
theorem act5c_T (jobs : List Jb) (now ser : Int) (rs : List Int) (ts : List Tm) (tasks : List Tsk) (log : List Rc) (n : Nat) (hn : n < tasks.length) (m : Nat) (job : Int) (begun guarding ended cancelled : Bool) (left : List Ac) (ws : List Int) (ht : tasks[m]? = some ⟨job, begun, guarding, ended, cancelled, left, ws⟩) (hec : ended = true ∨ cancelled = true) (r1 r2 : List (List E)) (e1 : r1 = [smRow jobs now ser rs ts tasks.length log]) (e2 : r2 = tasks.map Tsk.row) :
    CallsA Try.prog 63 [smP, di n, .a [.u (.int .i64 5), .u (.int .i64 m)]] [(1, .fm 80 r1), (2, .fm 104 r2)] (Iso (db false) (smOb jobs now ser rs ts tasks log)) := by
  subst e1 e2
  have hmt := lt_of_get ht
  rcases hec with rfl | rfl
  all_goals (
    refine callsA_of_vcO (T := tt) Try.func63 rfl rfl rfl rfl rfl ?_
    repeat' ((conv => whnf); first | refine Rw_ptrs' m (by omega) (by omega) ?_ | refine Ixo.mk ⟨m, (by first | omega | (simp only [smT]; omega)), (by first | omega | (simp only [smT]; omega)), ?_⟩ | refine Rw_tsk ht ?_ | refine Gs.id ?_ | with_reducible refine And.intro ?_ ?_ | with_reducible refine Brn.T rfl ?_ | with_reducible refine Brn.F rfl ?_ | refine Brn.T (by (try simp only [smT]); first | rfl | assumption | omega | (simp only [*]; done) | (simp [*]; done) | fail) ?_ | refine Brn.F (by (try simp only [smT]); first | rfl | assumption | omega | (simp only [*]; done) | (simp [*]; done) | fail) ?_ | (refine Brn.mk (fun hb => ?_) (fun hb => ?_) <;> (try simp only [smT] at hb) <;> (try (exact absurd trivial hb)) <;> (try (exfalso; omega))) | (refine Bnd.mk (fun hm => ?_); (try simp only [smT] at hm)) | refine Rng.mk (by (try simp only [smT]); omega) ?_ | refine Ix.map rfl (by (try simp only [smT]); omega) ?_ | refine Ix.map (m := 0) rfl (by (try simp only [smT]); omega) ?_ | refine Ix.lit (m := 0) rfl rfl ?_ | refine Ixo.mk ⟨_, rfl, (by (try simp only [smT]); omega), ?_⟩ | refine Rw.lit rfl ?_ | refine Rw.self (by (try simp only [smT]); omega) ?_ | refine Rw.map (by (try simp only [smT]); omega) ?_ | refine Len.mk (by first | rfl | (simp; done) | (simp only [smT]; assumption) | (simp only [smT]; omega)) ?_ | refine Eqv.mk (by kernel_rfl) ?_ | refine Apd.mk (by first | rfl | simp) (by first | rfl | simp) (by (try simp only [smT]); first | omega | (simp; omega)) (by unfold maxLen; first | (simp; done) | (simp; omega) | omega) ?_ | refine Raw.capNil (T := tt) rfl rfl rfl rfl ?_ | refine Raw.sliceNil (T := tt) rfl rfl (by first | rfl | omega | (simp; done)) rfl rfl rfl rfl ?_ | (refine Raw.appendR (T := tt) ?_; (conv => whnf); first | refine Rw_ptrs' m (by omega) (by omega) ?_ | refine Ixo.mk ⟨m, (by first | omega | (simp only [smT]; omega)), (by first | omega | (simp only [smT]; omega)), ?_⟩ | refine Rw_tsk ht ?_ | refine Rw.lit rfl ?_ | refine Rw.self (by (try simp only [smT]); omega) ?_ | refine Rw.map (by (try simp only [smT]); omega) ?_) | refine Raw.appendIn (T := tt) rfl rfl rfl rfl rfl rfl rfl rfl rfl rfl (by (try simp only [smT]); omega) (by (try simp only [smT]); omega) ?_ | refine Raw.clear (T := tt) rfl rfl rfl rfl rfl rfl rfl (by (try simp only [smT]); omega) ?_ | refine Slc.mk ⟨_, _, rfl, rfl, (by (try simp only [smT]); omega), (by (try simp only [smT]); omega), ?_⟩ | refine Slc.mk ⟨0, _, rfl, rfl, (by (try simp only [smT]); omega), (by (try simp only [smT]); omega), ?_⟩ | refine Slc.mk ⟨1, _, rfl, rfl, (by (try simp only [smT]); omega), (by (try simp only [smT]); omega), ?_⟩ | refine Slc3.mk ⟨_, _, _, rfl, rfl, rfl, (by (try simp only [smT]); omega), (by (try simp only [smT]); omega), (by (try simp only [smT]); omega)⟩ ?_ | refine Drw.of (T := tt) (i := 2) [] [] [(0, true), (1, true), (2, true), (3, true), (4, true), (5, true), (6, true), (7, true), (8, true), (9, true), (10, true), (11, true), (12, true), (13, true), (14, true), (15, true), (16, true), (17, true), (18, true), (19, true), (20, true), (21, true), (22, true), (23, true), (24, true), (25, true), (26, true), (27, true), (28, true), (29, true), (30, true), (31, true), (32, true)] (by kernel_rfl) ?_ | refine Drw.of (T := tt) (i := 7) [14] [11] [(0, true), (1, true), (2, true), (3, true), (4, true), (5, true), (6, true), (7, true), (8, false), (9, true), (10, true), (11, true), (12, true), (13, true), (14, false)] (by kernel_rfl) ?_)
    all_goals (conv => whnf)
    all_goals exact RetO.mk ⟨[], _, _, .d (.u rfl), LeO.fm rfl (by first | rfl | simp [Tsk.row, List.map_set]) (LeO.fm rfl (by first | rfl | simp [Tsk.row, List.map_set]) .nil), rfl, rfl⟩)
end Go.Proofs.Ytgiebofmfkacgaa
namespace Go.Proofs.Ytgiebofmfkacgaa
open Go.RowKit

def actM (jobs : List Jb) (s : Sm) (n : Nat) (k : Int) (m : Nat) : Sm × Bool :=
  if k = 1 then (s.note n 2 m, false) else
  if k = 2 then (s.put (sleepM s.ck n m).1, true) else
  if k = 3 then (spawnM jobs s m, false) else
  match s.tasks[m]? with
  | none => (s, false)
  | some t =>
    if k = 4 then (if m ≠ n ∧ t.ended = false then (⟨s.now, s.ser, s.rs, s.ts, s.tasks.set m { t with waiters := t.waiters ++ [(n : Int)] }, s.log⟩, true) else (s, false)) else
    (if m ≠ n ∧ t.ended = false ∧ t.cancelled = false then (⟨(wakeP s.ck m).1.now, (wakeP s.ck m).1.ser, (wakeP s.ck m).1.rs, (wakeP s.ck m).1.ts, cancelTs s.tasks m, s.log⟩, false) else (s, false))
theorem act_T (jobs : List Jb) (now ser : Int) (rs : List Int) (ts : List Tm) (tasks : List Tsk) (log : List Rc) (n : Nat) (hn : n < tasks.length) (hn6 : tasks.length ≤ 60) (hl : log.length ≤ 1000000) (hs : Small ⟨now, ser, rs, ts⟩) (k : Int) (m : Nat) (hk : 1 ≤ k ∧ k ≤ 5) (hv : k = 3 → m < jobs.length) (hwl : ∀ t ∈ tasks, t.waiters.length ≤ 1000000) (y1 y2 : Int) (y3 : List Int) (y4 : List Tm) (ys : List Tsk) (yl : List Rc) (b : Bool) (e : actM jobs ⟨now, ser, rs, ts, tasks, log⟩ n k m = (⟨y1, y2, y3, y4, ys, yl⟩, b)) (r1 r2 : List (List E)) (e1 : r1 = [smRow jobs now ser rs ts tasks.length log]) (e2 : r2 = tasks.map Tsk.row) :
    CallsA Try.prog 63 [smP, di n, .a [.u (.int .i64 k), .u (.int .i64 m)]] [(1, .fm 80 r1), (2, .fm 104 r2)] (Iso (db b) (smOb jobs y1 y2 y3 y4 ys yl)) := by
  have h5 : k = 1 ∨ k = 2 ∨ k = 3 ∨ k = 4 ∨ k = 5 := by omega
  rcases h5 with rfl | rfl | rfl | rfl | rfl
  · simp only [actM, if_true, Sm.note, Prod.mk.injEq, Sm.mk.injEq] at e
    obtain ⟨⟨rfl, rfl, rfl, rfl, rfl, rfl⟩, rfl⟩ := e
    exact act1_T jobs now ser rs ts tasks log n hn m hl r1 r2 e1 e2
  · simp only [actM, (show ¬ (2 : Int) = 1 by decide), if_false, if_true, Sm.put, Sm.ck, Prod.mk.injEq, Sm.mk.injEq] at e
    obtain ⟨⟨rfl, rfl, rfl, rfl, rfl, rfl⟩, rfl⟩ := e
    exact act2_T jobs now ser rs ts tasks log n hn m hs _ _ _ _ _ rfl r1 r2 e1 e2
  · simp only [actM, (show ¬ (3 : Int) = 1 by decide), (show ¬ (3 : Int) = 2 by decide), if_false, if_true, Prod.mk.injEq] at e
    obtain ⟨e, rfl⟩ := e
    have q : yl = log := by
      unfold spawnM at e
      split at e <;> (injection e with _ _ _ _ _ e; exact e.symm)
    subst q
    exact act3_T jobs now ser rs ts tasks yl n hn m (hv rfl) hn6 hs _ _ _ _ _ e r1 r2 e1 e2
  · simp only [actM, (show ¬ (4 : Int) = 1 by decide), (show ¬ (4 : Int) = 2 by decide), (show ¬ (4 : Int) = 3 by decide), if_false, if_true] at e
    cases ht : tasks[m]? with
    | none =>
      simp only [ht, Prod.mk.injEq, Sm.mk.injEq] at e
      obtain ⟨⟨rfl, rfl, rfl, rfl, rfl, rfl⟩, rfl⟩ := e
      exact act4b_T jobs now ser rs ts tasks log n hn m (.inr (List.getElem?_eq_none_iff.1 ht)) r1 r2 e1 e2
    | some t =>
      obtain ⟨job, begun, guarding, ended, cancelled, left, ws⟩ := t
      have hw : ws.length ≤ 1000000 := hwl _ (List.mem_of_getElem? ht)
      simp only [ht] at e
      by_cases hmn : m = n
      · rw [if_neg (by simp [hmn])] at e
        simp only [Prod.mk.injEq, Sm.mk.injEq] at e
        obtain ⟨⟨rfl, rfl, rfl, rfl, rfl, rfl⟩, rfl⟩ := e
        exact act4b_T jobs now ser rs ts tasks log n hn m (.inl hmn) r1 r2 e1 e2
      · cases ended
        · rw [if_pos ⟨hmn, rfl⟩] at e
          simp only [Prod.mk.injEq, Sm.mk.injEq] at e
          obtain ⟨⟨rfl, rfl, rfl, rfl, rfl, rfl⟩, rfl⟩ := e
          exact act4a_T jobs now ser rs ts tasks log n hn m job begun guarding cancelled left ws ht hmn hw r1 r2 e1 e2
        · rw [if_neg (by simp)] at e
          simp only [Prod.mk.injEq, Sm.mk.injEq] at e
          obtain ⟨⟨rfl, rfl, rfl, rfl, rfl, rfl⟩, rfl⟩ := e
          exact act4c_T jobs now ser rs ts tasks log n hn m job begun guarding cancelled left ws ht r1 r2 e1 e2
  · simp only [actM, (show ¬ (5 : Int) = 1 by decide), (show ¬ (5 : Int) = 2 by decide), (show ¬ (5 : Int) = 3 by decide), (show ¬ (5 : Int) = 4 by decide), if_false, Sm.ck] at e
    cases ht : tasks[m]? with
    | none =>
      simp only [ht, Prod.mk.injEq, Sm.mk.injEq] at e
      obtain ⟨⟨rfl, rfl, rfl, rfl, rfl, rfl⟩, rfl⟩ := e
      exact act5b_T jobs now ser rs ts tasks log n hn m (.inr (List.getElem?_eq_none_iff.1 ht)) r1 r2 e1 e2
    | some t =>
      obtain ⟨job, begun, guarding, ended, cancelled, left, ws⟩ := t
      simp only [ht] at e
      by_cases hmn : m = n
      · rw [if_neg (by simp [hmn])] at e
        simp only [Prod.mk.injEq, Sm.mk.injEq] at e
        obtain ⟨⟨rfl, rfl, rfl, rfl, rfl, rfl⟩, rfl⟩ := e
        exact act5b_T jobs now ser rs ts tasks log n hn m (.inl hmn) r1 r2 e1 e2
      · by_cases hec : ended = false ∧ cancelled = false
        · obtain ⟨rfl, rfl⟩ := hec
          rw [if_pos ⟨hmn, rfl, rfl⟩] at e
          simp only [Prod.mk.injEq, Sm.mk.injEq] at e
          obtain ⟨⟨rfl, rfl, rfl, rfl, rfl, rfl⟩, rfl⟩ := e
          exact act5a_T jobs now ser rs ts tasks log n hn m job begun guarding left ws ht hmn hwl hs _ _ _ _ _ rfl r1 r2 e1 e2
        · rw [if_neg (by intro h; exact hec h.2)] at e
          simp only [Prod.mk.injEq, Sm.mk.injEq] at e
          obtain ⟨⟨rfl, rfl, rfl, rfl, rfl, rfl⟩, rfl⟩ := e
          exact act5c_T jobs now ser rs ts tasks log n hn m job begun guarding ended cancelled left ws ht (by cases ended <;> cases cancelled <;> simp_all) r1 r2 e1 e2
end Go.Proofs.Ytgiebofmfkacgaa
namespace Go.Proofs.Ytgiebofmfkacgaa
open Go.RowKit

def endM (s : Sm) (n : Nat) : Sm := match s.tasks[n]? with
  | none => s
  | some t => ⟨(wakes s.ck t.waiters).now, (wakes s.ck t.waiters).ser, (wakes s.ck t.waiters).rs, (wakes s.ck t.waiters).ts, s.tasks.set n { t with ended := true, waiters := [] }, s.log ++ [⟨s.now, n, 3, 0⟩]⟩
def Sm.set (s : Sm) (n : Nat) (t : Tsk) : Sm := ⟨s.now, s.ser, s.rs, s.ts, s.tasks.set n t, s.log⟩
def goM (jobs : List Jb) (n : Nat) : List Ac → Sm → Sm
  | [], s => endM s n
  | a :: l, s => match s.tasks[n]? with
    | none => s
    | some t => if (actM jobs (s.set n { t with left := l }) n a.kind a.n.toNat).2 then (actM jobs (s.set n { t with left := l }) n a.kind a.n.toNat).1 else goM jobs n l (actM jobs (s.set n { t with left := l }) n a.kind a.n.toNat).1
def proceedM (jobs : List Jb) (s : Sm) (n : Nat) : Sm := match s.tasks[n]? with
  | none => s
  | some t => if t.cancelled then
      (if !t.begun || t.guarding then endM ((s.set n { t with cancelled := false }).note n 4 0) n
        else goM jobs n (jobs.getD t.job.toNat ⟨[], []⟩).guard (((s.set n { t with cancelled := false }).note n 4 0).set n { t with cancelled := false, guarding := true, left := (jobs.getD t.job.toNat ⟨[], []⟩).guard }))
    else if !t.begun then goM jobs n t.left ((s.note n 1 t.job).set n { t with begun := true }) else goM jobs n t.left s
/-- What is left of the task n stays, whatever the task does. -/
theorem actM_left (jobs : List Jb) (s : Sm) (n m : Nat) (k : Int) (t : Tsk) (h : s.tasks[n]? = some t) : ∃ u, (actM jobs s n k m).1.tasks[n]? = some u ∧ u.left = t.left ∧ u.job = t.job := by
  have hn := lt_of_get h
  unfold actM
  split
  · exact ⟨t, h, rfl, rfl⟩
  split
  · exact ⟨t, h, rfl, rfl⟩
  split
  · unfold spawnM
    split
    · exact ⟨t, h, rfl, rfl⟩
    · exact ⟨t, by simp [List.getElem?_append_left hn, h], rfl, rfl⟩
  split
  · exact ⟨t, h, rfl, rfl⟩
  · rename_i v hv
    split
    · split
      · rename_i hc
        exact ⟨t, by simp [List.getElem?_set_ne hc.1, h], rfl, rfl⟩
      · exact ⟨t, h, rfl, rfl⟩
    · split
      · rename_i hc
        refine ⟨{ t with waiters := t.waiters.filter fun w => w != m }, ?_, rfl, rfl⟩
        simp [cancelTs, List.getElem?_modify, hc.1, h]
      · exact ⟨t, h, rfl, rfl⟩
theorem actM_len (jobs : List Jb) (s : Sm) (n m : Nat) (k : Int) (h : s.tasks.length ≤ 60) : s.tasks.length ≤ (actM jobs s n k m).1.tasks.length ∧ (actM jobs s n k m).1.tasks.length ≤ 60 := by
  unfold actM
  split
  · exact ⟨Nat.le_refl _, h⟩
  split
  · exact ⟨Nat.le_refl _, h⟩
  split
  · unfold spawnM
    split
    · exact ⟨Nat.le_refl _, h⟩
    · simp; omega
  split
  · exact ⟨Nat.le_refl _, h⟩
  · split
    · split
      · simp; omega
      · exact ⟨Nat.le_refl _, h⟩
    · split
      · simp [cancelTs]; omega
      · exact ⟨Nat.le_refl _, h⟩
theorem actM_log (jobs : List Jb) (s : Sm) (n m : Nat) (k : Int) : (actM jobs s n k m).1.log.length ≤ s.log.length + 1 := by
  unfold actM
  split
  · simp [Sm.note]
  split
  · simp [Sm.put]
  split
  · unfold spawnM; split <;> simp
  split
  · simp
  · split
    · split <;> simp
    · split <;> simp
theorem wakeP_small (c : Ck) (n : Int) (h : Small c) : Small (wakeP c n).1 := by
  by_cases hv : (validate c).1 = 0
  · exact wake_small (by have := validate_small hv; omega)
  · rw [wakeP, if_neg hv]
    exact ⟨by simp, by simp⟩
theorem actM_small (jobs : List Jb) (s : Sm) (n m : Nat) (k : Int) (h : Small s.ck) : Small (actM jobs s n k m).1.ck := by
  unfold actM
  split
  · exact h
  split
  · exact sleep_small _ _ _
  split
  · unfold spawnM
    split
    · exact h
    · exact ready_small _ _
  split
  · exact h
  · split
    · split <;> exact h
    · split
      · exact wakeP_small _ _ h
      · exact h
/-- The waiters of a task: at most one more. -/
theorem actM_wait (jobs : List Jb) (s : Sm) (n m B : Nat) (k : Int) (h : ∀ t ∈ s.tasks, t.waiters.length ≤ B) : ∀ t ∈ (actM jobs s n k m).1.tasks, t.waiters.length ≤ B + 1 := by
  have h' : ∀ t ∈ s.tasks, t.waiters.length ≤ B + 1 := fun t ht => Nat.le_succ_of_le (h t ht)
  unfold actM
  split
  · exact h'
  split
  · exact h'
  split
  · unfold spawnM
    split
    · exact h'
    · intro t ht
      simp only [List.mem_append, List.mem_singleton] at ht
      rcases ht with ht | rfl
      · exact h' t ht
      · simp
  split
  · exact h'
  · rename_i v hv
    have hv' := h v (List.mem_of_getElem? hv)
    split
    · split
      · intro t ht
        rcases List.mem_or_eq_of_mem_set ht with ht | rfl
        · exact h' t ht
        · simp; exact hv'
      · exact h'
    · split
      · intro t ht
        simp only [cancelTs, List.mem_map] at ht
        obtain ⟨u, hu, rfl⟩ := ht
        have hb : u.waiters.length ≤ B := by
          obtain ⟨i, hi⟩ := List.getElem?_of_mem hu
          rw [List.getElem?_modify] at hi
          cases ho : s.tasks[i]? with
          | none => simp [ho] at hi
          | some w =>
            have hw := h w (List.mem_of_getElem? ho)
            by_cases hmi : m = i
            · simp [ho, hmi] at hi
              subst hi
              exact hw
            · simp [ho, hmi] at hi
              subst hi
              exact hw
        exact Nat.le_succ_of_le (Nat.le_trans (List.length_filter_le ..) hb)
      · exact h'
end Go.Proofs.Ytgiebofmfkacgaa
namespace Go.Proofs.Ytgiebofmfkacgaa
open Go.RowKit

def okA (jobs : List Jb) (a : Ac) : Prop := (1 ≤ a.kind ∧ a.kind ≤ 5) ∧ 0 ≤ a.n ∧ (a.kind = 3 → a.n.toNat < jobs.length)
structure Inv (jobs : List Jb) (n : Nat) (l : List Ac) (s : Sm) : Prop where
  at_ : ∃ t, s.tasks[n]? = some t ∧ t.left = l
  len : s.tasks.length ≤ 60
  log : s.log.length + l.length ≤ 1000000
  small : Small s.ck
  wait : ∀ t ∈ s.tasks, t.waiters.length + l.length ≤ 1000000
  ok : ∀ a ∈ l, okA jobs a
set_option maxHeartbeats 1000000 in
theorem proceedA_T (jobs : List Jb) (now ser : Int) (rs : List Int) (ts : List Tm) (tasks : List Tsk) (log : List Rc) (n : Nat) (job : Int) (guarding ended : Bool) (left : List Ac) (ws : List Int) (ht : tasks[n]? = some ⟨job, true, guarding, ended, false, left, ws⟩) (hi : Inv jobs n left ⟨now, ser, rs, ts, tasks, log⟩) (y1 y2 : Int) (y3 : List Int) (y4 : List Tm) (ys : List Tsk) (yl : List Rc) (e : goM jobs n left ⟨now, ser, rs, ts, tasks, log⟩ = ⟨y1, y2, y3, y4, ys, yl⟩) (r1 r2 : List (List E)) (e1 : r1 = [smRow jobs now ser rs ts tasks.length log]) (e2 : r2 = tasks.map Tsk.row) :
    CallsA Try.prog 47 [smP, di n] [(1, .fm 80 r1), (2, .fm 104 r2)] (Iso (.t []) (smOb jobs y1 y2 y3 y4 ys yl)) := by
  subst e1 e2
  have hn := lt_of_get ht
  refine callsA_of_vcO (T := tt) Try.func47 rfl rfl rfl rfl rfl ?_
  repeat' ((conv => whnf); first | refine Rw_ptrs (by omega) ?_ | refine Rw_tsk ht ?_ | refine Gs.id ?_ | with_reducible refine And.intro ?_ ?_ | with_reducible refine Brn.T rfl ?_ | with_reducible refine Brn.F rfl ?_ | refine Brn.T (by (try simp only [smT]); first | rfl | assumption | omega | (simp only [*]; done) | (simp [*]; done) | fail) ?_ | refine Brn.F (by (try simp only [smT]); first | rfl | assumption | omega | (simp only [*]; done) | (simp [*]; done) | fail) ?_ | (refine Brn.mk (fun hb => ?_) (fun hb => ?_) <;> (try simp only [smT] at hb) <;> (try (exact absurd trivial hb)) <;> (try (exfalso; omega))) | (refine Bnd.mk (fun hm => ?_); (try simp only [smT] at hm)) | refine Rng.mk (by (try simp only [smT]); omega) ?_ | refine Ix.map rfl (by (try simp only [smT]); omega) ?_ | refine Ix.map (m := 0) rfl (by (try simp only [smT]); omega) ?_ | refine Ix.lit (m := 0) rfl rfl ?_ | refine Ixo.mk ⟨_, rfl, (by (try simp only [smT]); omega), ?_⟩ | refine Rw.lit rfl ?_ | refine Rw.self (by (try simp only [smT]); omega) ?_ | refine Rw.map (by (try simp only [smT]); omega) ?_ | refine Len.mk (by first | rfl | (simp; done) | (simp only [smT]; assumption) | (simp only [smT]; omega)) ?_ | refine Eqv.mk (by kernel_rfl) ?_ | refine Apd.mk (by first | rfl | simp) (by first | rfl | simp) (by (try simp only [smT]); first | omega | (simp; omega)) (by unfold maxLen; first | (simp; done) | (simp; omega) | omega) ?_ | refine Raw.capNil (T := tt) rfl rfl rfl rfl ?_ | refine Raw.sliceNil (T := tt) rfl rfl (by first | rfl | omega | (simp; done)) rfl rfl rfl rfl ?_ | (refine Raw.appendR (T := tt) ?_; (conv => whnf); first | refine Rw_ptrs (by omega) ?_ | refine Rw_tsk ht ?_ | refine Rw.lit rfl ?_ | refine Rw.self (by (try simp only [smT]); omega) ?_ | refine Rw.map (by (try simp only [smT]); omega) ?_) | refine Raw.appendIn (T := tt) rfl rfl rfl rfl rfl rfl rfl rfl rfl rfl (by (try simp only [smT]); omega) (by (try simp only [smT]); omega) ?_ | refine Raw.clear (T := tt) rfl rfl rfl rfl rfl rfl rfl (by (try simp only [smT]); omega) ?_ | refine Slc.mk ⟨_, _, rfl, rfl, (by (try simp only [smT]); omega), (by (try simp only [smT]); omega), ?_⟩ | refine Slc.mk ⟨0, _, rfl, rfl, (by (try simp only [smT]); omega), (by (try simp only [smT]); omega), ?_⟩ | refine Slc.mk ⟨1, _, rfl, rfl, (by (try simp only [smT]); omega), (by (try simp only [smT]); omega), ?_⟩ | refine Slc3.mk ⟨_, _, _, rfl, rfl, rfl, (by (try simp only [smT]); omega), (by (try simp only [smT]); omega), (by (try simp only [smT]); omega)⟩ ?_ | refine Drw.of (T := tt) (i := 6) [15, 16, 17, 18] [1] [(0, true), (1, true), (2, true), (3, true), (4, true), (5, true), (6, true), (7, true), (8, true), (9, true), (10, true), (11, true), (12, true), (13, true), (14, true), (15, false), (16, false), (17, false), (18, false)] (by kernel_rfl) ?_)
  all_goals (conv => whnf)
  · refine ⟨⟨List Ac × Sm, fun q => Inv jobs n q.1 q.2 ∧ goM jobs n q.1 q.2 = ⟨y1, y2, y3, y4, ys, yl⟩, fun q => q.1.length, fun q => ⟨[(0, smP), (1, di n), (4, .d (.u (.m 2 n 0)))], smOb jobs q.2.now q.2.ser q.2.rs q.2.ts q.2.tasks q.2.log⟩, (left, ⟨now, ser, rs, ts, tasks, log⟩), ⟨hi, e⟩, ⟨[(1, .k 1), (2, .k 2)], ⟨by (try dsimp only); (repeat (refine LeT.cons rfl (by first | exact LeS.d (by first | exact LeD.u rfl | exact LeD.p rfl | exact LeD.ow rfl rfl | exact LeD.ow rfl (by simp) | exact LeD.no rfl rfl | exact LeD.nl (by first | rfl | simp) | exact LeD.u (by simp; done) | exact LeD.u (by congr 1; omega) | exact LeD.q rfl | exact LeD.r rfl | exact LeD.r (by simp; done) | exact LeD.re | exact LeD.ows rfl rfl rfl | exact LeD.u (by congr 1; congr 1; simp) | exact LeD.fn (by repeat (first | exact LeN.nil | refine LeN.cons rfl ?_))) | exact LeS.a (by repeat (first | exact LeL.nil | refine LeL.cons (by first | exact LeD.u rfl | exact LeD.p rfl | exact LeD.ow rfl rfl | exact LeD.ow rfl (by simp) | exact LeD.no rfl rfl | exact LeD.nl (by first | rfl | simp) | exact LeD.u (by simp; done) | exact LeD.u (by congr 1; omega) | exact LeD.q rfl | exact LeD.r rfl | exact LeD.r (by simp; done) | exact LeD.re | exact LeD.ows rfl rfl rfl | exact LeD.u (by congr 1; congr 1; simp) | exact LeD.fn (by repeat (first | exact LeN.nil | refine LeN.cons rfl ?_))) ?_))) ?_)); exact LeT.nil, by (try dsimp only); repeat (first | exact LeO.nil | refine LeO.bx rfl rfl (by repeat (first | exact LeL.nil | refine LeL.cons (by first | exact LeD.u rfl | exact LeD.p rfl | exact LeD.ow rfl rfl | exact LeD.ow rfl (by simp) | exact LeD.no rfl rfl | exact LeD.nl (by first | rfl | simp) | exact LeD.u (by simp; done) | exact LeD.u (by congr 1; omega) | exact LeD.q rfl | exact LeD.r rfl | exact LeD.r (by simp; done) | exact LeD.re | exact LeD.ows rfl rfl rfl | exact LeD.u (by congr 1; congr 1; simp) | exact LeD.fn (by repeat (first | exact LeN.nil | refine LeN.cons rfl ?_))) ?_)) ?_ | refine LeO.ar rfl rfl (by first | rfl | simp) ?_ | refine LeO.fm rfl (by first | rfl | simp) ?_ | refine LeO.no rfl rfl ?_)⟩⟩, fun ⟨l, s⟩ ⟨hv, he⟩ => ?_⟩⟩
    clear ht hi e hn
    obtain ⟨b1, b2, b3, b4, b5, b6⟩ := s
    obtain ⟨⟨⟨job, begun, guarding, ended, cancelled, lf, ws⟩, ht, hl0⟩, v1, v2, v3, v4, v5⟩ := hv
    dsimp only at hl0
    subst hl0
    dsimp only at ht v1 v2 v3 v4 v5 he ⊢
    have hn := lt_of_get ht
    cases lf with
    | nil =>
      rw [goM, endM] at he
      dsimp only at he
      rw [ht] at he
      dsimp only at he
      generalize hw : wakes ⟨b1, b2, b3, b4⟩ ws = w at he
      obtain ⟨w1, w2, w3, w4⟩ := w
      injection he with q1 q2 q3 q4 q5 q6
      subst q1 q2 q3 q4 q5 q6
      repeat' ((conv => whnf); first | refine Rw_ptrs (by omega) ?_ | refine Rw_tsk ht ?_ | refine Gs.id ?_ | with_reducible refine And.intro ?_ ?_ | with_reducible refine Brn.T rfl ?_ | with_reducible refine Brn.F rfl ?_ | refine Brn.T (by (try simp only [smT]); first | rfl | assumption | omega | (simp only [*]; done) | (simp [*]; done) | fail) ?_ | refine Brn.F (by (try simp only [smT]); first | rfl | assumption | omega | (simp only [*]; done) | (simp [*]; done) | fail) ?_ | (refine Brn.mk (fun hb => ?_) (fun hb => ?_) <;> (try simp only [smT] at hb) <;> (try (exact absurd trivial hb)) <;> (try (exfalso; omega))) | (refine Bnd.mk (fun hm => ?_); (try simp only [smT] at hm)) | refine Rng.mk (by (try simp only [smT]); omega) ?_ | refine Ix.map rfl (by (try simp only [smT]); omega) ?_ | refine Ix.map (m := 0) rfl (by (try simp only [smT]); omega) ?_ | refine Ix.lit (m := 0) rfl rfl ?_ | refine Ixo.mk ⟨_, rfl, (by (try simp only [smT]); omega), ?_⟩ | refine Rw.lit rfl ?_ | refine Rw.self (by (try simp only [smT]); omega) ?_ | refine Rw.map (by (try simp only [smT]); omega) ?_ | refine Len.mk (by first | rfl | (simp; done) | (simp only [smT]; assumption) | (simp only [smT]; omega)) ?_ | refine Eqv.mk (by kernel_rfl) ?_ | refine Apd.mk (by first | rfl | simp) (by first | rfl | simp) (by (try simp only [smT]); first | omega | (simp; omega)) (by unfold maxLen; first | (simp; done) | (simp; omega) | omega) ?_ | refine Raw.capNil (T := tt) rfl rfl rfl rfl ?_ | refine Raw.sliceNil (T := tt) rfl rfl (by first | rfl | omega | (simp; done)) rfl rfl rfl rfl ?_ | (refine Raw.appendR (T := tt) ?_; (conv => whnf); first | refine Rw_ptrs (by omega) ?_ | refine Rw_tsk ht ?_ | refine Rw.lit rfl ?_ | refine Rw.self (by (try simp only [smT]); omega) ?_ | refine Rw.map (by (try simp only [smT]); omega) ?_) | refine Raw.appendIn (T := tt) rfl rfl rfl rfl rfl rfl rfl rfl rfl rfl (by (try simp only [smT]); omega) (by (try simp only [smT]); omega) ?_ | refine Raw.clear (T := tt) rfl rfl rfl rfl rfl rfl rfl (by (try simp only [smT]); omega) ?_ | refine Slc.mk ⟨_, _, rfl, rfl, (by (try simp only [smT]); omega), (by (try simp only [smT]); omega), ?_⟩ | refine Slc.mk ⟨0, _, rfl, rfl, (by (try simp only [smT]); omega), (by (try simp only [smT]); omega), ?_⟩ | refine Slc.mk ⟨1, _, rfl, rfl, (by (try simp only [smT]); omega), (by (try simp only [smT]); omega), ?_⟩ | refine Slc3.mk ⟨_, _, _, rfl, rfl, rfl, (by (try simp only [smT]); omega), (by (try simp only [smT]); omega), (by (try simp only [smT]); omega)⟩ ?_ | refine Drw.of (T := tt) (i := 6) [15, 16, 17, 18] [1] [(0, true), (1, true), (2, true), (3, true), (4, true), (5, true), (6, true), (7, true), (8, true), (9, true), (10, true), (11, true), (12, true), (13, true), (14, true), (15, false), (16, false), (17, false), (18, false)] (by kernel_rfl) ?_ | (refine CL.mk (Or.inr (Raw.callI [1,2] [1,2] rfl rfl rfl rfl rfl rfl rfl (end_T jobs _ _ _ _ b5 b6 n job begun guarding ended cancelled [] ws ht (by simp at v2; omega) v3 w1 w2 w3 w4 hw _ _ rfl rfl) ?_)); rintro _ _ ⟨rfl, rfl⟩; refine Bk.mk rfl rfl ?_))
      all_goals (conv => whnf)
      all_goals exact RetO.mk ⟨[], _, _, .ts .nil, LeO.fm rfl rfl (LeO.fm rfl rfl .nil), rfl, rfl⟩
    | cons a l =>
      obtain ⟨ak, an⟩ := a
      have hok := v5 ⟨ak, an⟩ (by simp)
      obtain ⟨o1, o2, o3⟩ := hok
      dsimp only at o1 o2 o3
      obtain ⟨m, rfl⟩ : ∃ m : Nat, an = (m : Int) := ⟨an.toNat, by omega⟩
      rw [goM] at he
      dsimp only at he
      rw [ht] at he
      simp only [Sm.set, Int.toNat_natCast] at he o3
      have q9 : ∃ z1 z2 z3 z4 z5 z6 b, actM jobs ⟨b1, b2, b3, b4, b5.set n ⟨job, begun, guarding, ended, cancelled, l, ws⟩, b6⟩ n ak m = (⟨z1, z2, z3, z4, z5, z6⟩, b) := ⟨_, _, _, _, _, _, _, rfl⟩
      obtain ⟨z1, z2, z3, z4, z5, z6, b, hr⟩ := q9
      simp only [hr] at he
      simp only [List.length_cons] at v2 v4
      have hw8 : ∀ t ∈ b5.set n ⟨job, begun, guarding, ended, cancelled, l, ws⟩, t.waiters.length ≤ 1000000 - (l.length + 1) := by
        intro t ht'
        rcases List.mem_or_eq_of_mem_set ht' with h | rfl
        · have := v4 t h; omega
        · have := v4 _ (List.mem_of_getElem? ht); dsimp only at this ⊢; omega
      have hw9 : ∀ t ∈ b5.set n ⟨job, begun, guarding, ended, cancelled, l, ws⟩, t.waiters.length ≤ 1000000 := fun t h => by have := hw8 t h; omega
      repeat' ((conv => whnf); first | refine Rw_ptrs (by omega) ?_ | refine Rw_tsk ht ?_ | refine Gs.id ?_ | with_reducible refine And.intro ?_ ?_ | with_reducible refine Brn.T rfl ?_ | with_reducible refine Brn.F rfl ?_ | refine Brn.T (by (try simp only [smT]); first | rfl | assumption | omega | (simp only [*]; done) | (simp [*]; done) | fail) ?_ | refine Brn.F (by (try simp only [smT]); first | rfl | assumption | omega | (simp only [*]; done) | (simp [*]; done) | fail) ?_ | (refine Brn.mk (fun hb => ?_) (fun hb => ?_) <;> (try simp only [smT] at hb) <;> (try (exact absurd trivial hb)) <;> (try (exfalso; omega))) | (refine Bnd.mk (fun hm => ?_); (try simp only [smT] at hm)) | refine Rng.mk (by (try simp only [smT]); omega) ?_ | refine Ix.map rfl (by (try simp only [smT]); omega) ?_ | refine Ix.map (m := 0) rfl (by (try simp only [smT]); omega) ?_ | refine Ix.lit (m := 0) rfl rfl ?_ | refine Ixo.mk ⟨_, rfl, (by (try simp only [smT]); omega), ?_⟩ | refine Rw.lit rfl ?_ | refine Rw.self (by (try simp only [smT]); omega) ?_ | refine Rw.map (by (try simp only [smT]); omega) ?_ | refine Len.mk (by first | rfl | (simp; done) | (simp only [smT]; assumption) | (simp only [smT]; omega)) ?_ | refine Eqv.mk (by kernel_rfl) ?_ | refine Apd.mk (by first | rfl | simp) (by first | rfl | simp) (by (try simp only [smT]); first | omega | (simp; omega)) (by unfold maxLen; first | (simp; done) | (simp; omega) | omega) ?_ | refine Raw.capNil (T := tt) rfl rfl rfl rfl ?_ | refine Raw.sliceNil (T := tt) rfl rfl (by first | rfl | omega | (simp; done)) rfl rfl rfl rfl ?_ | (refine Raw.appendR (T := tt) ?_; (conv => whnf); first | refine Rw_ptrs (by omega) ?_ | refine Rw_tsk ht ?_ | refine Rw.lit rfl ?_ | refine Rw.self (by (try simp only [smT]); omega) ?_ | refine Rw.map (by (try simp only [smT]); omega) ?_) | refine Raw.appendIn (T := tt) rfl rfl rfl rfl rfl rfl rfl rfl rfl rfl (by (try simp only [smT]); omega) (by (try simp only [smT]); omega) ?_ | refine Raw.clear (T := tt) rfl rfl rfl rfl rfl rfl rfl (by (try simp only [smT]); omega) ?_ | refine Slc.mk ⟨_, _, rfl, rfl, (by (try simp only [smT]); omega), (by (try simp only [smT]); omega), ?_⟩ | refine Slc.mk ⟨0, _, rfl, rfl, (by (try simp only [smT]); omega), (by (try simp only [smT]); omega), ?_⟩ | refine Slc.mk ⟨1, _, rfl, rfl, (by (try simp only [smT]); omega), (by (try simp only [smT]); omega), ?_⟩ | refine Slc3.mk ⟨_, _, _, rfl, rfl, rfl, (by (try simp only [smT]); omega), (by (try simp only [smT]); omega), (by (try simp only [smT]); omega)⟩ ?_ | refine Drw.of (T := tt) (i := 6) [15, 16, 17, 18] [1] [(0, true), (1, true), (2, true), (3, true), (4, true), (5, true), (6, true), (7, true), (8, true), (9, true), (10, true), (11, true), (12, true), (13, true), (14, true), (15, false), (16, false), (17, false), (18, false)] (by kernel_rfl) ?_ | (refine CL.mk (Or.inr (Raw.callI [1,2] [1,2] rfl rfl rfl rfl rfl rfl rfl (act_T jobs b1 b2 b3 b4 (b5.set n ⟨job, begun, guarding, ended, cancelled, l, ws⟩) b6 n (by simp; omega) (by simp; omega) (by omega) v3 ak m o1 o3 hw9 z1 z2 z3 z4 z5 z6 b hr _ _ (by simp) (by simp [List.map_set, Tsk.row, List.take_of_length_le])) ?_)); rintro _ _ ⟨rfl, rfl⟩; refine Bk.mk rfl rfl ?_))
      all_goals (conv => whnf)
      · subst hb
        simp only [if_true, Sm.mk.injEq] at he
        obtain ⟨rfl, rfl, rfl, rfl, rfl, rfl⟩ := he
        exact RetO.mk ⟨[], _, _, .ts .nil, LeO.fm rfl rfl (LeO.fm rfl rfl .nil), rfl, rfl⟩
      · subst hb
        simp only [Bool.false_eq_true, if_false] at he
        have a1 := actM_left jobs ⟨b1, b2, b3, b4, b5.set n ⟨job, begun, guarding, ended, cancelled, l, ws⟩, b6⟩ n m ak ⟨job, begun, guarding, ended, cancelled, l, ws⟩ (by simp [hn])
        have a2 := actM_len jobs ⟨b1, b2, b3, b4, b5.set n ⟨job, begun, guarding, ended, cancelled, l, ws⟩, b6⟩ n m ak (by simpa using v1)
        have a3 := actM_log jobs ⟨b1, b2, b3, b4, b5.set n ⟨job, begun, guarding, ended, cancelled, l, ws⟩, b6⟩ n m ak
        have a4 := actM_small jobs ⟨b1, b2, b3, b4, b5.set n ⟨job, begun, guarding, ended, cancelled, l, ws⟩, b6⟩ n m ak v3
        have a5 := actM_wait jobs ⟨b1, b2, b3, b4, b5.set n ⟨job, begun, guarding, ended, cancelled, l, ws⟩, b6⟩ n m _ ak hw8
        rw [hr] at a1 a2 a3 a4 a5
        obtain ⟨u, u1, u2, _⟩ := a1
        have hv : Inv jobs n l ⟨z1, z2, z3, z4, z5, z6⟩ := ⟨⟨u, u1, u2⟩, a2.2, by dsimp only at a3 ⊢; omega, a4, fun t h => by have := a5 t h; omega, fun a h => v5 a (by simp [h])⟩
        exact ⟨(l, ⟨z1, z2, z3, z4, z5, z6⟩), ⟨hv, he⟩, by simp, [(1, .k 1), (2, .k 2)], ⟨by (try dsimp only); (repeat (refine LeT.cons rfl (by first | exact LeS.d (by first | exact LeD.u rfl | exact LeD.p rfl | exact LeD.ow rfl rfl | exact LeD.ow rfl (by simp) | exact LeD.no rfl rfl | exact LeD.nl (by first | rfl | simp) | exact LeD.u (by simp; done) | exact LeD.u (by congr 1; omega) | exact LeD.q rfl | exact LeD.r rfl | exact LeD.r (by simp; done) | exact LeD.re | exact LeD.ows rfl rfl rfl | exact LeD.u (by congr 1; congr 1; simp) | exact LeD.fn (by repeat (first | exact LeN.nil | refine LeN.cons rfl ?_))) | exact LeS.a (by repeat (first | exact LeL.nil | refine LeL.cons (by first | exact LeD.u rfl | exact LeD.p rfl | exact LeD.ow rfl rfl | exact LeD.ow rfl (by simp) | exact LeD.no rfl rfl | exact LeD.nl (by first | rfl | simp) | exact LeD.u (by simp; done) | exact LeD.u (by congr 1; omega) | exact LeD.q rfl | exact LeD.r rfl | exact LeD.r (by simp; done) | exact LeD.re | exact LeD.ows rfl rfl rfl | exact LeD.u (by congr 1; congr 1; simp) | exact LeD.fn (by repeat (first | exact LeN.nil | refine LeN.cons rfl ?_))) ?_))) ?_)); exact LeT.nil, by (try dsimp only); repeat (first | exact LeO.nil | refine LeO.bx rfl rfl (by repeat (first | exact LeL.nil | refine LeL.cons (by first | exact LeD.u rfl | exact LeD.p rfl | exact LeD.ow rfl rfl | exact LeD.ow rfl (by simp) | exact LeD.no rfl rfl | exact LeD.nl (by first | rfl | simp) | exact LeD.u (by simp; done) | exact LeD.u (by congr 1; omega) | exact LeD.q rfl | exact LeD.r rfl | exact LeD.r (by simp; done) | exact LeD.re | exact LeD.ows rfl rfl rfl | exact LeD.u (by congr 1; congr 1; simp) | exact LeD.fn (by repeat (first | exact LeN.nil | refine LeN.cons rfl ?_))) ?_)) ?_ | refine LeO.ar rfl rfl (by first | rfl | simp) ?_ | refine LeO.fm rfl (by first | rfl | simp) ?_ | refine LeO.no rfl rfl ?_)⟩⟩
end Go.Proofs.Ytgiebofmfkacgaa
namespace Go.Proofs.Ytgiebofmfkacgaa
open Go.RowKit

set_option maxHeartbeats 1000000 in
theorem proceedB_T (jobs : List Jb) (now ser : Int) (rs : List Int) (ts : List Tm) (tasks : List Tsk) (log : List Rc) (n : Nat) (job : Int) (guarding ended : Bool) (left : List Ac) (ws : List Int) (ht : tasks[n]? = some ⟨job, false, guarding, ended, false, left, ws⟩) (hl : log.length ≤ 1000000) (hi : Inv jobs n left ⟨now, ser, rs, ts, tasks.set n ⟨job, true, guarding, ended, false, left, ws⟩, log ++ [⟨now, n, 1, job⟩]⟩) (y1 y2 : Int) (y3 : List Int) (y4 : List Tm) (ys : List Tsk) (yl : List Rc) (e : goM jobs n left ⟨now, ser, rs, ts, tasks.set n ⟨job, true, guarding, ended, false, left, ws⟩, log ++ [⟨now, n, 1, job⟩]⟩ = ⟨y1, y2, y3, y4, ys, yl⟩) (r1 r2 : List (List E)) (e1 : r1 = [smRow jobs now ser rs ts tasks.length log]) (e2 : r2 = tasks.map Tsk.row) :
    CallsA Try.prog 47 [smP, di n] [(1, .fm 80 r1), (2, .fm 104 r2)] (Iso (.t []) (smOb jobs y1 y2 y3 y4 ys yl)) := by
  subst e1 e2
  have hn := lt_of_get ht
  refine callsA_of_vcO (T := tt) Try.func47 rfl rfl rfl rfl rfl ?_
  repeat' ((conv => whnf); first | refine Rw_ptrs (by omega) ?_ | refine Rw_tsk ht ?_ | refine Gs.id ?_ | with_reducible refine And.intro ?_ ?_ | with_reducible refine Brn.T rfl ?_ | with_reducible refine Brn.F rfl ?_ | refine Brn.T (by (try simp only [smT]); first | rfl | assumption | omega | (simp only [*]; done) | (simp [*]; done) | fail) ?_ | refine Brn.F (by (try simp only [smT]); first | rfl | assumption | omega | (simp only [*]; done) | (simp [*]; done) | fail) ?_ | (refine Brn.mk (fun hb => ?_) (fun hb => ?_) <;> (try simp only [smT] at hb) <;> (try (exact absurd trivial hb)) <;> (try (exfalso; omega))) | (refine Bnd.mk (fun hm => ?_); (try simp only [smT] at hm)) | refine Rng.mk (by (try simp only [smT]); omega) ?_ | refine Ix.map rfl (by (try simp only [smT]); omega) ?_ | refine Ix.map (m := 0) rfl (by (try simp only [smT]); omega) ?_ | refine Ix.lit (m := 0) rfl rfl ?_ | refine Ixo.mk ⟨_, rfl, (by (try simp only [smT]); omega), ?_⟩ | refine Rw.lit rfl ?_ | refine Rw.self (by (try simp only [smT]); omega) ?_ | refine Rw.map (by (try simp only [smT]); omega) ?_ | refine Len.mk (by first | rfl | (simp; done) | (simp only [smT]; assumption) | (simp only [smT]; omega)) ?_ | refine Eqv.mk (by kernel_rfl) ?_ | refine Apd.mk (by first | rfl | simp) (by first | rfl | simp) (by (try simp only [smT]); first | omega | (simp; omega)) (by unfold maxLen; first | (simp; done) | (simp; omega) | omega) ?_ | refine Raw.capNil (T := tt) rfl rfl rfl rfl ?_ | refine Raw.sliceNil (T := tt) rfl rfl (by first | rfl | omega | (simp; done)) rfl rfl rfl rfl ?_ | (refine Raw.appendR (T := tt) ?_; (conv => whnf); first | refine Rw_ptrs (by omega) ?_ | refine Rw_tsk ht ?_ | refine Rw.lit rfl ?_ | refine Rw.self (by (try simp only [smT]); omega) ?_ | refine Rw.map (by (try simp only [smT]); omega) ?_) | refine Raw.appendIn (T := tt) rfl rfl rfl rfl rfl rfl rfl rfl rfl rfl (by (try simp only [smT]); omega) (by (try simp only [smT]); omega) ?_ | refine Raw.clear (T := tt) rfl rfl rfl rfl rfl rfl rfl (by (try simp only [smT]); omega) ?_ | refine Slc.mk ⟨_, _, rfl, rfl, (by (try simp only [smT]); omega), (by (try simp only [smT]); omega), ?_⟩ | refine Slc.mk ⟨0, _, rfl, rfl, (by (try simp only [smT]); omega), (by (try simp only [smT]); omega), ?_⟩ | refine Slc.mk ⟨1, _, rfl, rfl, (by (try simp only [smT]); omega), (by (try simp only [smT]); omega), ?_⟩ | refine Slc3.mk ⟨_, _, _, rfl, rfl, rfl, (by (try simp only [smT]); omega), (by (try simp only [smT]); omega), (by (try simp only [smT]); omega)⟩ ?_ | refine Drw.of (T := tt) (i := 6) [15, 16, 17, 18] [1] [(0, true), (1, true), (2, true), (3, true), (4, true), (5, true), (6, true), (7, true), (8, true), (9, true), (10, true), (11, true), (12, true), (13, true), (14, true), (15, false), (16, false), (17, false), (18, false)] (by kernel_rfl) ?_ | (refine CL.mk (Or.inr (Raw.callI [1,2] [1,2] rfl rfl rfl rfl rfl rfl rfl (note_T' jobs now ser rs ts tasks log _ _ _ hl _ _ rfl rfl) ?_)); rintro _ _ ⟨rfl, rfl⟩; refine Bk.mk rfl rfl ?_))
  all_goals (conv => whnf)
  · refine ⟨⟨List Ac × Sm, fun q => Inv jobs n q.1 q.2 ∧ goM jobs n q.1 q.2 = ⟨y1, y2, y3, y4, ys, yl⟩, fun q => q.1.length, fun q => ⟨[(0, smP), (1, di n), (4, .d (.u (.m 2 n 0)))], smOb jobs q.2.now q.2.ser q.2.rs q.2.ts q.2.tasks q.2.log⟩, (left, ⟨now, ser, rs, ts, tasks.set n ⟨job, true, guarding, ended, false, left, ws⟩, log ++ [⟨now, n, 1, job⟩]⟩), ⟨hi, e⟩, ⟨[(1, .k 1), (2, .k 2)], ⟨by (try dsimp only); (repeat (refine LeT.cons rfl (by first | exact LeS.d (by first | exact LeD.u rfl | exact LeD.u (by simp; done))) ?_)); exact LeT.nil, LeO.fm rfl (by simp) (LeO.fm rfl (by simp [List.map_set, Tsk.row]) .nil)⟩⟩, fun ⟨l, s⟩ ⟨hv, he⟩ => ?_⟩⟩
    clear ht hi e hn
    obtain ⟨b1, b2, b3, b4, b5, b6⟩ := s
    obtain ⟨⟨⟨job, begun, guarding, ended, cancelled, lf, ws⟩, ht, hl0⟩, v1, v2, v3, v4, v5⟩ := hv
    dsimp only at hl0
    subst hl0
    dsimp only at ht v1 v2 v3 v4 v5 he ⊢
    have hn := lt_of_get ht
    cases lf with
    | nil =>
      rw [goM, endM] at he
      dsimp only at he
      rw [ht] at he
      dsimp only at he
      generalize hw : wakes ⟨b1, b2, b3, b4⟩ ws = w at he
      obtain ⟨w1, w2, w3, w4⟩ := w
      injection he with q1 q2 q3 q4 q5 q6
      subst q1 q2 q3 q4 q5 q6
      repeat' ((conv => whnf); first | refine Rw_ptrs (by omega) ?_ | refine Rw_tsk ht ?_ | refine Gs.id ?_ | with_reducible refine And.intro ?_ ?_ | with_reducible refine Brn.T rfl ?_ | with_reducible refine Brn.F rfl ?_ | refine Brn.T (by (try simp only [smT]); first | rfl | assumption | omega | (simp only [*]; done) | (simp [*]; done) | fail) ?_ | refine Brn.F (by (try simp only [smT]); first | rfl | assumption | omega | (simp only [*]; done) | (simp [*]; done) | fail) ?_ | (refine Brn.mk (fun hb => ?_) (fun hb => ?_) <;> (try simp only [smT] at hb) <;> (try (exact absurd trivial hb)) <;> (try (exfalso; omega))) | (refine Bnd.mk (fun hm => ?_); (try simp only [smT] at hm)) | refine Rng.mk (by (try simp only [smT]); omega) ?_ | refine Ix.map rfl (by (try simp only [smT]); omega) ?_ | refine Ix.map (m := 0) rfl (by (try simp only [smT]); omega) ?_ | refine Ix.lit (m := 0) rfl rfl ?_ | refine Ixo.mk ⟨_, rfl, (by (try simp only [smT]); omega), ?_⟩ | refine Rw.lit rfl ?_ | refine Rw.self (by (try simp only [smT]); omega) ?_ | refine Rw.map (by (try simp only [smT]); omega) ?_ | refine Len.mk (by first | rfl | (simp; done) | (simp only [smT]; assumption) | (simp only [smT]; omega)) ?_ | refine Eqv.mk (by kernel_rfl) ?_ | refine Apd.mk (by first | rfl | simp) (by first | rfl | simp) (by (try simp only [smT]); first | omega | (simp; omega)) (by unfold maxLen; first | (simp; done) | (simp; omega) | omega) ?_ | refine Raw.capNil (T := tt) rfl rfl rfl rfl ?_ | refine Raw.sliceNil (T := tt) rfl rfl (by first | rfl | omega | (simp; done)) rfl rfl rfl rfl ?_ | (refine Raw.appendR (T := tt) ?_; (conv => whnf); first | refine Rw_ptrs (by omega) ?_ | refine Rw_tsk ht ?_ | refine Rw.lit rfl ?_ | refine Rw.self (by (try simp only [smT]); omega) ?_ | refine Rw.map (by (try simp only [smT]); omega) ?_) | refine Raw.appendIn (T := tt) rfl rfl rfl rfl rfl rfl rfl rfl rfl rfl (by (try simp only [smT]); omega) (by (try simp only [smT]); omega) ?_ | refine Raw.clear (T := tt) rfl rfl rfl rfl rfl rfl rfl (by (try simp only [smT]); omega) ?_ | refine Slc.mk ⟨_, _, rfl, rfl, (by (try simp only [smT]); omega), (by (try simp only [smT]); omega), ?_⟩ | refine Slc.mk ⟨0, _, rfl, rfl, (by (try simp only [smT]); omega), (by (try simp only [smT]); omega), ?_⟩ | refine Slc.mk ⟨1, _, rfl, rfl, (by (try simp only [smT]); omega), (by (try simp only [smT]); omega), ?_⟩ | refine Slc3.mk ⟨_, _, _, rfl, rfl, rfl, (by (try simp only [smT]); omega), (by (try simp only [smT]); omega), (by (try simp only [smT]); omega)⟩ ?_ | refine Drw.of (T := tt) (i := 6) [15, 16, 17, 18] [1] [(0, true), (1, true), (2, true), (3, true), (4, true), (5, true), (6, true), (7, true), (8, true), (9, true), (10, true), (11, true), (12, true), (13, true), (14, true), (15, false), (16, false), (17, false), (18, false)] (by kernel_rfl) ?_ | (refine CL.mk (Or.inr (Raw.callI [1,2] [1,2] rfl rfl rfl rfl rfl rfl rfl (end_T jobs _ _ _ _ b5 b6 n job begun guarding ended cancelled [] ws ht (by simp at v2; omega) v3 w1 w2 w3 w4 hw _ _ rfl rfl) ?_)); rintro _ _ ⟨rfl, rfl⟩; refine Bk.mk rfl rfl ?_))
      all_goals (conv => whnf)
      all_goals exact RetO.mk ⟨[], _, _, .ts .nil, LeO.fm rfl rfl (LeO.fm rfl rfl .nil), rfl, rfl⟩
    | cons a l =>
      obtain ⟨ak, an⟩ := a
      have hok := v5 ⟨ak, an⟩ (by simp)
      obtain ⟨o1, o2, o3⟩ := hok
      dsimp only at o1 o2 o3
      obtain ⟨m, rfl⟩ : ∃ m : Nat, an = (m : Int) := ⟨an.toNat, by omega⟩
      rw [goM] at he
      dsimp only at he
      rw [ht] at he
      simp only [Sm.set, Int.toNat_natCast] at he o3
      have q9 : ∃ z1 z2 z3 z4 z5 z6 b, actM jobs ⟨b1, b2, b3, b4, b5.set n ⟨job, begun, guarding, ended, cancelled, l, ws⟩, b6⟩ n ak m = (⟨z1, z2, z3, z4, z5, z6⟩, b) := ⟨_, _, _, _, _, _, _, rfl⟩
      obtain ⟨z1, z2, z3, z4, z5, z6, b, hr⟩ := q9
      simp only [hr] at he
      simp only [List.length_cons] at v2 v4
      have hw8 : ∀ t ∈ b5.set n ⟨job, begun, guarding, ended, cancelled, l, ws⟩, t.waiters.length ≤ 1000000 - (l.length + 1) := by
        intro t ht'
        rcases List.mem_or_eq_of_mem_set ht' with h | rfl
        · have := v4 t h; omega
        · have := v4 _ (List.mem_of_getElem? ht); dsimp only at this ⊢; omega
      have hw9 : ∀ t ∈ b5.set n ⟨job, begun, guarding, ended, cancelled, l, ws⟩, t.waiters.length ≤ 1000000 := fun t h => by have := hw8 t h; omega
      repeat' ((conv => whnf); first | refine Rw_ptrs (by omega) ?_ | refine Rw_tsk ht ?_ | refine Gs.id ?_ | with_reducible refine And.intro ?_ ?_ | with_reducible refine Brn.T rfl ?_ | with_reducible refine Brn.F rfl ?_ | refine Brn.T (by (try simp only [smT]); first | rfl | assumption | omega | (simp only [*]; done) | (simp [*]; done) | fail) ?_ | refine Brn.F (by (try simp only [smT]); first | rfl | assumption | omega | (simp only [*]; done) | (simp [*]; done) | fail) ?_ | (refine Brn.mk (fun hb => ?_) (fun hb => ?_) <;> (try simp only [smT] at hb) <;> (try (exact absurd trivial hb)) <;> (try (exfalso; omega))) | (refine Bnd.mk (fun hm => ?_); (try simp only [smT] at hm)) | refine Rng.mk (by (try simp only [smT]); omega) ?_ | refine Ix.map rfl (by (try simp only [smT]); omega) ?_ | refine Ix.map (m := 0) rfl (by (try simp only [smT]); omega) ?_ | refine Ix.lit (m := 0) rfl rfl ?_ | refine Ixo.mk ⟨_, rfl, (by (try simp only [smT]); omega), ?_⟩ | refine Rw.lit rfl ?_ | refine Rw.self (by (try simp only [smT]); omega) ?_ | refine Rw.map (by (try simp only [smT]); omega) ?_ | refine Len.mk (by first | rfl | (simp; done) | (simp only [smT]; assumption) | (simp only [smT]; omega)) ?_ | refine Eqv.mk (by kernel_rfl) ?_ | refine Apd.mk (by first | rfl | simp) (by first | rfl | simp) (by (try simp only [smT]); first | omega | (simp; omega)) (by unfold maxLen; first | (simp; done) | (simp; omega) | omega) ?_ | refine Raw.capNil (T := tt) rfl rfl rfl rfl ?_ | refine Raw.sliceNil (T := tt) rfl rfl (by first | rfl | omega | (simp; done)) rfl rfl rfl rfl ?_ | (refine Raw.appendR (T := tt) ?_; (conv => whnf); first | refine Rw_ptrs (by omega) ?_ | refine Rw_tsk ht ?_ | refine Rw.lit rfl ?_ | refine Rw.self (by (try simp only [smT]); omega) ?_ | refine Rw.map (by (try simp only [smT]); omega) ?_) | refine Raw.appendIn (T := tt) rfl rfl rfl rfl rfl rfl rfl rfl rfl rfl (by (try simp only [smT]); omega) (by (try simp only [smT]); omega) ?_ | refine Raw.clear (T := tt) rfl rfl rfl rfl rfl rfl rfl (by (try simp only [smT]); omega) ?_ | refine Slc.mk ⟨_, _, rfl, rfl, (by (try simp only [smT]); omega), (by (try simp only [smT]); omega), ?_⟩ | refine Slc.mk ⟨0, _, rfl, rfl, (by (try simp only [smT]); omega), (by (try simp only [smT]); omega), ?_⟩ | refine Slc.mk ⟨1, _, rfl, rfl, (by (try simp only [smT]); omega), (by (try simp only [smT]); omega), ?_⟩ | refine Slc3.mk ⟨_, _, _, rfl, rfl, rfl, (by (try simp only [smT]); omega), (by (try simp only [smT]); omega), (by (try simp only [smT]); omega)⟩ ?_ | refine Drw.of (T := tt) (i := 6) [15, 16, 17, 18] [1] [(0, true), (1, true), (2, true), (3, true), (4, true), (5, true), (6, true), (7, true), (8, true), (9, true), (10, true), (11, true), (12, true), (13, true), (14, true), (15, false), (16, false), (17, false), (18, false)] (by kernel_rfl) ?_ | (refine CL.mk (Or.inr (Raw.callI [1,2] [1,2] rfl rfl rfl rfl rfl rfl rfl (act_T jobs b1 b2 b3 b4 (b5.set n ⟨job, begun, guarding, ended, cancelled, l, ws⟩) b6 n (by simp; omega) (by simp; omega) (by omega) v3 ak m o1 o3 hw9 z1 z2 z3 z4 z5 z6 b hr _ _ (by simp) (by simp [List.map_set, Tsk.row, List.take_of_length_le])) ?_)); rintro _ _ ⟨rfl, rfl⟩; refine Bk.mk rfl rfl ?_))
      all_goals (conv => whnf)
      · subst hb
        simp only [if_true, Sm.mk.injEq] at he
        obtain ⟨rfl, rfl, rfl, rfl, rfl, rfl⟩ := he
        exact RetO.mk ⟨[], _, _, .ts .nil, LeO.fm rfl rfl (LeO.fm rfl rfl .nil), rfl, rfl⟩
      · subst hb
        simp only [Bool.false_eq_true, if_false] at he
        have a1 := actM_left jobs ⟨b1, b2, b3, b4, b5.set n ⟨job, begun, guarding, ended, cancelled, l, ws⟩, b6⟩ n m ak ⟨job, begun, guarding, ended, cancelled, l, ws⟩ (by simp [hn])
        have a2 := actM_len jobs ⟨b1, b2, b3, b4, b5.set n ⟨job, begun, guarding, ended, cancelled, l, ws⟩, b6⟩ n m ak (by simpa using v1)
        have a3 := actM_log jobs ⟨b1, b2, b3, b4, b5.set n ⟨job, begun, guarding, ended, cancelled, l, ws⟩, b6⟩ n m ak
        have a4 := actM_small jobs ⟨b1, b2, b3, b4, b5.set n ⟨job, begun, guarding, ended, cancelled, l, ws⟩, b6⟩ n m ak v3
        have a5 := actM_wait jobs ⟨b1, b2, b3, b4, b5.set n ⟨job, begun, guarding, ended, cancelled, l, ws⟩, b6⟩ n m _ ak hw8
        rw [hr] at a1 a2 a3 a4 a5
        obtain ⟨u, u1, u2, _⟩ := a1
        have hv : Inv jobs n l ⟨z1, z2, z3, z4, z5, z6⟩ := ⟨⟨u, u1, u2⟩, a2.2, by dsimp only at a3 ⊢; omega, a4, fun t h => by have := a5 t h; omega, fun a h => v5 a (by simp [h])⟩
        exact ⟨(l, ⟨z1, z2, z3, z4, z5, z6⟩), ⟨hv, he⟩, by simp, [(1, .k 1), (2, .k 2)], ⟨by (try dsimp only); (repeat (refine LeT.cons rfl (by first | exact LeS.d (by first | exact LeD.u rfl | exact LeD.p rfl | exact LeD.ow rfl rfl | exact LeD.ow rfl (by simp) | exact LeD.no rfl rfl | exact LeD.nl (by first | rfl | simp) | exact LeD.u (by simp; done) | exact LeD.u (by congr 1; omega) | exact LeD.q rfl | exact LeD.r rfl | exact LeD.r (by simp; done) | exact LeD.re | exact LeD.ows rfl rfl rfl | exact LeD.u (by congr 1; congr 1; simp) | exact LeD.fn (by repeat (first | exact LeN.nil | refine LeN.cons rfl ?_))) | exact LeS.a (by repeat (first | exact LeL.nil | refine LeL.cons (by first | exact LeD.u rfl | exact LeD.p rfl | exact LeD.ow rfl rfl | exact LeD.ow rfl (by simp) | exact LeD.no rfl rfl | exact LeD.nl (by first | rfl | simp) | exact LeD.u (by simp; done) | exact LeD.u (by congr 1; omega) | exact LeD.q rfl | exact LeD.r rfl | exact LeD.r (by simp; done) | exact LeD.re | exact LeD.ows rfl rfl rfl | exact LeD.u (by congr 1; congr 1; simp) | exact LeD.fn (by repeat (first | exact LeN.nil | refine LeN.cons rfl ?_))) ?_))) ?_)); exact LeT.nil, by (try dsimp only); repeat (first | exact LeO.nil | refine LeO.bx rfl rfl (by repeat (first | exact LeL.nil | refine LeL.cons (by first | exact LeD.u rfl | exact LeD.p rfl | exact LeD.ow rfl rfl | exact LeD.ow rfl (by simp) | exact LeD.no rfl rfl | exact LeD.nl (by first | rfl | simp) | exact LeD.u (by simp; done) | exact LeD.u (by congr 1; omega) | exact LeD.q rfl | exact LeD.r rfl | exact LeD.r (by simp; done) | exact LeD.re | exact LeD.ows rfl rfl rfl | exact LeD.u (by congr 1; congr 1; simp) | exact LeD.fn (by repeat (first | exact LeN.nil | refine LeN.cons rfl ?_))) ?_)) ?_ | refine LeO.ar rfl rfl (by first | rfl | simp) ?_ | refine LeO.fm rfl (by first | rfl | simp) ?_ | refine LeO.no rfl rfl ?_)⟩⟩
end Go.Proofs.Ytgiebofmfkacgaa
namespace Go.Proofs.Ytgiebofmfkacgaa
open Go.RowKit

theorem proceedC_T (jobs : List Jb) (now ser : Int) (rs : List Int) (ts : List Tm) (tasks : List Tsk) (log : List Rc) (n : Nat) (job : Int) (begun guarding ended : Bool) (left : List Ac) (ws : List Int) (hc : begun = false ∨ (begun = true ∧ guarding = true)) (ht : tasks[n]? = some ⟨job, begun, guarding, ended, true, left, ws⟩) (hl : log.length ≤ 900000) (hs : Small ⟨now, ser, rs, ts⟩) (y1 y2 : Int) (y3 : List Int) (y4 : List Tm) (e : wakes ⟨now, ser, rs, ts⟩ ws = ⟨y1, y2, y3, y4⟩) (r1 r2 : List (List E)) (e1 : r1 = [smRow jobs now ser rs ts tasks.length log]) (e2 : r2 = tasks.map Tsk.row) :
    CallsA Try.prog 47 [smP, di n] [(1, .fm 80 r1), (2, .fm 104 r2)] (Iso (.t []) (smOb jobs y1 y2 y3 y4 ((tasks.set n ⟨job, begun, guarding, ended, false, left, ws⟩).set n ⟨job, begun, guarding, true, false, left, []⟩) ((log ++ [⟨now, n, 4, 0⟩]) ++ [⟨now, n, 3, 0⟩]))) := by
  subst e1 e2
  have hn := lt_of_get ht
  have ht2 : (tasks.set n ⟨job, begun, guarding, ended, false, left, ws⟩)[n]? = some ⟨job, begun, guarding, ended, false, left, ws⟩ := by simp [hn]
  rcases hc with rfl | ⟨rfl, rfl⟩
  all_goals (
    refine callsA_of_vcO (T := tt) Try.func47 rfl rfl rfl rfl rfl ?_
    repeat' ((conv => whnf); first | refine Rw_ptrs (by omega) ?_ | refine Rw_tsk ht ?_ | refine Rw_mset hn ?_ | refine Gs.id ?_ | with_reducible refine And.intro ?_ ?_ | with_reducible refine Brn.T rfl ?_ | with_reducible refine Brn.F rfl ?_ | refine Brn.T (by (try simp only [smT]); first | rfl | assumption | omega | (simp only [*]; done) | (simp [*]; done) | fail) ?_ | refine Brn.F (by (try simp only [smT]); first | rfl | assumption | omega | (simp only [*]; done) | (simp [*]; done) | fail) ?_ | (refine Brn.mk (fun hb => ?_) (fun hb => ?_) <;> (try simp only [smT] at hb) <;> (try (exact absurd trivial hb)) <;> (try (exfalso; omega))) | (refine Bnd.mk (fun hm => ?_); (try simp only [smT] at hm)) | refine Rng.mk (by (try simp only [smT]); omega) ?_ | refine Ix.map rfl (by (try simp only [smT]); omega) ?_ | refine Ix.map (m := 0) rfl (by (try simp only [smT]); omega) ?_ | refine Ix.lit (m := 0) rfl rfl ?_ | refine Ixo.mk ⟨_, rfl, (by (try simp only [smT]); omega), ?_⟩ | refine Rw.lit rfl ?_ | refine Rw.self (by (try simp only [smT]); omega) ?_ | refine Rw.map (by (try simp only [smT]); omega) ?_ | refine Len.mk (by first | rfl | (simp; done) | (simp only [smT]; assumption) | (simp only [smT]; omega)) ?_ | refine Eqv.mk (by kernel_rfl) ?_ | refine Apd.mk (by first | rfl | simp) (by first | rfl | simp) (by (try simp only [smT]); first | omega | (simp; omega)) (by unfold maxLen; first | (simp; done) | (simp; omega) | omega) ?_ | refine Raw.capNil (T := tt) rfl rfl rfl rfl ?_ | refine Raw.sliceNil (T := tt) rfl rfl (by first | rfl | omega | (simp; done)) rfl rfl rfl rfl ?_ | (refine Raw.appendR (T := tt) ?_; (conv => whnf); first | refine Rw_ptrs (by omega) ?_ | refine Rw_tsk ht ?_ | refine Rw_mset hn ?_ | refine Rw.lit rfl ?_ | refine Rw.self (by (try simp only [smT]); omega) ?_ | refine Rw.map (by (try simp only [smT]); omega) ?_) | refine Raw.appendIn (T := tt) rfl rfl rfl rfl rfl rfl rfl rfl rfl rfl (by (try simp only [smT]); omega) (by (try simp only [smT]); omega) ?_ | refine Raw.clear (T := tt) rfl rfl rfl rfl rfl rfl rfl (by (try simp only [smT]); omega) ?_ | refine Slc.mk ⟨_, _, rfl, rfl, (by (try simp only [smT]); omega), (by (try simp only [smT]); omega), ?_⟩ | refine Slc.mk ⟨0, _, rfl, rfl, (by (try simp only [smT]); omega), (by (try simp only [smT]); omega), ?_⟩ | refine Slc.mk ⟨1, _, rfl, rfl, (by (try simp only [smT]); omega), (by (try simp only [smT]); omega), ?_⟩ | refine Slc3.mk ⟨_, _, _, rfl, rfl, rfl, (by (try simp only [smT]); omega), (by (try simp only [smT]); omega), (by (try simp only [smT]); omega)⟩ ?_ | refine Drw.of (T := tt) (i := 6) [15, 16, 17, 18] [1] [(0, true), (1, true), (2, true), (3, true), (4, true), (5, true), (6, true), (7, true), (8, true), (9, true), (10, true), (11, true), (12, true), (13, true), (14, true), (15, false), (16, false), (17, false), (18, false)] (by kernel_rfl) ?_ | (refine CL.mk (Or.inr (Raw.callI [1,2] [1,2] rfl rfl rfl rfl rfl rfl rfl (note_T' jobs now ser rs ts (tasks.set n ⟨job, false, guarding, ended, false, left, ws⟩) log _ 4 0 (by omega) _ _ (by simp) (by simp [List.map_set, Tsk.row])) ?_)); rintro _ _ ⟨rfl, rfl⟩; refine Bk.mk rfl rfl ?_) | (refine CL.mk (Or.inr (Raw.callI [1,2] [1,2] rfl rfl rfl rfl rfl rfl rfl (note_T' jobs now ser rs ts (tasks.set n ⟨job, true, true, ended, false, left, ws⟩) log _ 4 0 (by omega) _ _ (by simp) (by simp [List.map_set, Tsk.row])) ?_)); rintro _ _ ⟨rfl, rfl⟩; refine Bk.mk rfl rfl ?_) | (refine CL.mk (Or.inr (Raw.callI [1,2] [1,2] rfl rfl rfl rfl rfl rfl rfl (end_T jobs now ser rs ts _ (log ++ [⟨now, n, 4, 0⟩]) n job _ _ ended false left ws ht2 (by simp; omega) hs y1 y2 y3 y4 e _ _ rfl rfl) ?_)); rintro _ _ ⟨rfl, rfl⟩; refine Bk.mk rfl rfl ?_))
    all_goals (conv => whnf)
    all_goals exact RetO.mk ⟨[], _, _, .ts .nil, LeO.fm rfl rfl (LeO.fm rfl rfl .nil), rfl, rfl⟩)
end Go.Proofs.Ytgiebofmfkacgaa
namespace Go.Proofs.Ytgiebofmfkacgaa
open Go.RowKit

set_option maxHeartbeats 1000000 in
theorem proceedD_T (jobs : List Jb) (now ser : Int) (rs : List Int) (ts : List Tm) (tasks : List Tsk) (log : List Rc) (n : Nat) (j : Nat) (hj : j < jobs.length) (ended : Bool) (left : List Ac) (ws : List Int) (ht : tasks[n]? = some ⟨j, true, false, ended, true, left, ws⟩) (hl : log.length ≤ 1000000) (hi : Inv jobs n jobs[j].guard ⟨now, ser, rs, ts, (tasks.set n ⟨j, true, false, ended, false, left, ws⟩).set n ⟨j, true, true, ended, false, jobs[j].guard, ws⟩, log ++ [⟨now, n, 4, 0⟩]⟩) (y1 y2 : Int) (y3 : List Int) (y4 : List Tm) (ys : List Tsk) (yl : List Rc) (e : goM jobs n jobs[j].guard ⟨now, ser, rs, ts, (tasks.set n ⟨j, true, false, ended, false, left, ws⟩).set n ⟨j, true, true, ended, false, jobs[j].guard, ws⟩, log ++ [⟨now, n, 4, 0⟩]⟩ = ⟨y1, y2, y3, y4, ys, yl⟩) (r1 r2 : List (List E)) (e1 : r1 = [smRow jobs now ser rs ts tasks.length log]) (e2 : r2 = tasks.map Tsk.row) :
    CallsA Try.prog 47 [smP, di n] [(1, .fm 80 r1), (2, .fm 104 r2)] (Iso (.t []) (smOb jobs y1 y2 y3 y4 ys yl)) := by
  subst e1 e2
  have hn := lt_of_get ht
  refine callsA_of_vcO (T := tt) Try.func47 rfl rfl rfl rfl rfl ?_
  repeat' ((conv => whnf); first | refine Rw_ptrs (by omega) ?_ | refine Rw_tsk ht ?_ | refine Rw_mset hn ?_ | refine Rw.self (by simpa using hn) ?_ | refine Gs.id ?_ | with_reducible refine And.intro ?_ ?_ | with_reducible refine Brn.T rfl ?_ | with_reducible refine Brn.F rfl ?_ | refine Brn.T (by (try simp only [smT]); first | rfl | assumption | omega | (simp only [*]; done) | (simp [*]; done) | fail) ?_ | refine Brn.F (by (try simp only [smT]); first | rfl | assumption | omega | (simp only [*]; done) | (simp [*]; done) | fail) ?_ | (refine Brn.mk (fun hb => ?_) (fun hb => ?_) <;> (try simp only [smT] at hb) <;> (try (exact absurd trivial hb)) <;> (try (exfalso; omega))) | (refine Bnd.mk (fun hm => ?_); (try simp only [smT] at hm)) | refine Rng.mk (by (try simp only [smT]); omega) ?_ | refine Ix.map rfl (by (try simp only [smT]); omega) ?_ | refine Ix.map (m := 0) rfl (by (try simp only [smT]); omega) ?_ | refine Ix.lit (m := 0) rfl rfl ?_ | refine Ixo.mk ⟨_, rfl, (by (try simp only [smT]); omega), ?_⟩ | refine Rw.lit rfl ?_ | refine Rw.self (by (try simp only [smT]); omega) ?_ | refine Rw.map (by (try simp only [smT]); omega) ?_ | refine Len.mk (by first | rfl | (simp; done) | (simp only [smT]; assumption) | (simp only [smT]; omega)) ?_ | refine Eqv.mk (by kernel_rfl) ?_ | refine Apd.mk (by first | rfl | simp) (by first | rfl | simp) (by (try simp only [smT]); first | omega | (simp; omega)) (by unfold maxLen; first | (simp; done) | (simp; omega) | omega) ?_ | refine Raw.capNil (T := tt) rfl rfl rfl rfl ?_ | refine Raw.sliceNil (T := tt) rfl rfl (by first | rfl | omega | (simp; done)) rfl rfl rfl rfl ?_ | (refine Raw.appendR (T := tt) ?_; (conv => whnf); first | refine Rw_ptrs (by omega) ?_ | refine Rw_tsk ht ?_ | refine Rw_mset hn ?_ | refine Rw.self (by simpa using hn) ?_ | refine Rw.lit rfl ?_ | refine Rw.self (by (try simp only [smT]); omega) ?_ | refine Rw.map (by (try simp only [smT]); omega) ?_) | refine Raw.appendIn (T := tt) rfl rfl rfl rfl rfl rfl rfl rfl rfl rfl (by (try simp only [smT]); omega) (by (try simp only [smT]); omega) ?_ | refine Raw.clear (T := tt) rfl rfl rfl rfl rfl rfl rfl (by (try simp only [smT]); omega) ?_ | refine Slc.mk ⟨_, _, rfl, rfl, (by (try simp only [smT]); omega), (by (try simp only [smT]); omega), ?_⟩ | refine Slc.mk ⟨0, _, rfl, rfl, (by (try simp only [smT]); omega), (by (try simp only [smT]); omega), ?_⟩ | refine Slc.mk ⟨1, _, rfl, rfl, (by (try simp only [smT]); omega), (by (try simp only [smT]); omega), ?_⟩ | refine Slc3.mk ⟨_, _, _, rfl, rfl, rfl, (by (try simp only [smT]); omega), (by (try simp only [smT]); omega), (by (try simp only [smT]); omega)⟩ ?_ | refine Drw.of (T := tt) (i := 6) [15, 16, 17, 18] [1] [(0, true), (1, true), (2, true), (3, true), (4, true), (5, true), (6, true), (7, true), (8, true), (9, true), (10, true), (11, true), (12, true), (13, true), (14, true), (15, false), (16, false), (17, false), (18, false)] (by kernel_rfl) ?_ | (refine CL.mk (Or.inr (Raw.callI [1,2] [1,2] rfl rfl rfl rfl rfl rfl rfl (note_T' jobs now ser rs ts (tasks.set n ⟨j, true, false, ended, false, left, ws⟩) log _ 4 0 (by omega) _ _ (by simp) (by simp [List.map_set, Tsk.row])) ?_)); rintro _ _ ⟨rfl, rfl⟩; refine Bk.mk rfl rfl ?_))
  all_goals (conv => whnf)
  · refine ⟨⟨List Ac × Sm, fun q => Inv jobs n q.1 q.2 ∧ goM jobs n q.1 q.2 = ⟨y1, y2, y3, y4, ys, yl⟩, fun q => q.1.length, fun q => ⟨[(0, smP), (1, di n), (4, .d (.u (.m 2 n 0)))], smOb jobs q.2.now q.2.ser q.2.rs q.2.ts q.2.tasks q.2.log⟩, (jobs[j].guard, ⟨now, ser, rs, ts, (tasks.set n ⟨j, true, false, ended, false, left, ws⟩).set n ⟨j, true, true, ended, false, jobs[j].guard, ws⟩, log ++ [⟨now, n, 4, 0⟩]⟩), ⟨hi, e⟩, ⟨[(1, .k 1), (2, .k 2)], ⟨by (try dsimp only); (repeat (refine LeT.cons rfl (by first | exact LeS.d (by first | exact LeD.u rfl | exact LeD.p rfl | exact LeD.ow rfl rfl | exact LeD.ow rfl (by simp [List.map_set, Tsk.row]) | exact LeD.no rfl rfl | exact LeD.nl (by first | rfl | simp [List.map_set, Tsk.row]) | exact LeD.u (by simp [List.map_set, Tsk.row]; done) | exact LeD.u (by congr 1; omega) | exact LeD.q rfl | exact LeD.r rfl | exact LeD.r (by simp [List.map_set, Tsk.row]; done) | exact LeD.re | exact LeD.ows rfl rfl rfl | exact LeD.u (by congr 1; congr 1; simp) | exact LeD.fn (by repeat (first | exact LeN.nil | refine LeN.cons rfl ?_))) | exact LeS.a (by repeat (first | exact LeL.nil | refine LeL.cons (by first | exact LeD.u rfl | exact LeD.p rfl | exact LeD.ow rfl rfl | exact LeD.ow rfl (by simp [List.map_set, Tsk.row]) | exact LeD.no rfl rfl | exact LeD.nl (by first | rfl | simp [List.map_set, Tsk.row]) | exact LeD.u (by simp [List.map_set, Tsk.row]; done) | exact LeD.u (by congr 1; omega) | exact LeD.q rfl | exact LeD.r rfl | exact LeD.r (by simp [List.map_set, Tsk.row]; done) | exact LeD.re | exact LeD.ows rfl rfl rfl | exact LeD.u (by congr 1; congr 1; simp) | exact LeD.fn (by repeat (first | exact LeN.nil | refine LeN.cons rfl ?_))) ?_))) ?_)); exact LeT.nil, by (try dsimp only); repeat (first | exact LeO.nil | refine LeO.bx rfl rfl (by repeat (first | exact LeL.nil | refine LeL.cons (by first | exact LeD.u rfl | exact LeD.p rfl | exact LeD.ow rfl rfl | exact LeD.ow rfl (by simp [List.map_set, Tsk.row]) | exact LeD.no rfl rfl | exact LeD.nl (by first | rfl | simp [List.map_set, Tsk.row]) | exact LeD.u (by simp [List.map_set, Tsk.row]; done) | exact LeD.u (by congr 1; omega) | exact LeD.q rfl | exact LeD.r rfl | exact LeD.r (by simp [List.map_set, Tsk.row]; done) | exact LeD.re | exact LeD.ows rfl rfl rfl | exact LeD.u (by congr 1; congr 1; simp) | exact LeD.fn (by repeat (first | exact LeN.nil | refine LeN.cons rfl ?_))) ?_)) ?_ | refine LeO.ar rfl rfl (by first | rfl | simp [List.map_set, Tsk.row]) ?_ | refine LeO.fm rfl (by first | rfl | simp [List.map_set, Tsk.row]) ?_ | refine LeO.no rfl rfl ?_)⟩⟩, fun ⟨l, s⟩ ⟨hv, he⟩ => ?_⟩⟩
    clear ht hi e hn
    obtain ⟨b1, b2, b3, b4, b5, b6⟩ := s
    obtain ⟨⟨⟨job, begun, guarding, ended, cancelled, lf, ws⟩, ht, hl0⟩, v1, v2, v3, v4, v5⟩ := hv
    dsimp only at hl0
    subst hl0
    dsimp only at ht v1 v2 v3 v4 v5 he ⊢
    have hn := lt_of_get ht
    cases lf with
    | nil =>
      rw [goM, endM] at he
      dsimp only at he
      rw [ht] at he
      dsimp only at he
      generalize hw : wakes ⟨b1, b2, b3, b4⟩ ws = w at he
      obtain ⟨w1, w2, w3, w4⟩ := w
      injection he with q1 q2 q3 q4 q5 q6
      subst q1 q2 q3 q4 q5 q6
      repeat' ((conv => whnf); first | refine Rw_ptrs (by omega) ?_ | refine Rw_tsk ht ?_ | refine Gs.id ?_ | with_reducible refine And.intro ?_ ?_ | with_reducible refine Brn.T rfl ?_ | with_reducible refine Brn.F rfl ?_ | refine Brn.T (by (try simp only [smT]); first | rfl | assumption | omega | (simp only [*]; done) | (simp [*]; done) | fail) ?_ | refine Brn.F (by (try simp only [smT]); first | rfl | assumption | omega | (simp only [*]; done) | (simp [*]; done) | fail) ?_ | (refine Brn.mk (fun hb => ?_) (fun hb => ?_) <;> (try simp only [smT] at hb) <;> (try (exact absurd trivial hb)) <;> (try (exfalso; omega))) | (refine Bnd.mk (fun hm => ?_); (try simp only [smT] at hm)) | refine Rng.mk (by (try simp only [smT]); omega) ?_ | refine Ix.map rfl (by (try simp only [smT]); omega) ?_ | refine Ix.map (m := 0) rfl (by (try simp only [smT]); omega) ?_ | refine Ix.lit (m := 0) rfl rfl ?_ | refine Ixo.mk ⟨_, rfl, (by (try simp only [smT]); omega), ?_⟩ | refine Rw.lit rfl ?_ | refine Rw.self (by (try simp only [smT]); omega) ?_ | refine Rw.map (by (try simp only [smT]); omega) ?_ | refine Len.mk (by first | rfl | (simp; done) | (simp only [smT]; assumption) | (simp only [smT]; omega)) ?_ | refine Eqv.mk (by kernel_rfl) ?_ | refine Apd.mk (by first | rfl | simp) (by first | rfl | simp) (by (try simp only [smT]); first | omega | (simp; omega)) (by unfold maxLen; first | (simp; done) | (simp; omega) | omega) ?_ | refine Raw.capNil (T := tt) rfl rfl rfl rfl ?_ | refine Raw.sliceNil (T := tt) rfl rfl (by first | rfl | omega | (simp; done)) rfl rfl rfl rfl ?_ | (refine Raw.appendR (T := tt) ?_; (conv => whnf); first | refine Rw_ptrs (by omega) ?_ | refine Rw_tsk ht ?_ | refine Rw.lit rfl ?_ | refine Rw.self (by (try simp only [smT]); omega) ?_ | refine Rw.map (by (try simp only [smT]); omega) ?_) | refine Raw.appendIn (T := tt) rfl rfl rfl rfl rfl rfl rfl rfl rfl rfl (by (try simp only [smT]); omega) (by (try simp only [smT]); omega) ?_ | refine Raw.clear (T := tt) rfl rfl rfl rfl rfl rfl rfl (by (try simp only [smT]); omega) ?_ | refine Slc.mk ⟨_, _, rfl, rfl, (by (try simp only [smT]); omega), (by (try simp only [smT]); omega), ?_⟩ | refine Slc.mk ⟨0, _, rfl, rfl, (by (try simp only [smT]); omega), (by (try simp only [smT]); omega), ?_⟩ | refine Slc.mk ⟨1, _, rfl, rfl, (by (try simp only [smT]); omega), (by (try simp only [smT]); omega), ?_⟩ | refine Slc3.mk ⟨_, _, _, rfl, rfl, rfl, (by (try simp only [smT]); omega), (by (try simp only [smT]); omega), (by (try simp only [smT]); omega)⟩ ?_ | refine Drw.of (T := tt) (i := 6) [15, 16, 17, 18] [1] [(0, true), (1, true), (2, true), (3, true), (4, true), (5, true), (6, true), (7, true), (8, true), (9, true), (10, true), (11, true), (12, true), (13, true), (14, true), (15, false), (16, false), (17, false), (18, false)] (by kernel_rfl) ?_ | (refine CL.mk (Or.inr (Raw.callI [1,2] [1,2] rfl rfl rfl rfl rfl rfl rfl (end_T jobs _ _ _ _ b5 b6 n job begun guarding ended cancelled [] ws ht (by simp at v2; omega) v3 w1 w2 w3 w4 hw _ _ rfl rfl) ?_)); rintro _ _ ⟨rfl, rfl⟩; refine Bk.mk rfl rfl ?_))
      all_goals (conv => whnf)
      all_goals exact RetO.mk ⟨[], _, _, .ts .nil, LeO.fm rfl rfl (LeO.fm rfl rfl .nil), rfl, rfl⟩
    | cons a l =>
      obtain ⟨ak, an⟩ := a
      have hok := v5 ⟨ak, an⟩ (by simp)
      obtain ⟨o1, o2, o3⟩ := hok
      dsimp only at o1 o2 o3
      obtain ⟨m, rfl⟩ : ∃ m : Nat, an = (m : Int) := ⟨an.toNat, by omega⟩
      rw [goM] at he
      dsimp only at he
      rw [ht] at he
      simp only [Sm.set, Int.toNat_natCast] at he o3
      have q9 : ∃ z1 z2 z3 z4 z5 z6 b, actM jobs ⟨b1, b2, b3, b4, b5.set n ⟨job, begun, guarding, ended, cancelled, l, ws⟩, b6⟩ n ak m = (⟨z1, z2, z3, z4, z5, z6⟩, b) := ⟨_, _, _, _, _, _, _, rfl⟩
      obtain ⟨z1, z2, z3, z4, z5, z6, b, hr⟩ := q9
      simp only [hr] at he
      simp only [List.length_cons] at v2 v4
      have hw8 : ∀ t ∈ b5.set n ⟨job, begun, guarding, ended, cancelled, l, ws⟩, t.waiters.length ≤ 1000000 - (l.length + 1) := by
        intro t ht'
        rcases List.mem_or_eq_of_mem_set ht' with h | rfl
        · have := v4 t h; omega
        · have := v4 _ (List.mem_of_getElem? ht); dsimp only at this ⊢; omega
      have hw9 : ∀ t ∈ b5.set n ⟨job, begun, guarding, ended, cancelled, l, ws⟩, t.waiters.length ≤ 1000000 := fun t h => by have := hw8 t h; omega
      repeat' ((conv => whnf); first | refine Rw_ptrs (by omega) ?_ | refine Rw_tsk ht ?_ | refine Gs.id ?_ | with_reducible refine And.intro ?_ ?_ | with_reducible refine Brn.T rfl ?_ | with_reducible refine Brn.F rfl ?_ | refine Brn.T (by (try simp only [smT]); first | rfl | assumption | omega | (simp only [*]; done) | (simp [*]; done) | fail) ?_ | refine Brn.F (by (try simp only [smT]); first | rfl | assumption | omega | (simp only [*]; done) | (simp [*]; done) | fail) ?_ | (refine Brn.mk (fun hb => ?_) (fun hb => ?_) <;> (try simp only [smT] at hb) <;> (try (exact absurd trivial hb)) <;> (try (exfalso; omega))) | (refine Bnd.mk (fun hm => ?_); (try simp only [smT] at hm)) | refine Rng.mk (by (try simp only [smT]); omega) ?_ | refine Ix.map rfl (by (try simp only [smT]); omega) ?_ | refine Ix.map (m := 0) rfl (by (try simp only [smT]); omega) ?_ | refine Ix.lit (m := 0) rfl rfl ?_ | refine Ixo.mk ⟨_, rfl, (by (try simp only [smT]); omega), ?_⟩ | refine Rw.lit rfl ?_ | refine Rw.self (by (try simp only [smT]); omega) ?_ | refine Rw.map (by (try simp only [smT]); omega) ?_ | refine Len.mk (by first | rfl | (simp; done) | (simp only [smT]; assumption) | (simp only [smT]; omega)) ?_ | refine Eqv.mk (by kernel_rfl) ?_ | refine Apd.mk (by first | rfl | simp) (by first | rfl | simp) (by (try simp only [smT]); first | omega | (simp; omega)) (by unfold maxLen; first | (simp; done) | (simp; omega) | omega) ?_ | refine Raw.capNil (T := tt) rfl rfl rfl rfl ?_ | refine Raw.sliceNil (T := tt) rfl rfl (by first | rfl | omega | (simp; done)) rfl rfl rfl rfl ?_ | (refine Raw.appendR (T := tt) ?_; (conv => whnf); first | refine Rw_ptrs (by omega) ?_ | refine Rw_tsk ht ?_ | refine Rw.lit rfl ?_ | refine Rw.self (by (try simp only [smT]); omega) ?_ | refine Rw.map (by (try simp only [smT]); omega) ?_) | refine Raw.appendIn (T := tt) rfl rfl rfl rfl rfl rfl rfl rfl rfl rfl (by (try simp only [smT]); omega) (by (try simp only [smT]); omega) ?_ | refine Raw.clear (T := tt) rfl rfl rfl rfl rfl rfl rfl (by (try simp only [smT]); omega) ?_ | refine Slc.mk ⟨_, _, rfl, rfl, (by (try simp only [smT]); omega), (by (try simp only [smT]); omega), ?_⟩ | refine Slc.mk ⟨0, _, rfl, rfl, (by (try simp only [smT]); omega), (by (try simp only [smT]); omega), ?_⟩ | refine Slc.mk ⟨1, _, rfl, rfl, (by (try simp only [smT]); omega), (by (try simp only [smT]); omega), ?_⟩ | refine Slc3.mk ⟨_, _, _, rfl, rfl, rfl, (by (try simp only [smT]); omega), (by (try simp only [smT]); omega), (by (try simp only [smT]); omega)⟩ ?_ | refine Drw.of (T := tt) (i := 6) [15, 16, 17, 18] [1] [(0, true), (1, true), (2, true), (3, true), (4, true), (5, true), (6, true), (7, true), (8, true), (9, true), (10, true), (11, true), (12, true), (13, true), (14, true), (15, false), (16, false), (17, false), (18, false)] (by kernel_rfl) ?_ | (refine CL.mk (Or.inr (Raw.callI [1,2] [1,2] rfl rfl rfl rfl rfl rfl rfl (act_T jobs b1 b2 b3 b4 (b5.set n ⟨job, begun, guarding, ended, cancelled, l, ws⟩) b6 n (by simp; omega) (by simp; omega) (by omega) v3 ak m o1 o3 hw9 z1 z2 z3 z4 z5 z6 b hr _ _ (by simp) (by simp [List.map_set, Tsk.row, List.take_of_length_le])) ?_)); rintro _ _ ⟨rfl, rfl⟩; refine Bk.mk rfl rfl ?_))
      all_goals (conv => whnf)
      · subst hb
        simp only [if_true, Sm.mk.injEq] at he
        obtain ⟨rfl, rfl, rfl, rfl, rfl, rfl⟩ := he
        exact RetO.mk ⟨[], _, _, .ts .nil, LeO.fm rfl rfl (LeO.fm rfl rfl .nil), rfl, rfl⟩
      · subst hb
        simp only [Bool.false_eq_true, if_false] at he
        have a1 := actM_left jobs ⟨b1, b2, b3, b4, b5.set n ⟨job, begun, guarding, ended, cancelled, l, ws⟩, b6⟩ n m ak ⟨job, begun, guarding, ended, cancelled, l, ws⟩ (by simp [hn])
        have a2 := actM_len jobs ⟨b1, b2, b3, b4, b5.set n ⟨job, begun, guarding, ended, cancelled, l, ws⟩, b6⟩ n m ak (by simpa using v1)
        have a3 := actM_log jobs ⟨b1, b2, b3, b4, b5.set n ⟨job, begun, guarding, ended, cancelled, l, ws⟩, b6⟩ n m ak
        have a4 := actM_small jobs ⟨b1, b2, b3, b4, b5.set n ⟨job, begun, guarding, ended, cancelled, l, ws⟩, b6⟩ n m ak v3
        have a5 := actM_wait jobs ⟨b1, b2, b3, b4, b5.set n ⟨job, begun, guarding, ended, cancelled, l, ws⟩, b6⟩ n m _ ak hw8
        rw [hr] at a1 a2 a3 a4 a5
        obtain ⟨u, u1, u2, _⟩ := a1
        have hv : Inv jobs n l ⟨z1, z2, z3, z4, z5, z6⟩ := ⟨⟨u, u1, u2⟩, a2.2, by dsimp only at a3 ⊢; omega, a4, fun t h => by have := a5 t h; omega, fun a h => v5 a (by simp [h])⟩
        exact ⟨(l, ⟨z1, z2, z3, z4, z5, z6⟩), ⟨hv, he⟩, by simp, [(1, .k 1), (2, .k 2)], ⟨by (try dsimp only); (repeat (refine LeT.cons rfl (by first | exact LeS.d (by first | exact LeD.u rfl | exact LeD.p rfl | exact LeD.ow rfl rfl | exact LeD.ow rfl (by simp) | exact LeD.no rfl rfl | exact LeD.nl (by first | rfl | simp) | exact LeD.u (by simp; done) | exact LeD.u (by congr 1; omega) | exact LeD.q rfl | exact LeD.r rfl | exact LeD.r (by simp; done) | exact LeD.re | exact LeD.ows rfl rfl rfl | exact LeD.u (by congr 1; congr 1; simp) | exact LeD.fn (by repeat (first | exact LeN.nil | refine LeN.cons rfl ?_))) | exact LeS.a (by repeat (first | exact LeL.nil | refine LeL.cons (by first | exact LeD.u rfl | exact LeD.p rfl | exact LeD.ow rfl rfl | exact LeD.ow rfl (by simp) | exact LeD.no rfl rfl | exact LeD.nl (by first | rfl | simp) | exact LeD.u (by simp; done) | exact LeD.u (by congr 1; omega) | exact LeD.q rfl | exact LeD.r rfl | exact LeD.r (by simp; done) | exact LeD.re | exact LeD.ows rfl rfl rfl | exact LeD.u (by congr 1; congr 1; simp) | exact LeD.fn (by repeat (first | exact LeN.nil | refine LeN.cons rfl ?_))) ?_))) ?_)); exact LeT.nil, by (try dsimp only); repeat (first | exact LeO.nil | refine LeO.bx rfl rfl (by repeat (first | exact LeL.nil | refine LeL.cons (by first | exact LeD.u rfl | exact LeD.p rfl | exact LeD.ow rfl rfl | exact LeD.ow rfl (by simp) | exact LeD.no rfl rfl | exact LeD.nl (by first | rfl | simp) | exact LeD.u (by simp; done) | exact LeD.u (by congr 1; omega) | exact LeD.q rfl | exact LeD.r rfl | exact LeD.r (by simp; done) | exact LeD.re | exact LeD.ows rfl rfl rfl | exact LeD.u (by congr 1; congr 1; simp) | exact LeD.fn (by repeat (first | exact LeN.nil | refine LeN.cons rfl ?_))) ?_)) ?_ | refine LeO.ar rfl rfl (by first | rfl | simp) ?_ | refine LeO.fm rfl (by first | rfl | simp) ?_ | refine LeO.no rfl rfl ?_)⟩⟩
end Go.Proofs.Ytgiebofmfkacgaa
namespace Go.Proofs.Ytgiebofmfkacgaa
open Go.RowKit

theorem woken_valid {c : Ck} {n : Int} (h : Valid c) (hn : 0 ≤ n ∧ n ≤ 1000000000000000) (hh : has c.rs n = false) (hl : c.rs.length + (wokenT n c.ts).length < 1000) : Valid ⟨c.now, c.ser, c.rs ++ [n], wokenT n c.ts⟩ := by
  have hsub : (wokenT n c.ts).Sublist c.ts := List.filter_sublist
  have hmap := hsub.map (·.task)
  have hnr : n ∉ c.rs := fun hm => by
    have : has c.rs n = true := by simp only [has, List.any_eq_true]; exact ⟨n, hm, by simp⟩
    rw [hh] at this; cases this
  have hnt : n ∉ (wokenT n c.ts).map (·.task) := fun hm => by
    obtain ⟨t, h1, h2⟩ := List.mem_map.1 hm
    have := (List.mem_filter.1 h1).2
    simp [h2] at this
  refine ⟨h.now, h.ser, by simp; omega, fun x hx => ?_, ?_, fun t ht => h.times t (hsub.subset ht), h.sorted.sublist hsub⟩
  · simp only [List.mem_append, List.mem_singleton] at hx
    rcases hx with (hx | hx) | hx
    · exact h.tasks x (List.mem_append_left _ hx)
    · subst hx; exact (timeB_iff x).2 hn
    · exact h.tasks x (List.mem_append_right _ (hmap.subset hx))
  · have h0 : (c.rs ++ (wokenT n c.ts).map (·.task)).Nodup := ((List.Sublist.refl c.rs).append hmap).nodup h.nodup
    obtain ⟨a1, a2, a3⟩ := List.nodup_append.1 h0
    rw [List.append_assoc]
    refine List.nodup_append.2 ⟨a1, ?_, ?_⟩
    · exact List.nodup_cons.2 ⟨hnt, a2⟩
    · intro x hx y hy e
      subst e
      rcases List.mem_cons.1 hy with e | hy
      · subst e; exact hnr hx
      · exact a3 x hx x hy rfl
theorem next_T' (now ser : Int) (rs : List Int) (ts : List Tm) (hs : Small ⟨now, ser, rs, ts⟩) (y1 y2 : Int) (y3 : List Int) (y4 : List Tm) (k : Int) (f : Int × Int) (e : nextM ⟨now, ser, rs, ts⟩ = (⟨y1, y2, y3, y4⟩, (k, f))) : CallsA Try.prog 23 [.a [.u (.int .i64 now), .u (.int .i64 ser), .u (ivs rs), .u (tvs ts)]] [] (Is (.t [.a [.u (.int .i64 y1), .u (.int .i64 y2), .u (ivs y3),   .u (tvs y4)], .d (.u (.int .i64 k)), .a (fd f)])) := by
  have := next_T ⟨now, ser, rs, ts⟩ hs
  rw [e] at this
  exact this
end Go.Proofs.Ytgiebofmfkacgaa
namespace Go.Proofs.Ytgiebofmfkacgaa

def alive (tasks : List Tsk) (x : Int) : Prop := ∃ (i : Nat) (t : Tsk), x = (i : Int) ∧ tasks[i]? = some t ∧ t.ended = false
structure Plc (tasks : List Tsk) (l : List Int) : Prop where
  nd : l.Nodup
  al : ∀ x ∈ l, alive tasks x
theorem Plc.perm {tasks : List Tsk} {l l' : List Int} (h : Plc tasks l) (p : l.Perm l') : Plc tasks l' := ⟨p.nodup_iff.1 h.nd, fun x hx => h.al x (p.mem_iff.2 hx)⟩
theorem Plc.sub {tasks : List Tsk} {l l' : List Int} (h : Plc tasks l) (p : l'.Sublist l) : Plc tasks l' := ⟨h.nd.sublist p, fun x hx => h.al x (p.subset hx)⟩
theorem Plc.up {tasks tasks' : List Tsk} {l : List Int} (h : Plc tasks l) (p : ∀ x ∈ l, alive tasks x → alive tasks' x) : Plc tasks' l := ⟨h.nd, fun x hx => p x hx (h.al x hx)⟩
theorem nodup_len : ∀ (n : Nat) (l : List Int), l.Nodup → (∀ x ∈ l, ∃ i : Nat, x = (i : Int) ∧ i < n) → l.length ≤ n
  | 0, l, _, h => by
    cases l with
    | nil => simp
    | cons x r => obtain ⟨i, _, h2⟩ := h x (by simp); omega
  | n + 1, l, hn, h => by
    by_cases hm : (n : Int) ∈ l
    · have h1 := nodup_len n (l.erase (n : Int)) (hn.erase _) fun x hx => by
        obtain ⟨i, rfl, h2⟩ := h x (List.mem_of_mem_erase hx)
        have : (i : Int) ≠ (n : Int) := (hn.mem_erase_iff.1 hx).1
        exact ⟨i, rfl, by omega⟩
      rw [List.length_erase_of_mem hm] at h1
      omega
    · have := nodup_len n l hn fun x hx => by
        obtain ⟨i, rfl, h2⟩ := h x hx
        refine ⟨i, rfl, ?_⟩
        rcases Nat.lt_or_eq_of_le (Nat.le_of_lt_succ h2) with h3 | h3
        · exact h3
        · subst h3; exact absurd hx hm
      omega
theorem alive_lt {tasks : List Tsk} {x : Int} (h : alive tasks x) : ∃ i : Nat, x = (i : Int) ∧ i < tasks.length := by
  obtain ⟨i, t, h1, h2, _⟩ := h
  exact ⟨i, h1, lt_of_get h2⟩
theorem Plc.len {tasks : List Tsk} {l : List Int} (h : Plc tasks l) : l.length ≤ tasks.length := nodup_len _ l h.nd fun x hx => alive_lt (h.al x hx)
def wts (tasks : List Tsk) : List Int := (tasks.map (·.waiters)).flatten
def pl (s : Sm) : List Int := s.rs ++ s.ts.map (·.task) ++ wts s.tasks
def wk (t : Tsk) : Nat := t.left.length + (if t.guarding then 0 else 30)
def work (tasks : List Tsk) : Nat := (tasks.map wk).sum + (60 - tasks.length) * 60
def pot (s : Sm) : Nat := 2 * work s.tasks + (pl s).length
theorem sum_set {f : Tsk → Nat} : ∀ {l : List Tsk} {n : Nat} {t t' : Tsk}, l[n]? = some t → ((l.set n t').map f).sum + f t = (l.map f).sum + f t'
  | [], n, t, t', h => by simp at h
  | x :: r, 0, t, t', h => by simp at h; subst h; simp; omega
  | x :: r, n + 1, t, t', h => by
    have := sum_set (f := f) (t' := t') (show r[n]? = some t by simpa using h)
    simp only [List.set_cons_succ, List.map_cons, List.sum_cons]
    omega
theorem wts_set : ∀ {l : List Tsk} {n : Nat} {t : Tsk}, l[n]? = some t → ∃ rest, (wts l).Perm (t.waiters ++ rest) ∧ ∀ t' : Tsk, (wts (l.set n t')).Perm (t'.waiters ++ rest)
  | [], n, t, h => by simp at h
  | x :: r, 0, t, h => by
    simp at h; subst h
    exact ⟨wts r, by simp [wts], fun t' => by simp [wts]⟩
  | x :: r, n + 1, t, h => by
    obtain ⟨rest, h1, h2⟩ := wts_set (show r[n]? = some t by simpa using h)
    have key : ∀ (l : List Int) (w : List Int), l.Perm (w ++ rest) → (x.waiters ++ l).Perm (w ++ (x.waiters ++ rest)) := fun l w p => by
      refine (p.append_left x.waiters).trans ?_
      rw [← List.append_assoc, ← List.append_assoc]
      exact (List.perm_append_comm).append_right rest
    exact ⟨x.waiters ++ rest, key _ _ h1, fun t' => key _ _ (h2 t')⟩
theorem wts_same : ∀ {l : List Tsk} {n : Nat} {t t' : Tsk}, l[n]? = some t → t'.waiters = t.waiters → wts (l.set n t') = wts l
  | [], n, t, t', h, _ => by simp at h
  | x :: r, 0, t, t', h, e => by simp at h; subst h; simp [wts, e]
  | x :: r, n + 1, t, t', h, e => by
    have := wts_same (show r[n]? = some t by simpa using h) e
    simp only [wts, List.set_cons_succ, List.map_cons, List.flatten_cons] at this ⊢
    rw [this]
theorem wts_filter : ∀ (l : List Tsk) (m : Int), wts (l.map fun t => { t with waiters := t.waiters.filter fun w => w != m }) = (wts l).filter fun w => w != m
  | [], _ => rfl
  | x :: r, m => by
    have := wts_filter r m
    simp only [wts, List.map_cons, List.flatten_cons, List.filter_append] at this ⊢
    rw [this]
theorem mem_wts {l : List Tsk} {x : Int} : x ∈ wts l ↔ ∃ t ∈ l, x ∈ t.waiters := by
  simp only [wts, List.mem_flatten, List.mem_map]
  exact ⟨fun ⟨w, ⟨t, h1, h2⟩, h3⟩ => ⟨t, h1, h2 ▸ h3⟩, fun ⟨t, h1, h2⟩ => ⟨_, ⟨t, h1, rfl⟩, h2⟩⟩

/-- A valid clock stays so. -/
theorem enq_valid {c : Ck} {n : Int} (h : Valid c) (hn : 0 ≤ n ∧ n ≤ 1000000000000000) (hx : n ∉ c.rs ++ c.ts.map (·.task)) (hl : c.rs.length + c.ts.length < 1000) : Valid (enq c n) := by
  have hx1 : n ∉ c.rs := fun q => hx (List.mem_append_left _ q)
  have hx2 : n ∉ c.ts.map (·.task) := fun q => hx (List.mem_append_right _ q)
  have hnd := h.nodup
  rw [List.nodup_append] at hnd
  refine ⟨h.now, h.ser, by simp [enq]; omega, fun x hm => ?_, ?_, h.times, h.sorted⟩
  · simp only [enq, List.mem_append, List.mem_singleton] at hm
    rcases hm with (hm | rfl) | hm
    · exact h.tasks x (List.mem_append_left _ hm)
    · exact (timeB_iff _).2 hn
    · exact h.tasks x (List.mem_append_right _ hm)
  · simp only [enq]
    rw [List.nodup_append, List.nodup_append]
    refine ⟨⟨hnd.1, by simp, fun a ha b hb => ?_⟩, hnd.2.1, fun a ha b hb => ?_⟩
    · simp at hb; subst hb; exact fun e => hx1 (e ▸ ha)
    · simp only [List.mem_append, List.mem_singleton] at ha
      rcases ha with ha | rfl
      · exact hnd.2.2 a ha b hb
      · exact fun e => hx2 (e ▸ hb)
theorem slept_tasks (t : Tm) (ts : List Tm) : (sleptT t ts).Perm (t :: ts) := by
  rw [sleptT_eq]
  refine List.perm_middle.trans (List.Perm.cons _ ?_)
  rw [List.takeWhile_append_dropWhile]
theorem slept_sorted {t : Tm} {ts : List Tm} (h : ts.Pairwise Later) (hs : ∀ x ∈ ts, x.ser < t.ser) : (sleptT t ts).Pairwise Later := by
  rw [sleptT_eq]
  have hd : ∀ y ∈ ts.dropWhile (fun x => !laterB x t), Later t y := by
    induction ts with
    | nil => intro y hy; simp at hy
    | cons x r ih =>
      intro y hy
      rw [List.pairwise_cons] at h
      rw [List.dropWhile_cons] at hy
      by_cases hx : laterB x t = true
      · have e : (if (!laterB x t) = true then r.dropWhile (fun x => !laterB x t) else x :: r) = x :: r := by simp [hx]
        rw [e] at hy
        rcases List.mem_cons.1 hy with rfl | hy
        · exact hx
        · exact later_trans (show Later t x from hx) (h.1 y hy)
      · have e : (if (!laterB x t) = true then r.dropWhile (fun x => !laterB x t) else x :: r) = r.dropWhile (fun x => !laterB x t) := by simp [hx]
        rw [e] at hy
        exact ih h.2 (fun z hz => hs z (by simp [hz])) y hy
  have htk : ∀ x ∈ ts.takeWhile (fun x => !laterB x t), Later x t := by
    intro x hx
    have h1 : laterB x t = false := by
      have := List.all_eq_true.1 (List.all_takeWhile (p := fun x => !laterB x t) (l := ts)) x hx
      simpa using this
    have h2 := hs x ((List.takeWhile_sublist _).subset hx)
    rw [later_iff]
    simp only [laterB, Bool.or_eq_false_iff, decide_eq_false_iff_not, Bool.and_eq_false_imp, beq_iff_eq] at h1
    rcases Int.lt_or_eq_of_le (Int.not_lt.1 h1.1) with q | q
    · exact .inl q
    · exact .inr ⟨q.symm, h2⟩
  rw [List.pairwise_append, List.pairwise_cons]
  refine ⟨h.sublist (List.takeWhile_sublist _), ⟨hd, h.sublist (List.dropWhile_sublist _)⟩, fun a ha b hb => ?_⟩
  rcases List.mem_cons.1 hb with rfl | hb
  · exact htk a ha
  · exact later_trans (htk a ha) (hd b hb)
theorem slept_valid {c : Ck} {n d : Int} (h : Valid c) (hn : 0 ≤ n ∧ n ≤ 1000000000000000) (hx : n ∉ c.rs ++ c.ts.map (·.task)) (hl : c.rs.length + c.ts.length < 1000) (hd : 0 ≤ d) (hm : d = 0 ∨ c.now + d ≤ 1000000000000000 ∧ c.ser < 1000000000000000) : Valid (sleptM c n d) := by
  unfold sleptM
  by_cases h0 : d = 0
  · rw [if_pos h0]; exact enq_valid h hn hx hl
  · rw [if_neg h0]
    obtain ⟨m1, m2⟩ := hm.resolve_left h0
    have hx1 : n ∉ c.rs := fun q => hx (List.mem_append_left _ q)
    have hx2 : n ∉ c.ts.map (·.task) := fun q => hx (List.mem_append_right _ q)
    have q1 := timeB_le h.now
    have q2 := timeB_le h.ser
    have hp := slept_tasks ⟨c.now + d, c.ser, n⟩ c.ts
    have hpt : ((sleptT ⟨c.now + d, c.ser, n⟩ c.ts).map (·.task)).Perm (n :: c.ts.map (·.task)) := hp.map (·.task)
    have hpl : (c.rs ++ (sleptT ⟨c.now + d, c.ser, n⟩ c.ts).map (·.task)).Perm (n :: (c.rs ++ c.ts.map (·.task))) := (hpt.append_left _).trans List.perm_middle
    refine ⟨h.now, (timeB_iff _).2 (by dsimp only; omega), by dsimp only; rw [hp.length_eq]; simp; omega, fun x hm => ?_, hpl.nodup_iff.2 (List.nodup_cons.2 ⟨hx, h.nodup⟩), fun x hm => ?_, slept_sorted h.sorted fun x hm => ?_⟩
    · rcases List.mem_cons.1 (hpl.mem_iff.1 hm) with rfl | hm
      · exact (timeB_iff _).2 hn
      · exact h.tasks x hm
    · rcases List.mem_cons.1 (hp.mem_iff.1 hm) with rfl | hm
      · rw [okT_iff]; dsimp only; exact ⟨by omega, (timeB_iff _).2 (by omega), by omega, by omega⟩
      · have := (okT_iff _ _ _).1 (h.times x hm)
        rw [okT_iff]; dsimp only; exact ⟨this.1, this.2.1, this.2.2.1, by omega⟩
    · exact ((okT_iff _ _ _).1 (h.times x hm)).2.2.2
end Go.Proofs.Ytgiebofmfkacgaa
namespace Go.Proofs.Ytgiebofmfkacgaa

def okB (jobs : List Jb) (a : Ac) : Prop := (1 ≤ a.kind ∧ a.kind ≤ 5) ∧ 0 ≤ a.n ∧ (a.kind = 2 → a.n ≤ 1000000000) ∧ (a.kind = 3 → a.n.toNat < jobs.length)
def okK (jobs : List Jb) (t : Tsk) : Prop := (∃ j : Nat, t.job = (j : Int) ∧ j < jobs.length) ∧ t.left.length ≤ 30 ∧ ∀ a ∈ t.left, okB jobs a
structure Jok (jobs : List Jb) : Prop where
  ne : 0 < jobs.length
  le : jobs.length ≤ 60
  acts : ∀ (j : Nat) (h : j < jobs.length), jobs[j].acts.length ≤ 30 ∧ ∀ a ∈ jobs[j].acts, okB jobs a
  guard : ∀ (j : Nat) (h : j < jobs.length), jobs[j].guard.length ≤ 30 ∧ ∀ a ∈ jobs[j].guard, okB jobs a
abbrev B0 : Nat := 7201
structure Good (jobs : List Jb) (s : Sm) (run : List Int) (M σ : Nat) : Prop where
  v : Valid s.ck
  len : s.tasks.length ≤ 60
  pl : Plc s.tasks (run ++ pl s)
  tk : ∀ t ∈ s.tasks, okK jobs t
  ats : ∀ t ∈ s.ts, t.at_ ≤ s.now + 1000000000
  pot : pot s ≤ M
  tm : s.now + 1000000000 * (M : Int) ≤ 1000000000 * 7201
  se : s.ser + (M : Int) ≤ 7201
  lg : s.log.length + 3 * M + σ ≤ 21603
theorem alive_set {tasks : List Tsk} {n : Nat} {t t' : Tsk} {x : Int} (h : tasks[n]? = some t) (e : t'.ended = t.ended) (a : alive tasks x) : alive (tasks.set n t') x := by
  obtain ⟨i, u, rfl, h1, h2⟩ := a
  by_cases hi : n = i
  · subst hi
    rw [h] at h1
    injection h1 with h1
    subst h1
    exact ⟨n, t', rfl, by simp [lt_of_get h], e.trans h2⟩
  · exact ⟨i, u, rfl, by rw [List.getElem?_set_ne hi]; exact h1, h2⟩
theorem alive_ne {tasks : List Tsk} {n : Nat} {t' : Tsk} {x : Int} (hx : x ≠ (n : Int)) (a : alive tasks x) : alive (tasks.set n t') x := by
  obtain ⟨i, u, rfl, h1, h2⟩ := a
  have hi : ¬ n = i := fun e => hx (by rw [e])
  exact ⟨i, u, rfl, by rw [List.getElem?_set_ne hi]; exact h1, h2⟩
theorem alive_app {tasks l : List Tsk} {x : Int} (a : alive tasks x) : alive (tasks ++ l) x := by
  obtain ⟨i, u, rfl, h1, h2⟩ := a
  exact ⟨i, u, rfl, by rw [List.getElem?_append_left (lt_of_get h1)]; exact h1, h2⟩
theorem alive_rng {tasks : List Tsk} {x : Int} (a : alive tasks x) (h : tasks.length ≤ 60) : 0 ≤ x ∧ x ≤ 59 := by
  obtain ⟨i, rfl, h1⟩ := alive_lt a
  omega
theorem busy_no {rs : List Int} {ts : List Tm} {x : Int} (h : x ∉ rs ++ ts.map (·.task)) : busy rs ts x = false := by
  rw [busy, ← has_tasks, Bool.or_eq_false_iff, has_false_iff, has_false_iff]
  exact ⟨fun q => h (List.mem_append_right _ q), fun q => h (List.mem_append_left _ q)⟩
theorem cf_of {c : Ck} (h : Valid c) : (clockFault c).1 = 0 := by rw [fault_eq]; exact (valid_iff c).2 h
theorem ready_eq {c : Ck} {x : Int} (hv : Valid c) (hx : 0 ≤ x ∧ x ≤ 59) (hn : x ∉ c.rs ++ c.ts.map (·.task)) (hl : c.rs.length + c.ts.length ≤ 60) : readyM c x = (enq c x, (0, 0)) := ready_ok (cf_of hv) ⟨hx.1, by omega⟩ (busy_no hn) (by omega)
theorem sleep_eq {c : Ck} {x d : Int} (hv : Valid c) (hx : 0 ≤ x ∧ x ≤ 59) (hn : x ∉ c.rs ++ c.ts.map (·.task)) (hl : c.rs.length + c.ts.length ≤ 60) (hd : 0 ≤ d ∧ d ≤ 1000000000) (hm : c.now + d ≤ 1000000000000000 ∧ c.ser < 1000000000000000) : sleepM c x d = (sleptM c x d, (0, 0)) :=
  sleep_ok (cf_of hv) ⟨hx.1, by omega⟩ (busy_no hn) (by omega) hd (.inr ⟨hm.1, by omega⟩)
theorem wake_eq {c : Ck} {x : Int} (hv : Valid c) (hx : 0 ≤ x ∧ x ≤ 59) (hl : c.rs.length + c.ts.length ≤ 60) : wakeP c x = (wokenM c x, (0, 0)) := wake_ok (cf_of hv) ⟨hx.1, by omega⟩ (.inr (by omega))
theorem wakes_eq : ∀ (ws : List Int) {c : Ck}, Valid c → (c.rs ++ c.ts.map (·.task) ++ ws).Nodup → (∀ x ∈ ws, 0 ≤ x ∧ x ≤ 59) → c.rs.length + c.ts.length + ws.length ≤ 60 → wakes c ws = ⟨c.now, c.ser, c.rs ++ ws, c.ts⟩ ∧ Valid ⟨c.now, c.ser, c.rs ++ ws, c.ts⟩
  | [], c, hv, _, _, _ => by simp only [wakes, List.append_nil]; exact ⟨trivial, hv⟩
  | w :: r, c, hv, hn, hx, hl => by
    have hp : (c.rs ++ c.ts.map (·.task) ++ w :: r).Perm (w :: (c.rs ++ c.ts.map (·.task) ++ r)) := List.perm_middle
    have hn' := List.nodup_cons.1 (hp.nodup_iff.1 hn)
    have hw : w ∉ c.rs ++ c.ts.map (·.task) := fun q => hn'.1 (List.mem_append_left _ q)
    simp only [List.length_cons] at hl
    have e := ready_eq hv (hx w (by simp)) hw (by omega)
    have hw2 := hx w (by simp)
    have hv' := enq_valid hv ⟨hw2.1, by omega⟩ hw (by omega)
    have hn2 : ((enq c w).rs ++ (enq c w).ts.map (·.task) ++ r).Nodup := by
      have hp2 : ((enq c w).rs ++ (enq c w).ts.map (·.task) ++ r).Perm (w :: (c.rs ++ c.ts.map (·.task) ++ r)) := by
        simp only [enq, List.append_assoc, List.singleton_append]
        exact List.perm_middle
      exact hp2.nodup_iff.2 (List.nodup_cons.2 hn')
    have := wakes_eq r hv' hn2 (fun x q => hx x (by simp [q])) (by simp [enq]; omega)
    rw [wakes, e]
    simpa [enq] using this
section
variable {jobs : List Jb} {s : Sm} {run : List Int} {M σ : Nat}
theorem Good.weak (g : Good jobs s run M (σ + 1)) : Good jobs s run M σ := ⟨g.v, g.len, g.pl, g.tk, g.ats, g.pot, g.tm, g.se, by have := g.lg; omega⟩
theorem Good.clk (g : Good jobs s run M σ) : s.rs.length + s.ts.length ≤ 60 := by
  have h1 := g.pl.len
  have h2 := g.len
  simp only [Go.Proofs.Ytgiebofmfkacgaa.pl, List.length_append, List.length_map] at h1
  omega
theorem Good.note (g : Good jobs s run M (σ + 1)) (n k x : Int) : Good jobs (⟨s.now, s.ser, s.rs, s.ts, s.tasks, s.log ++ [⟨s.now, n, k, x⟩]⟩) run M σ := ⟨g.v, g.len, g.pl, g.tk, g.ats, g.pot, g.tm, g.se, by have := g.lg; simp; omega⟩
/-- A task is changed: where it is, whether it lives. -/
theorem Good.upd (g : Good jobs s run M σ) {n : Nat} {t t' : Tsk} (h : s.tasks[n]? = some t) (e1 : t'.ended = t.ended) (e2 : t'.waiters = t.waiters) (e3 : okK jobs t') (e4 : wk t' ≤ wk t) : Good jobs ⟨s.now, s.ser, s.rs, s.ts, s.tasks.set n t', s.log⟩ run M σ := by
  have hp : Go.Proofs.Ytgiebofmfkacgaa.pl ⟨s.now, s.ser, s.rs, s.ts, s.tasks.set n t', s.log⟩ = Go.Proofs.Ytgiebofmfkacgaa.pl s := by simp only [Go.Proofs.Ytgiebofmfkacgaa.pl, wts_same h e2]
  have hs := sum_set (f := wk) (t' := t') h
  have hpot := g.pot
  refine ⟨g.v, by simpa using g.len, by rw [hp]; exact g.pl.up fun x _ a => alive_set h e1 a, fun u hu => ?_, g.ats, ?_, g.tm, g.se, g.lg⟩
  · rcases List.mem_or_eq_of_mem_set hu with hu | rfl
    · exact g.tk u hu
    · exact e3
  · simp only [Go.Proofs.Ytgiebofmfkacgaa.pot, hp, work, List.length_set] at hpot ⊢
    omega
/-- An action is taken. -/
theorem Good.take (g : Good jobs s run M σ) {n : Nat} {t : Tsk} {a : Ac} {l : List Ac} (h : s.tasks[n]? = some t) (hl : t.left = a :: l) : Good jobs ⟨s.now, s.ser, s.rs, s.ts, s.tasks.set n { t with left := l }, s.log⟩ run M σ ∧ Go.Proofs.Ytgiebofmfkacgaa.pot ⟨s.now, s.ser, s.rs, s.ts, s.tasks.set n { t with left := l }, s.log⟩ + 2 ≤ M := by
  obtain ⟨k1, k2, k3⟩ := g.tk t (List.mem_of_getElem? h)
  rw [hl] at k2 k3
  simp only [List.length_cons] at k2
  have hw : wk { t with left := l } + 1 = wk t := by simp only [wk, hl, List.length_cons]; omega
  refine ⟨g.upd h rfl rfl ⟨k1, by dsimp only; omega, fun b hb => k3 b (List.mem_cons_of_mem _ hb)⟩ (by omega), ?_⟩
  have hp : Go.Proofs.Ytgiebofmfkacgaa.pl ⟨s.now, s.ser, s.rs, s.ts, s.tasks.set n { t with left := l }, s.log⟩ = Go.Proofs.Ytgiebofmfkacgaa.pl s := by simp only [Go.Proofs.Ytgiebofmfkacgaa.pl, wts_same (t' := { t with left := l }) h rfl]
  have hs := sum_set (f := wk) (t' := { t with left := l }) h
  have hpot := g.pot
  simp only [Go.Proofs.Ytgiebofmfkacgaa.pot, hp, work, List.length_set] at hpot ⊢
  omega
theorem next_ser {c c' : Ck} {n : Int} (h : nextM c = (c', (n, (0, 0)))) (hv : Valid c) : c'.ser = c.ser := by
  rw [nextM, if_pos ((valid_iff c).2 hv)] at h
  have e : (fire c).ser = c.ser := by
    unfold fire
    split <;> rfl
  rw [← e]
  generalize fire c = d at h
  obtain ⟨d1, d2, d3, d4⟩ := d
  cases d3 with
  | nil => simp [popM] at h
  | cons x r => simp [popM] at h; rw [← h.1]
/-- The next task. -/
theorem Good.pop (g : Good jobs s [] M 0) {c' : Ck} {n : Int} (h : nextM s.ck = (c', (n, (0, 0)))) : 1 ≤ M ∧ Good jobs (s.put c') [n] (M - 1) 3 ∧ s.now ≤ c'.now ∧ s.rs ++ s.ts.map (·.task) = n :: (c'.rs ++ c'.ts.map (·.task)) := by
  rcases next_spec g.v with ⟨_, h2⟩ | ⟨m, a, rest, c2, h1, h2, h3, h4, h5, h6⟩
  · rw [h2] at h; simp at h
  · rw [h2] at h
    simp only [Prod.mk.injEq, and_true] at h
    obtain ⟨rfl, rfl⟩ := h
    have hser := next_ser h2 g.v
    have hdue : ∀ p ∈ due s.ck, p.2 ≤ s.now + 1000000000 := by
      intro p hp
      simp only [due, List.mem_append, List.mem_map] at hp
      rcases hp with ⟨r, _, rfl⟩ | ⟨t, ht, rfl⟩
      · dsimp only [Sm.ck]; omega
      · exact g.ats t ht
    have ha := hdue (m, a) (by rw [h1]; simp)
    have hf : s.rs ++ s.ts.map (·.task) = m :: (c2.rs ++ c2.ts.map (·.task)) := by
      have e1 := congrArg (List.map Prod.fst) h1
      have e2 := congrArg (List.map Prod.fst) h4
      have e1' : s.rs ++ s.ts.map (·.task) = m :: rest.map Prod.fst := by simpa [due, Sm.ck, Function.comp_def] using e1
      have e2' : c2.rs ++ c2.ts.map (·.task) = rest.map Prod.fst := by simpa [due, Function.comp_def] using e2
      rw [e1', e2']
    have hpl : Go.Proofs.Ytgiebofmfkacgaa.pl s = m :: Go.Proofs.Ytgiebofmfkacgaa.pl (s.put c2) := by simp only [Go.Proofs.Ytgiebofmfkacgaa.pl, hf, Sm.put, List.cons_append]
    have hpot := g.pot
    have hM : 1 ≤ M := by
      simp only [Go.Proofs.Ytgiebofmfkacgaa.pot, hpl, List.length_cons] at hpot; omega
    refine ⟨hM, ⟨h5, g.len, ?_, g.tk, fun t ht => ?_, ?_, ?_, ?_, ?_⟩, by rw [h3]; exact h6, hf⟩
    · have := g.pl
      rw [List.nil_append, hpl] at this
      exact this
    · have hq := hdue (t.task, t.at_) (by
        rw [h1, ← h4]
        refine List.mem_cons_of_mem _ ?_
        simp only [due, List.mem_append, List.mem_map]
        exact .inr ⟨t, ht, rfl⟩)
      simp only [Sm.put]
      rw [h3]
      dsimp only [Sm.ck] at h6 hq ⊢
      omega
    · simp only [Go.Proofs.Ytgiebofmfkacgaa.pot, hpl, List.length_cons] at hpot
      simp only [Go.Proofs.Ytgiebofmfkacgaa.pot]
      have : (s.put c2).tasks = s.tasks := rfl
      rw [this]
      omega
    · simp only [Sm.put]
      have := g.tm
      dsimp only [Sm.ck] at ha
      rw [h3]
      omega
    · simp only [Sm.put]
      have := g.se
      rw [hser]
      dsimp only [Sm.ck]
      omega
    · have := g.lg
      simp only [Sm.put]
      omega
end
end Go.Proofs.Ytgiebofmfkacgaa
