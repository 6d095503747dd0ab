/-
  Part 4 of the proof of names_holds: laws and contracts that it needs.
-/
import Derived.Test.YtgloielnnakknaaDoorQe3
namespace Go.Proofs.YtgloielnnakknaaDoor
open Go.RowKit
theorem Ghost.le {tm : List (Nat × SV)} {ob : List (Nat × Ob)} {src : Src} {S : St} (l : LeSt src ⟨tm, ob⟩ S) : Ghost tm ob S.tm S.ob := ⟨fun _ _ _ _ _ w g hw => by
  obtain ⟨h', h1, h2⟩ := g.le l
  exact ⟨h', _, _, h2, h1 w hw⟩⟩
/-- Many ways meet. -/
theorem cutR {ι : Type} (Φ : ι → Prop) (S : ι → St) {G : Prop} (R : Kt) (main : (∀ x, Φ x → R (S x).tm (S x).ob) → G) (rest : ∀ x, Φ x → R (S x).tm (S x).ob) : G := main rest
theorem Gs.cut {ι : Type} {Φ : ι → Prop} {S : ι → St} {R X : Kt} {i : Nat} {tm : List (Nat × SV)} {ob : List (Nat × Ob)} (hR : ∀ x, Φ x → R (S x).tm (S x).ob) (x : ι) (src : Src) (hX : X = R) (l : LeSt src ⟨tm, ob⟩ (S x)) (hx : Φ x) : Gs i X tm ob := .go (Ghost.le l) (by rw [hX]; exact hR x hx)
theorem Drw.cut {P : Program} {nt i : Nat} {ops : Array Oper} {K : Kt} {ι : Type} {Φ : ι → Prop} {S : ι → St} {R : Kt} {tm : List (Nat × SV)} {ob : List (Nat × Ob)} (hR : ∀ x, Φ x → R (S x).tm (S x).ob) (x : ι) (src : Src) (hX : Drw P nt i ops K = R) (l : LeSt src ⟨tm, ob⟩ (S x)) (hx : Φ x) : Drw P nt i ops K tm ob := .ghost (Ghost.le l) (by have := hR x hx; rw [← hX] at this; exact this)
section
variable {P : Program} {T : List (Nat × Ty)} [hT : Tys P T] {nt : Nat} {Q : Exit → Act → World → Prop} {ty : TypeId} {pos : String} {af : Array Edge} {gd : Option (Nat × Bool)} {K : Kt}
/-- A new own map. -/
theorem makeMap_sound {c : Cx} {st : St} {tm : List (Nat × Value)} {h : Hs} {ρ : Rho} {G : FG} (g : Gd c st tm h ρ G) {t d : Nat} {r : Option Operand} {kg vg : Bool} (hr : r = none ∨ ∃ y q n ti kt et, r = some y ∧ evT st.tm y = some (.d (.u (.int q n))) ∧ lk t T = some ti ∧ ti.k = .mp kt et) (hd : Nat.blt d nt = true) (hn : newN d st.tm st.ob = true) (k : K ((d, .d (.mp d)) :: st.tm) ((d, .mp kg vg []) :: st.ob)) : OpS P nt Q ⟨some d, .makeMap t r, ty, pos, af, gd⟩ tm h (Kk h c K) := by
  obtain ⟨F, w0, hp⟩ := h
  refine .of_run hd fun a w ha hw => ?_
  have hb : HasB (w.alloc (.map #[] 0)) w.heap.size ⟨0, [], .m []⟩ := ⟨rfl, #[], 0, by rw [heap_alloc_new], rfl⟩
  have hw' : Hp ⟨F, w0, (w.heap.size, ⟨0, [], .m []⟩) :: hp⟩ (w.alloc (.map #[] 0)) := hw.add ((Below.refl _ _).alloc (Nat.le_refl _) _) (Nat.le_refl _) hb
  have hob : ObOk (upd ρ d ⟨some ⟨w.heap.size, 0, none⟩, 1, 0⟩) ⟨G, w0⟩ d (.mp kg vg []) [(w.heap.size, ⟨0, [], .m []⟩)] := ⟨_, _, rfl, upd_self, rfl, fun j e p h1 _ => by simp at h1⟩
  refine ⟨.map (some w.heap.size), _, _, ?_, hw', .of (fun w' hw' => hw'.sub (List.sublist_cons_self _ _)) ((g.new hn hob).put (.d (.mp (l := ⟨some ⟨w.heap.size, 0, none⟩, 1, 0⟩) upd_self rfl))) k⟩
  rcases hr with rfl | ⟨y, q, n, ti, kt, et, rfl, hy, ht, hk⟩
  · simp [execOp, Instr.makeMap, newObj, Sem.run]
  · have hund : P.underlying t = some (.map kt et) := by have := (hT.ok t ti ht).kind; rw [hk] at this; exact this
    simp [execOp, Instr.makeMap, newObj, Sem.run, ha.ev (evT_int g hy), run_underlying hund, asInt, asIntOf]
theorem Raw.makeMap {t d : Nat} {r : Option Operand} {kt et : TypeId} {i ik ie : Ty} {kg vg : Bool} {tmT : List (Nat × SV)} {ob : List (Nat × Ob)} (ht : lk t T = some i) (hk : i.k = .mp kt et) (hkt : lk kt T = some ik) (het : lk et T = some ie) (hkg : ik.k.agg = kg) (hvg : ie.k.agg = vg) (hr : r = none ∨ ∃ y q n, r = some y ∧ evT tmT y = some (.d (.u (.int q n)))) (hd : Nat.blt d nt = true) (hn : newN d tmT ob = true) (k : K ((d, .d (.mp d)) :: tmT) ((d, .mp kg vg []) :: ob)) : Raw P nt ⟨some d, .makeMap t r, ty, pos, af, gd⟩ tmT ob K := ⟨fun Q c tm h ρ G g =>
  (makeMap_sound (T := T) (st := ⟨tmT, ob⟩) g (by
    rcases hr with h | ⟨y, q, n, h1, h2⟩
    · exact .inl h
    · exact .inr ⟨y, q, n, i, kt, et, h1, h2, ht, hk⟩) hd hn k).mono fun _ _ h => h.kd⟩
theorem sameBits_T {z : Fz} {kk : Tk} {x y : V} {u v : Value} (hx : keyC kk x = true) (hy : keyC kk y = true) (he : eqC x y = true) (h1 : DenV z x u) (h2 : DenV z y v) : Instr.sameBits 10000 v u = true := by
  cases kk <;> simp only [keyC] at hx <;> try cases hx
  · cases x <;> simp only [keyC] at hx <;> try cases hx
    cases y <;> simp only [keyC] at hy <;> try cases hy
    have e1 := ikEqT_eq hx
    have e2 := ikEqT_eq hy
    subst e1 e2
    cases h1; cases h2
    simp only [eqC, decide_eq_true_eq] at he
    subst he
    simp [Instr.sameBits]
  · cases x <;> simp only [keyC] at hx <;> try cases hx
    cases y <;> simp only [keyC] at hy <;> try cases hy
    cases h1; cases h2
    simp only [eqC, beq_iff_eq] at he
    subst he
    simp [Instr.sameBits]
  · cases x <;> simp only [keyC] at hx <;> try cases hx
    cases y <;> simp only [keyC] at hy <;> try cases hy
    cases h1; cases h2
    simp only [eqC, decide_eq_true_eq] at he
    subst he
    simp [Instr.sameBits, bytesT_beq]
/-- An entry is put into an own map. -/
theorem mapUpdate_run {z : Fz} {w : World} {b t kt et : Nat} {i ik : Ty} {vg : Bool} {es : List (List V × List V)} {vs : List (Value × Value)} {y : V} {row : List V} {u v : Value} (ht : lk t T = some i) (hk : i.k = .mp kt et) (hkt : lk kt T = some ik) (hw : HasB w b ⟨0, [], .m vs⟩) (he : EntsOk z false vg es vs) (hy : keyC ik.k y = true) (hu : DenV z y u) (hv : DenW z vg row v) (hok : ∀ e ∈ es, keyT ik.k e.1 = true) :
    ∃ w' vs', (Instr.mapUpdate t (.map (some b)) u v).run P w = .ok () w' ∧ Same (· ≠ b) w w' ∧ HasB w' b ⟨0, [], .m vs'⟩ ∧ EntsOk z false vg (mputT es [y] row) vs' := by
  obtain ⟨dd, hdd, hchk⟩ := keyC_und (hT.ok kt ik hkt) hy
  have hund : P.underlying t = some (.map kt et) := by have := (hT.ok t i ht).kind; rw [hk] at this; exact this
  obtain ⟨_, arr, clock, q1, q2⟩ := hw
  have hlen : arr.toList.length = es.length := by rw [← he.len, ← q2, List.length_map]
  have hfind := findNow_T (hT.ok kt ik hkt) hdd hy hu es arr.toList 0 hlen (fun j e m h1 h2 => (he.den j e (m.key, m.val) h1 (by rw [← q2, List.getElem?_map, h2]; rfl)).1) hok
  obtain ⟨m1, m2, m3, m4⟩ := mixT_get (x := [y]) es
  have hlt : b < w.heap.size := by
    rcases Nat.lt_or_ge b w.heap.size with h | h
    · exact h
    · rw [Array.getElem?_eq_none h] at q1; cases q1
  have key : ∀ (o : Obj), Same (· ≠ b) w { w with heap := w.heap.setIfInBounds b o } := fun o =>
    ⟨rfl, rfl, rfl, by simp, fun j hj => by simp only; rw [Array.getElem?_setIfInBounds_ne]; exact fun e => hj e.symm⟩
  cases hj : mixT es [y] with
  | none =>
    rw [hj] at hfind
    refine ⟨_, vs ++ [(u, v)], by simp [Instr.mapUpdate, run_underlying hund, run_underlying hdd, getObj, setObj, Sem.run, q1, hchk, Instr.findKey, hfind]; rfl, key _, ⟨rfl, arr.push { key := u, val := v, born := clock }, clock + 1, by simp [hlt], by simp [q2]⟩, ?_⟩
    rw [m4, hj]
    refine ⟨by simp [he.len], fun j e p h1 h2 => ?_⟩
    rcases Nat.lt_or_ge j es.length with hlt' | hge
    · rw [List.getElem?_append_left hlt'] at h1
      rw [List.getElem?_append_left (by rw [he.len]; exact hlt')] at h2
      exact he.den j e p h1 h2
    · rw [List.getElem?_append_right hge] at h1
      rw [List.getElem?_append_right (by rw [he.len]; exact hge), he.len] at h2
      rcases hjj : j - es.length with _ | n
      · rw [hjj] at h1 h2; simp at h1 h2; subst h1 h2; exact ⟨⟨y, rfl, hu⟩, hv⟩
      · rw [hjj] at h1; simp at h1
  | some j =>
    rw [hj] at hfind
    have hjl := m3 j hj
    obtain ⟨e, he1⟩ : ∃ e, es[j]? = some e := ⟨_, List.getElem?_eq_getElem hjl⟩
    obtain ⟨m, hm1⟩ : ∃ m, arr.toList[j]? = some m := ⟨_, List.getElem?_eq_getElem (by rw [hlen]; exact hjl)⟩
    have hm2 : arr[j]? = some m := by rw [← Array.getElem?_toList]; exact hm1
    have hp1 : vs[j]? = some (m.key, m.val) := by rw [← q2, List.getElem?_map, hm1]; rfl
    have hden := (he.den j e _ he1 hp1).1
    obtain ⟨y', e1, e2⟩ := hden
    obtain ⟨y'', e3, e4⟩ := keyT_one (hok e (List.mem_of_getElem? he1))
    rw [e1] at e3
    injection e3 with e3 _; subst e3
    have heq : eqC y y' = true := by
      have : ∀ (es : List (List V × List V)) (j : Nat) e, mixT es [y] = some j → es[j]? = some e → eqCs [y] e.1 = true := by
        intro es
        induction es with
        | nil => intro j e h; cases h
        | cons a r ih =>
          intro j e h h'
          simp only [mixT] at h
          cases hq : eqCs [y] a.1 <;> rw [hq] at h
          · simp only [cond_false] at h
            cases hr : mixT r [y] with
            | none => rw [hr] at h; cases h
            | some n => rw [hr] at h; simp only [Option.some.injEq] at h; subst h; exact ih n e hr (by simpa using h')
          · simp only [cond_true, Option.some.injEq] at h
            subst h
            simp at h'
            subst h'
            exact hq
      have := this es j e hj he1
      rw [e1, eqCs_one] at this
      exact this
    have hsb : Instr.sameBits 10000 m.key u = true := sameBits_T hy e4 heq hu e2
    simp only [hm1, Option.map_some] at hfind
    refine ⟨_, vs.set j (u, v), by simp [Instr.mapUpdate, run_underlying hund, run_underlying hdd, getObj, setObj, Sem.run, q1, hchk, Instr.findKey, hfind, hm2, Instr.keyThatStays, hsb]; rfl, key _, ⟨rfl, arr.modify j fun e => { e with key := u, val := v }, clock, by simp [hlt], ?_⟩, ?_⟩
    · rw [← q2]
      apply List.ext_getElem?
      intro n
      simp only [List.getElem?_map, Array.getElem?_toList, Array.getElem?_modify, List.getElem?_set, List.length_map, Array.length_toList]
      by_cases hn : j = n
      · subst hn
        have : j < arr.size := by rw [← Array.length_toList, hlen]; exact hjl
        simp [hm2, this]
      · simp [hn]
    · rw [m4, hj]
      refine ⟨by simp [he.len], fun n e' p h1 h2 => ?_⟩
      simp only [List.getElem?_set] at h1 h2
      by_cases hn : j = n
      · subst hn
        have h3 : j < vs.length := by rw [he.len]; exact hjl
        simp [hjl] at h1
        simp [h3] at h2
        subst h1 h2
        exact ⟨⟨y, rfl, hu⟩, hv⟩
      · simp only [hn, if_false] at h1 h2
        exact he.den n e' p h1 h2
omit hT in
theorem denW_of {ρ : Rho} {z : Fz} {s : SV} {cs : List D} {vs : List V} {v : Value} (h : DenS ρ z s v) (hc : cellsOfT s = some cs) (hb : borL [] cs = some vs) : DenW z (aggS s) vs v := by
  cases h with
  | d h =>
    simp only [cellsOfT, Option.some.injEq] at hc
    subst hc
    have := borL_nil_den (z := z) hb (DenL.one_ h)
    have hl := this.len
    match vs, hl with
    | [x], _ => exact ⟨x, rfl, this.den 0 x v rfl rfl⟩
  | a h =>
    simp only [cellsOfT, Option.some.injEq] at hc
    subst hc
    exact ⟨_, rfl, borL_nil_den hb h⟩
  | t _ _ => simp [cellsOfT] at hc
theorem mapUpdate_sound {o : Op} {c : Cx} {st : St} {tm : List (Nat × Value)} {h : Hs} {ρ : Rho} {G : FG} (g : Gd c st tm h ρ G) {t kt et k : Nat} {x ix y : Operand} {i ik : Ty} {vg : Bool} {es : List (List V × List V)} {key : V} {sy : SV} {cs : List D} {vs : List V} (ho : o = .mapUpdate t x ix y ∨ o = .insert t x ix y) (ht : lk t T = some i) (hk : i.k = .mp kt et) (hkt : lk kt T = some ik) (hx : evT st.tm x = some (.d (.mp k))) (hko : lk k st.ob = some (.mp false vg es)) (hix : evT st.tm ix = some (.d (.u key))) (hy : evT st.tm y = some sy) (hc : cellsOfT sy = some cs) (hb : borL [] cs = some vs) (hg : aggS sy = vg) (hkey : keyC ik.k key = true) (hok : ∀ e ∈ es, keyT ik.k e.1 = true) (kk : K st.tm (obu k (.mp false vg (mputT es [key] vs)) st.ob)) : OpS P nt Q ⟨none, o, ty, pos, af, gd⟩ tm h (Kd c K) := by
  obtain ⟨F, w0, hp⟩ := h
  obtain ⟨vx, x1, x2⟩ := g.ev hx
  obtain ⟨vi, i1, i2⟩ := g.ev hix
  obtain ⟨vy, y1, y2⟩ := g.ev hy
  cases x2 with | d x2 => cases i2 with | d i2 => cases i2 with | u i2 =>
  obtain ⟨X, f, o1, o2, o3, _⟩ := g.ob.set hko
  obtain ⟨b, ves, rfl, rfl, m1, m2⟩ := o1.map o2 x2
  have hdv := denW_of y2 hc hb
  rw [hg] at hdv
  have hloc : ρ k = some ⟨some ⟨b, 0, none⟩, 1, 0⟩ := by
    obtain ⟨b', vs', e1, e2, _⟩ := o1
    injection e1 with e1 _; injection e1 with e1 _; subst e1; exact e2
  exact ⟨fun a w ha hw => by
    obtain ⟨w', vs', r1, r2, r3, r4⟩ := mapUpdate_run (P := P) (T := T) ht hk hkt (hw.blk b _ m1) m2 hkey i2 hdv hok
    have hrun : (execOp a.eval ⟨none, o, ty, pos, af, gd⟩).run P w = .ok .skip w' := by
      rcases ho with rfl | rfl <;> simp [execOp, ha.ev x1, ha.ev i1, ha.ev y1, r1]
    unfold Oper.wp
    rw [hrun]
    exact ⟨tm, _, ha, hw.upd (o2.updB rfl) r2 r3, .of (st := ⟨st.tm, obu k (.mp false vg (mputT es [key] vs)) st.ob⟩) ⟨g.fF, g.fw, g.gF, g.gx, g.fm, g.tm, o3 (.mp false vg _) _ ⟨b, vs', rfl, hloc, r4⟩⟩ kk⟩⟩
theorem Raw.mapUpdate {o : Op} {t kt et k : Nat} {x ix y : Operand} {i ik : Ty} {vg : Bool} {es : List (List V × List V)} {key : V} {sy : SV} {cs : List D} {vs : List V} {tmT : List (Nat × SV)} {ob : List (Nat × Ob)} (ho : o = .mapUpdate t x ix y ∨ o = .insert t x ix y) (ht : lk t T = some i) (hk : i.k = .mp kt et) (hkt : lk kt T = some ik) (hx : evT tmT x = some (.d (.mp k))) (hko : lk k ob = some (.mp false vg es)) (hix : evT tmT ix = some (.d (.u key))) (hy : evT tmT y = some sy) (hc : cellsOfT sy = some cs) (hb : borL [] cs = some vs) (hg : aggS sy = vg) (hkey : keyC ik.k key = true) (hok : ∀ e ∈ es, keyT ik.k e.1 = true) (kk : K tmT (obu k (.mp false vg (mputT es [key] vs)) ob)) : Raw P nt ⟨none, o, ty, pos, af, gd⟩ tmT ob K :=
  ⟨fun Q c tm h ρ G g => mapUpdate_sound (T := T) (st := ⟨tmT, ob⟩) g ho ht hk hkt hx hko hix hy hc hb hg hkey hok kk⟩
/-- A store into a row of an array that a member of a family owns. -/
theorem Raw.storeRe {x y : Operand} {t : TypeId} {k m o j off u e sz : Nat} {rs : List (List E)} {row : List E} {rr : List (List V)} {r2 : List V} {sy : SV} {xs : List D} {ys : List V} {i : Ty} {tmT : List (Nat × SV)} {ob : List (Nat × Ob)} (hx : evT tmT x = some (.d (D.re k m o j off))) (hk : lk k ob = some (.fm u rs)) (h1 : famOne k ob = true) (hy : evT tmT y = some sy) (hc : cellsOfT sy = some xs) (hb : borL [] xs = some ys) (ht : lk t T = some i) (hsz : xs.length = i.size) (hr : rs[m]? = some row) (ho : row[o]? = some (.os e sz rr)) (hr2 : rr[j]? = some r2) (hle : off + ys.length ≤ sz)
    (kk : K (dropT k tmT) (dropO k (obu k (.fm u (rs.set m (row.set o (.os e sz (rr.set j (r2.take off ++ ys ++ r2.drop (off + ys.length))))))) ob))) : Raw P nt ⟨none, .store t x y, ty, pos, af, gd⟩ tmT ob K := ⟨fun Q c tm h ρ G g => by
  obtain ⟨F, w0, hp⟩ := h
  obtain ⟨vy, y1, y2⟩ := g.ev hy
  have hv := cellsOfT_den hc y2
  have hv' := borL_nil_den hb hv
  obtain ⟨p, r1, r2'⟩ := g.ev hx
  cases r2' with | d r2' => cases r2' with | @re _ _ _ _ _ b1 c1 sz1 x0 =>
  have hmem : ∃ b, (G.fam k)[m]? = some b := by
    obtain ⟨Y, f, ⟨a1, _⟩, _⟩ := g.ob.at_ hk
    obtain ⟨b, _, _, _, a2, _⟩ := a1.split hr
    exact ⟨b, a2⟩
  obtain ⟨b0, hb0⟩ := hmem
  obtain ⟨b, us, Xe, rest, _, hlt, hone, ⟨u0, hu0, A', cc', us1, rfl, rfl, t3, t4, t5, t6⟩, p1, _, p3⟩ := g.famPut (e' := .os e sz (rr.set j (r2.take off ++ ys ++ r2.drop (off + ys.length)))) (v := .slice (some ⟨b1, 0, none⟩) rr.length c1) (p := .pointer (some ⟨b0, o, none⟩)) hk h1 (.m hb0) hr ho
  rw [x0] at t3
  injection t3 with t3
  injection t3 with e1 e2 e3
  subst e1 e2 e3
  have hrl : r2.length = sz1 := t6 r2 (List.mem_of_getElem? hr2)
  have hfl := flat_len t6
  have hm : j < rr.length := (List.getElem?_eq_some_iff.1 hr2).1
  have hin : j * sz1 + off + ys.length ≤ rr.flatten.length := by
    rw [hfl]
    have : (j + 1) * sz1 ≤ rr.length * sz1 := Nat.mul_le_mul_right _ hm
    rw [Nat.succ_mul] at this; omega
  have hmid : DenVL ⟨G, w0⟩ (rr.set j (r2.take off ++ ys ++ r2.drop (off + ys.length))).flatten (spl us1 (j * sz1 + off) (vcells vy)) := by
    rw [flat_mid t6 hr2 hle]
    exact t5.mid hv' hin
  have hlen : (rr.set j (r2.take off ++ ys ++ r2.drop (off + ys.length))).length = rr.length := by simp
  have hset : us.set o (.slice (some ⟨b1, 0, none⟩) rr.length c1) = us := by
    apply List.ext_getElem?
    intro jj
    rw [List.getElem?_set]
    split
    · rename_i ej; subst ej
      first | (rw [if_pos hlt, hu0]; done) | exact hu0.symm | (simp only [hlt, if_true]; exact hu0.symm)
    · rfl
  obtain ⟨hq, z1, z2⟩ := p3 (some ⟨some ⟨b1, 0, none⟩, c1, sz1⟩) (hbA (some ⟨b1, 0, none⟩) e (spl us1 (j * sz1 + off) (vcells vy)) c1 sz1) ⟨some ⟨b1, 0, none⟩, c1, _, rfl, by rw [hlen], by simp [updOs], by rw [hlen]; exact ⟨.inr ⟨b1, rfl⟩, by rw [spl_length]; exact t4.len, t4.cap, t4.max⟩, hmid, fun r hr0 => by
    rcases List.mem_or_eq_of_mem_set hr0 with q | q
    · exact t6 r q
    · subst q; simp; omega⟩
  rw [hset] at z1
  have pp : hp.Perm ((b1, ⟨e, us1, c1 * sz1⟩) :: ((b, ⟨u, us, us.length⟩) :: rest)) := by
    rw [hbA_some] at p1
    exact p1.trans (List.Perm.swap _ _ _)
  have pp' : ((b1, (⟨e, spl us1 (j * sz1 + off) (vcells vy), c1 * sz1⟩ : Hb)) :: ((b, ⟨u, us, us.length⟩) :: rest)).Perm hq := by
    rw [hbA_some] at z1
    exact (List.Perm.swap _ _ _).trans z1.symm
  refine OpS.wk (fun w hw => hw.perm pp) ?_
  refine OpS.store (z := ⟨e, us1, c1 * sz1⟩) r1 y1 ht .here (by rw [hv.len]; exact hsz) hv.one (by rw [← hsz, ← hv.len, hv'.len]; simp only [t5.len]; rw [Nat.ble_eq]; exact hin) rfl ?_
  exact ⟨⟨_, _⟩, _, G, ⟨F, w0, hq⟩, fun w hw => hw.perm pp', z2, kk⟩⟩
end
end Go.Proofs.YtgloielnnakknaaDoor
namespace Go.Proofs.YtgloielnnakknaaDoor
open Go.RowKit
/-- No part of it lies in frozen memory. -/
def mfV : V → Bool
  | .sl _ _ => false
  | .cl _ _ => false
  | .fz _ _ => false
  | _ => true
def MfE : E → Prop
  | .v x => mfV x = true
  | .os _ _ rs => ∀ r ∈ rs, ∀ x ∈ r, mfV x = true
  | .hl => True
def MfO (ob : List (Nat × Ob)) : Prop := ∀ p ∈ ob, ∃ t rs, p.2 = .fm t rs ∧ ∀ row ∈ rs, ∀ e ∈ row, MfE e
def MfS (s : SV) : Prop := ∃ x, s = .d (.u x) ∧ mfV x = true
theorem DenV.mf {z z' : Fz} (hG : z'.G.fam = z.G.fam) {x : V} {v : Value} (hf : mfV x = true) (h : DenV z x v) : DenV z' x v := by
  cases h with
  | sl => cases hf
  | cl => cases hf
  | fz => cases hf
  | int => exact .int _ _
  | bool => exact .bool _
  | str _ hs => exact .str _ hs
  | nl => exact .nl
  | pn => exact .pn
  | fn => exact .fn
  | v h => exact .v h
  | m h => exact .m (by rw [hG]; exact h)
theorem DenVL.mf {z z' : Fz} (hG : z'.G.fam = z.G.fam) {cs : List V} {us : List Value} (hf : ∀ x ∈ cs, mfV x = true) (h : DenVL z cs us) : DenVL z' cs us :=
  ⟨h.len, h.one, fun j d u e1 e2 => (h.den j d u e1 e2).mf hG (hf d (List.mem_of_getElem? e1))⟩
theorem CellOk.mf {ρ : Rho} {z z' : Fz} (hG : z'.G.fam = z.G.fam) {k i o : Nat} {e : E} {u : Value} {X : List (Nat × Hb)} (hf : MfE e) (h : CellOk ρ z k i o e u X) : CellOk ρ z' k i o e u X := by
  cases e with
  | v x => exact ⟨h.1, h.2.mf hG hf⟩
  | os ty sz rs =>
    obtain ⟨A, c, us, h1, h2, h3, h4, h5, h6⟩ := h
    refine ⟨A, c, us, h1, h2, h3, h4, h5.mf hG fun x hx => ?_, h6⟩
    obtain ⟨r, q1, q2⟩ := List.mem_flatten.1 hx
    exact hf r q1 x q2
  | hl => exact h
theorem CellsOk.mf {ρ : Rho} {z z' : Fz} (hG : z'.G.fam = z.G.fam) {k i o : Nat} {es : List E} {us : List Value} {X : List (Nat × Hb)} (h : CellsOk ρ z k i o es us X) : (∀ e ∈ es, MfE e) → CellsOk ρ z' k i o es us X := by
  induction h with
  | nil => exact fun _ => .nil
  | cons h1 _ ih => exact fun hf => .cons (h1.mf hG (hf _ (by simp))) (ih fun e he => hf e (by simp [he]))
theorem FamOk.mf {ρ : Rho} {z z' : Fz} (hG : z'.G.fam = z.G.fam) {k : Nat} {ty : TypeId} {i : Nat} {bs : List Nat} {rs : List (List E)} {X : List (Nat × Hb)} (h : FamOk ρ z k ty i bs rs X) : (∀ row ∈ rs, ∀ e ∈ row, MfE e) → FamOk ρ z' k ty i bs rs X := by
  induction h with
  | nil => exact fun _ => .nil
  | cons h1 _ ih => exact fun hf => .cons (h1.mf hG (hf _ (by simp))) (ih fun row hr => hf row (by simp [hr]))
theorem ObsOk.mf {ρ : Rho} {z z' : Fz} (hG : z'.G.fam = z.G.fam) (hO : z'.G.own = z.G.own) : ∀ {ob : List (Nat × Ob)} {hp : List (Nat × Hb)}, MfO ob → ObsOk ρ z ob hp → ObsOk ρ z' ob hp
  | [], _, _, h => h
  | (k, o) :: r, hp, hf, ⟨X, hp', h1, h2, h3⟩ => by
    refine ⟨X, hp', h1, ?_, h3.mf hG hO fun p hp => hf p (by simp [hp])⟩
    obtain ⟨t, rs, e, q⟩ := hf (k, o) (by simp)
    dsimp only at e
    subst e
    obtain ⟨a1, a2⟩ := h2
    exact ⟨by rw [hG]; exact a1.mf hG q, by rw [hO]; exact a2⟩
section
variable {P : Program} {T : List (Nat × Ty)} {nt : Nat} {Q : Exit → Act → World → Prop} {c : Cx} {st : St} {tm : List (Nat × Value)} {h : Hs} {ρ : Rho} {G : FG} {ty : TypeId} {pos : String} {af : Array Edge} {gd : Option (Nat × Bool)} {K : Kt}
theorem callB_vals {f : FuncId} {ss : List SV} {obP obF : List (Nat × Ob)} {tmS tmK : List (Nat × SV)} {ns : List Nat} {QS : SV → List (Nat × Ob) → Prop} {F : Nat → Prop} {w0 : World} {hpP hpF : List (Nat × Hb)} (g : Gd c ⟨tmS, obP ++ obF⟩ tm ⟨F, w0, hpP ++ hpF⟩ ρ G) (oP : ObsOk ρ ⟨G, w0⟩ obP hpP) (oF : ObsOk ρ ⟨G, w0⟩ obF hpF) {vs : List Value} (a2 : vs.length = ss.length) (a3 : ∀ w, Hp ⟨F, w0, hpF⟩ w → ∀ (j : Nat) s v, ss[j]? = some s → vs[j]? = some v → DenS ρ ⟨G.or (Bl hpF), w⟩ s v) (hk : ∀ k s, lk k tmK = some s → lk k tmS = some s)
    (h1 : okTm (fun k => !inN ns k) tmK = true) (h2 : okO (fun k => !inN ns k) obF = true) (h3 : okO (inN ns) obP = true) (hc : CallsA P f ss obP QS) (hmf : ∀ s ob', QS s ob' → MfS s ∧ MfO ob') :
    ∀ w, Hp ⟨F, w0, hpP ++ hpF⟩ w → Calls P f vs.toArray w fun e w' => ∃ v h' s ob' ρ' G', e = .returned v ∧ Hp h' w' ∧ QS s ob' ∧ (s.okP (inN ns) = true → okO (inN ns) ob' = true → DenS ρ' ⟨G', h'.w0⟩ s v ∧ Gd c ⟨tmK, ob' ++ obF⟩ tm h' ρ' G') := by
  intro w hw
  have hwF : Hp ⟨F, w0, hpF⟩ w := hw.sub (List.sublist_append_right _ _)
  have hnd := hw.nd
  rw [List.map_append, List.nodup_append] at hnd
  have hbF : ∀ b, Bl hpF b → ¬ F b := fun b ⟨x, hx⟩ => hw.out b x (List.mem_append_right _ hx)
  have hPF : ∀ b x, (b, x) ∈ hpP → ¬ Bl hpF b := fun b x hx ⟨y, hy⟩ => hnd.2.2 b (List.mem_map_of_mem (f := Prod.fst) hx) b (List.mem_map_of_mem (f := Prod.fst) hy) rfl
  have hm0 : Mz ⟨G, w0⟩ ⟨⟨fun b => G b ∨ Bl hpF b, G.fam, famIn obP⟩, w⟩ := ⟨fun _ h => .inl h, fun b hb => hw.same.block b (g.gF b hb), fun _ _ _ h => h⟩
  have hm1 : Mz ⟨G.or (Bl hpF), w⟩ ⟨⟨fun b => G b ∨ Bl hpF b, G.fam, famIn obP⟩, w⟩ := ⟨fun _ h => h, fun b hb => rfl, fun _ _ _ h => h⟩
  refine (hc.out ⟨fun b => F b ∨ Bl hpF b, w, ⟨fun b => G b ∨ Bl hpF b, G.fam, famIn obP⟩⟩ ρ hpP vs w ⟨Same.refl _ _, fun b hb => ?_, fun b x hx => hw.blk b x (List.mem_append_left _ hx), hnd.1, fun b x hx hb => ?_⟩ a2 ⟨fun _ h => h, Same.refl _ _, fun b hb => hb.imp (g.gF b) id, fun b hb => .inl hb, .refl _, fun k s hk => ?_, ?_⟩).mono ?_
  · rcases hb with hb | ⟨x, hx⟩
    · exact hw.Flt hb
    · exact (hw.blk b x (List.mem_append_right _ hx)).lt
  · rcases hb with hb | hb
    · exact hw.out b x (List.mem_append_left _ hx) hb
    · exact hPF b x hx hb
  · obtain ⟨q1, q2⟩ := lk_slT hk
    have hlt : k - 0 < vs.length := by rw [a2]; exact (List.getElem?_eq_some_iff.1 q2).1
    exact ⟨vs[k - 0], lk_slots q1 (List.getElem?_eq_getElem hlt), (a3 w hwF _ s _ q2 (List.getElem?_eq_getElem hlt)).mono hm1 .refl⟩
  · refine oP.monoF hm0 .refl fun k o hm => ?_
    refine Fms.of fun t rs e => ?_
    subst e
    exact ⟨rfl, fun _ => ⟨_, _, hm⟩⟩
  · rintro e w' ⟨v, h', s, ob', ρ', G', rfl, hw', g', hq⟩
    obtain ⟨⟨x0, rfl, hx0⟩, hmo⟩ := hmf s ob' hq
    obtain ⟨v', e1, e2⟩ := g'.tm 0 _ rfl
    simp only [lk, Nat.beq_refl, cond_true, Option.some.injEq] at e1
    subst e1
    have hkeep : ∀ b, F b ∨ Bl hpF b → w'.heap[b]? = w.heap[b]? := fun b hb => (hw'.same.block b (g'.fF b hb)).trans (g'.fw.block b hb)
    let ρ2 : Rho := ⟨fun k => if inN ns k = true then ρ' k else ρ k, fun k => if inN ns k = true then ρ'.os k else ρ.os k⟩
    let GN : FG := ⟨fun b => G' b ∧ ¬ Bl hpF b, G'.fam, G'.own⟩
    let G2 : FG := ⟨fun b => G b ∨ (G' b ∧ ¬ Bl hpF b), G'.fam, G.own⟩
    have hob' : ObsOk ρ' ⟨GN, h'.w0⟩ ob' h'.hp := ObsOk.mf (z := ⟨G', h'.w0⟩) (z' := ⟨GN, h'.w0⟩) rfl rfl hmo g'.ob
    have hsv : DenS ρ' ⟨GN, h'.w0⟩ (.d (.u x0)) v := by
      cases e2 with | d e2 => cases e2 with | u e2 => exact .d (.u (DenV.mf (z := ⟨G', h'.w0⟩) (z' := ⟨GN, h'.w0⟩) rfl hx0 e2))
    refine ⟨v, ⟨fun b => h'.F b ∧ ¬ Bl hpF b, h'.w0, h'.hp ++ hpF⟩, _, ob', ρ2, G2, rfl, ⟨hw'.same.mono fun _ hb => hb.1, fun b hb => hw'.inF b hb.1, fun b x hx => ?_, ?_, fun b x hx hb => ?_⟩, hq, fun hs ho => ⟨?_, ?_⟩⟩
    · rcases List.mem_append.1 hx with hx | hx
      · exact hw'.blk b x hx
      · exact (hw.blk b x (List.mem_append_right _ hx)).of_block (hkeep b (.inr ⟨x, hx⟩))
    · rw [List.map_append, List.nodup_append]
      refine ⟨hw'.nd, hnd.2.1, fun a ha b hb hab => ?_⟩
      subst hab
      obtain ⟨⟨_, x⟩, hx, rfl⟩ := List.mem_map.1 ha
      obtain ⟨⟨_, y⟩, hy, hxy⟩ := List.mem_map.1 hb
      dsimp only at hxy
      subst hxy
      exact hw'.out _ x hx (g'.fF _ (.inr ⟨y, hy⟩))
    · rcases List.mem_append.1 hx with hx | hx
      · exact hw'.out b x hx hb.1
      · exact hb.2 ⟨x, hx⟩
    · refine DenS.okP (p := inN ns) (fun k hk => ?_) (fun k hk i o => ?_) hs (DenS.mono (z := ⟨GN, h'.w0⟩) (z' := ⟨G2, h'.w0⟩) ⟨fun _ hb => Or.inr hb, fun _ _ => rfl, fun _ _ _ h => h⟩ .refl hsv)
      · simp only [ρ2, hk, if_true]
      · simp only [ρ2, hk, if_true]
    · have hm : Mz ⟨G, w0⟩ ⟨G2, h'.w0⟩ := ⟨fun _ hb => .inl hb, fun b hb => (g'.fw.block b (.inl (g.gF b hb))).trans (hw.same.block b (g.gF b hb)), fun k i b hb => g'.fm.gr k i b hb⟩
      have hno : ∀ k, (!inN ns k) = true → ¬ inN ns k = true := fun k hk => by simpa using hk
      have ee : ∀ k, (!inN ns k) = true → ρ2 k = ρ k := fun k hk => by show (if inN ns k = true then ρ' k else ρ k) = _; rw [if_neg (hno k hk)]
      have eo : ∀ k, (!inN ns k) = true → ∀ i o, ρ2.os k i o = ρ.os k i o := fun k hk i o => by show (if inN ns k = true then ρ'.os k else ρ.os k) i o = _; rw [if_neg (hno k hk)]
      have hfp : ∀ k, ¬ famIn obP k → G'.fam k = G.fam k := fun k hk => g'.fm.eq k hk
      refine ⟨fun b hb => ⟨g'.fF b (.inl (g.fF b hb)), fun hbl => hbF b hbl (g.fF b hb)⟩, (g.fw.trans (hw.same.mono g.fF)).trans (g'.fw.mono fun b hb => .inl (g.fF b hb)), fun b hb => ?_, fun b hb => ?_, ⟨g.fm.own, fun k hk => ?_, fun k i b hb => g'.fm.gr k i b (g.fm.gr k i b hb)⟩, fun k s0 hk0 => ?_, ObsOk.append ?_ ?_⟩
      · rcases hb with hb | hb
        · exact ⟨g'.fF b (.inl (g.gF b hb)), fun hbl => hbF b hbl (g.gF b hb)⟩
        · exact ⟨g'.gF b hb.1, hb.2⟩
      · rcases hb with hb | hb
        · exact g.gx b hb
        · rcases g'.gx b hb.1 with (q | q) | q
          · exact g.gx b q
          · exact absurd q hb.2
          · exact .inr fun h0 => q (.inl (g.fF b h0))
      · refine (hfp k fun hf => hk ?_).trans (g.fm.eq k hk)
        rw [← g.fm.own]
        exact oP.fam k hf
      · obtain ⟨u, u1, u2⟩ := g.tm k s0 (hk k s0 hk0)
        exact ⟨u, u1, (u2.mono hm .refl).okP ee eo (okTm_get h1 k s0 hk0)⟩
      · refine ObsOk.okP (p := inN ns) (fun k hk => ?_) (fun k hk i o => ?_) ho (ObsOk.monoF (z := ⟨GN, h'.w0⟩) (z' := ⟨G2, h'.w0⟩) ⟨fun _ hb => Or.inr hb, fun _ _ => rfl, fun _ _ _ h => h⟩ .refl (fun k o hm' => ?_) hob')
        · simp only [ρ2, hk, if_true]
        · simp only [ρ2, hk, if_true]
        · cases o <;> simp only [Fms]
          refine ⟨rfl, fun hown => ?_⟩
          have hown' : famIn obP k := by have := hown; rwa [show GN.own = G'.own from rfl, g'.fm.own] at this
          exact oP.fam k hown'
      · refine ObsOk.okP ee eo h2 (oF.monoF hm .refl fun k o hm' => ?_)
        refine Fms.of fun t rs e => ?_
        subst e
        refine ⟨hfp k fun ⟨t, rs, hf⟩ => ?_, id⟩
        have q1 := okO_mem h3 k _ hf
        have q2 := okO_mem h2 k _ hm'
        rw [q1] at q2
        cases q2
/-- A call that lends the objects ps and reads own arrays that it does not lend. -/
theorem Raw.callB {f : FuncId} {xs : Array Operand} {ts : Array TypeId} {d : Option Tmp} {tmT tmK : List (Nat × SV)} {ob obP obF : List (Nat × Ob)} (ps ns : List Nat) {ss : List SV} {QS : SV → List (Nat × Ob) → Prop} (hT : keepTm (fun k => !inN ns k) [] tmT = tmK) (hO : (splitOb ps ob).1 = obP) (hO' : (splitOb ps ob).2 = obF) (hx : argsT obF tmT xs.toList = some ss)
    (h2 : okO (fun k => !inN ns k) obF = true) (h3 : okO (inN ns) obP = true) (hd : (match d with | some d => Nat.blt d nt | none => true) = true) (hn : needA obF tmT True xs.toList) (hc : CallsA P f ss obP QS) (hmf : ∀ s ob', QS s ob' → MfS s ∧ MfO ob') (k : ∀ s ob', QS s ob' → Bk d ns tmK obF K s ob') : Raw P nt ⟨d, .call ⟨.value (.func f), xs, ts⟩, ty, pos, af, gd⟩ tmT ob K := ⟨fun Q c tm h ρ G g => by
  obtain ⟨F, w0, hp⟩ := h
  obtain ⟨ha, hb, o1, o2, o3⟩ := splitOb_ok (ps := ps) g.ob
  rw [hO] at o1
  rw [hO'] at o2
  have g2 : Gd c ⟨tmT, obP ++ obF⟩ tm ⟨F, w0, ha ++ hb⟩ ρ G := ⟨g.fF, g.fw, g.gF, g.gx, g.fm, g.tm, o1.append o2⟩
  have g3 : Gd c ⟨tmT, obF⟩ tm ⟨F, w0, hb⟩ ρ G := ⟨g.fF, g.fw, g.gF, g.gx, g.fm, g.tm, o2⟩
  have hh : ∀ w, Hp ⟨F, w0, hp⟩ w → Hp ⟨F, w0, ha ++ hb⟩ w := fun w hw => hw.perm o3
  subst hT
  obtain ⟨vs, a1, a2, a3⟩ := argsT_ev (ρ' := ρ) g3 hx
  have hcall := callB_vals (tmK := keepTm (fun k => !inN ns k) [] tmT) g2 o1 o2 a2 (fun w hw => (a3 w hw True hn).2.1) (fun k s h => (keepTm_get h).2) keepTm_ok h2 h3 hc hmf
  obtain ⟨fn, cd, f1, f2, f3⟩ := hc.fn
  have hxs : xs = xs.toList.toArray := by simp
  rw [hxs]
  cases d with
  | some d =>
    refine OpS.call (P := P) (nt := nt) (Q := Q) (fun v h2 => Kd c K ((d, v) :: tm) h2) f1 f2 f3 a1 hd (fun w hw => (hcall w (hh w hw)).mono ?_) fun _ _ hk => hk
    rintro e w' ⟨v, h3, s, ob', ρ', G', rfl, hw3, hq, hg⟩
    obtain ⟨b1, b2, b3⟩ := k s ob' hq
    obtain ⟨q1, q2⟩ := hg b1 b2
    exact ⟨v, h3, rfl, hw3, .of (q2.put q1) b3⟩
  | none =>
    refine OpS.call0 (P := P) (nt := nt) (Q := Q) (fun v h2 => Kd c K tm h2) f1 f2 f3 a1 (fun w hw => (hcall w (hh w hw)).mono ?_) fun _ _ hk => hk
    rintro e w' ⟨v, h3, s, ob', ρ', G', rfl, hw3, hq, hg⟩
    obtain ⟨b1, b2, b3⟩ := k s ob' hq
    obtain ⟨q1, q2⟩ := hg b1 b2
    exact ⟨v, h3, rfl, hw3, .of q2 b3⟩⟩
end
/-- An own box becomes the first member of an empty family. -/
theorem Ghost.toFam {tmT : List (Nat × SV)} {ob : List (Nat × Ob)} (k0 t0 K0 : Nat) (sp : List (Nat × (Nat × Nat))) {t ty : TypeId} {cs : List D} {ys : List V} (hx : lk t0 tmT = some (.d (.p k0 0))) (hk : lk k0 ob = some (.bx t cs)) (hb : borL [] cs = some ys) (hK : lk K0 (obr k0 ob) = some (.fm ty [])) (hf : famT t (obu K0 (.fm t []) (obr k0 ob)) = some (K0, [])) (h1 : famOne K0 (obu K0 (.fm t []) (obr k0 ob)) = true) :
    Ghost tmT ob ((t0, .d (.u (.m K0 0 0))) :: dropT K0 tmT) (dropO K0 (obu K0 (.fm t ([] ++ [mkE sp 0 ys])) (obu K0 (.fm t []) (obr k0 ob)))) := ⟨fun c tm h ρ G w g hw => by
  obtain ⟨F, w0, hp⟩ := h
  obtain ⟨vx, x1, x2⟩ := g.tm t0 _ hx
  obtain ⟨Y, f, ⟨b, us, rfl, g2, g3⟩, g6, _, g8⟩ := g.ob.set hk
  have g4 := borL_nil_den hb g3
  have hperm : hp.Perm ([(b, ⟨t, us, cs.length⟩)] ++ f []) := by have := g6.perm [(b, (⟨t, us, cs.length⟩ : Hb))]; rwa [g6.eq] at this
  obtain ⟨X, f2, ⟨q1, q1'⟩, q2, q3, _⟩ := g8.set hK
  have hX : ∀ {bs : List Nat}, FamOk ρ ⟨G, w0⟩ K0 ty 0 bs [] X → X = [] ∧ bs = [] := fun h => by
    cases h
    exact ⟨rfl, rfl⟩
  obtain ⟨rfl, hfam⟩ := hX q1
  have hnew : ObOk ρ ⟨G, w0⟩ K0 (.fm t []) [] := ⟨by show FamOk _ _ _ _ _ (G.fam K0) _ _; rw [show G.fam K0 = [] from hfam]; exact .nil, q1'⟩
  have g1 : Gd c ⟨tmT, obu K0 (.fm t []) (obr k0 ob)⟩ tm ⟨F, w0, f2 []⟩ ρ G := ⟨g.fF, g.fw, g.gF, g.gx, g.fm, g.tm, q3 (.fm t []) [] hnew⟩
  obtain ⟨hp', G', ρ', z1, z2, z3⟩ := g1.newFam hf h1 g4 b sp
  have hlen : us.length = cs.length := g3.len
  have e2 : f2 [] = f [] := q2.eq
  cases x2 with | d x2 => cases x2 with | @p _ _ b' _ _ h0 =>
  rw [g2] at h0
  injection h0 with h0
  injection h0 with e1 _ _
  injection e1 with e1
  injection e1 with e1 _ _
  subst e1
  refine ⟨⟨F, w0, hp'⟩, ρ', G', z1.slot x1 (.d (.u (.m z3))), hw.perm (hperm.trans ?_)⟩
  rw [← hlen]
  refine List.Perm.trans ?_ z2.symm
  rw [e2]
  exact List.Perm.refl _⟩
/-- A nil slice is seen as an own array without rows. -/
theorem Ghost.nlOw {tmT : List (Nat × SV)} {ob : List (Nat × Ob)} (t K0 e sz : Nat) (hx : lk t tmT = some (.d (.u .nl))) (hn : newN K0 tmT ob = true) : Ghost tmT ob ((t, .d (.ow K0 0)) :: tmT) ((K0, .ar e sz []) :: ob) := ⟨fun c tm h ρ G w g hw => by
  obtain ⟨F, w0, hp⟩ := h
  obtain ⟨vx, x1, x2⟩ := g.tm t _ hx
  cases x2 with | d x2 => cases x2 with | u x2 => cases x2 with | nl =>
  have ho : ObOk (upd ρ K0 ⟨none, 0, sz⟩) ⟨G, w0⟩ K0 (.ar e sz []) [] := ⟨none, 0, [], rfl, upd_self, OkA.nil sz, .nil, by simp⟩
  exact ⟨⟨F, w0, hp⟩, _, G, (g.new hn ho).slot x1 (.d (.ow (l := ⟨none, 0, sz⟩) upd_self (fun _ => rfl) (Nat.zero_le _))), hw⟩⟩
end Go.Proofs.YtgloielnnakknaaDoor
namespace Go.Proofs.YtgloielnnakknaaDoor
open Go.RowKit
section
variable {c : Cx} {st : St} {tm : List (Nat × Value)} {F : Nat → Prop} {w0 w w' : World} {hp : List (Nat × Hb)} {ρ : Rho} {G : FG}
theorem Below.sameF (hw : Hp ⟨F, w0, hp⟩ w) (hb : Below w.heap.size w w') : Same F w0 w' :=
  hw.same.trans ⟨hb.os, hb.tape, hb.output, hb.size, fun k hk => hb.block k (hw.Flt hk)⟩
theorem Gd.newF (g : Gd c st tm ⟨F, w0, hp⟩ ρ G) (hw : Hp ⟨F, w0, hp⟩ w) (hb : Below w.heap.size w w') (hl : w.heap.size < w'.heap.size) : Gd c st tm ⟨fun x => F x ∨ x = w.heap.size, w', hp⟩ ρ (G.or fun x => x = w.heap.size) ∧ Hp ⟨fun x => F x ∨ x = w.heap.size, w', hp⟩ w' := by
  have s1 := Below.sameF hw hb
  have hz : Mz ⟨G, w0⟩ ⟨G.or fun x => x = w.heap.size, w'⟩ := ⟨fun _ h => .inl h, fun b hb => s1.block b (g.gF b hb), fun _ _ _ h => h⟩
  refine ⟨⟨fun b hb => .inl (g.fF b hb), g.fw.trans (s1.mono g.fF), fun b hb => hb.imp (g.gF b) id, fun b h2 => ?_, g.fm.or, fun j s hj => ?_, g.ob.mono hz .refl⟩, ⟨Same.refl _ _, fun b h2 => ?_, fun b x hx => ?_, hw.nd, fun b x hx h2 => ?_⟩⟩
  · rcases h2 with h2 | rfl
    · exact g.gx b h2
    · exact .inr fun h0 => Nat.lt_irrefl _ (hw.Flt (g.fF _ h0))
  · obtain ⟨v, v1, v2⟩ := g.tm j s hj
    exact ⟨v, v1, v2.mono hz .refl⟩
  · rcases h2 with h2 | rfl
    · exact Nat.lt_of_lt_of_le (hw.Flt h2) hb.size
    · exact hl
  · have h1 := hw.blk b x hx
    exact h1.of_block (hb.block b h1.lt)
  · rcases h2 with h2 | rfl
    · exact hw.out b x hx h2
    · exact Nat.lt_irrefl _ (hw.blk _ x hx).lt
end
theorem bytes_flat (l : List UInt8) : (l.map fun b => [V.int .u8 (b.toNat : Int)]).flatten = l.map fun b => V.int .u8 (b.toNat : Int) := by
  induction l with
  | nil => rfl
  | cons x r ih => simp [ih]
section
variable {P : Program} {T : List (Nat × Ty)} [hT : Tys P T] {nt : Nat} {ty : TypeId} {pos : String} {af : Array Edge} {gd : Option (Nat × Bool)} {K : Kt}
/-- The bytes of a string. -/
theorem Raw.convBytes {x : Operand} {t t2 d e : Nat} {s : ByteArray} {tmT : List (Nat × SV)} {ob : List (Nat × Ob)} {i i2 i3 : Ty} (hx : evT tmT x = some (.d (.u (.str s)))) (ht : lk t T = some i) (hk : i.k = .sr) (ht2 : lk t2 T = some i2) (hk2 : i2.k = .sl e) (ht3 : lk e T = some i3) (hk3 : i3.k = .in_ .u8) (hd : Nat.blt d nt = true) (k : K ((d, .d (.u (.sl 1 (s.data.toList.map fun b => [V.int .u8 (b.toNat : Int)])))) :: tmT) ob) : Raw P nt ⟨some d, .convert t t2 x, ty, pos, af, gd⟩ tmT ob K := ⟨fun Q c tm h ρ G g => by
  obtain ⟨vx, x1, x2⟩ := g.ev hx
  cases x2 with | d x2 => cases x2 with | u x2 => cases x2 with | str _ hs =>
  have ku := (hT.ok t i ht).kind
  rw [hk] at ku
  have ku : P.underlying t = some .string := ku
  have ku2 := (hT.ok t2 i2 ht2).kind
  rw [hk2] at ku2
  have ku2 : P.underlying t2 = some (.slice e) := ku2
  have ku3 := (hT.ok e i3 ht3).kind
  rw [hk3] at ku3
  have ku3 : P.underlying e = some (.int .u8) := ku3
  obtain ⟨F, w0, hp⟩ := h
  refine OpS.of_run hd fun a w ha hw => ?_
  have hrun := Go.Lib.run_convert_string_bytes w t t2 e s ku ku2 ku3
  have hsz := Go.Lib.bytesWorld_size w e s
  have hbel : Below w.heap.size w (Go.Lib.bytesWorld w e s) := ⟨by simp [Go.Lib.bytesWorld, World.freeze]; rfl, by simp [Go.Lib.bytesWorld, World.freeze], by simp [Go.Lib.bytesWorld, World.freeze]; rfl, by omega, fun j hj => Go.Lib.bytesWorld_at_old w e s j hj⟩
  obtain ⟨g2, hw2⟩ := Gd.newF g hw hbel (by omega)
  have hcap := grownCap_ge w s.size 0 e
  refine ⟨_, _, _, by simp [execOp, ha.ev x1, hrun], hw2, .of (g2.put (d := d) (s := .d (.u (.sl 1 (s.data.toList.map fun b => [V.int .u8 (b.toNat : Int)])))) (.d (.u (.sl (b := w.heap.size) (o := 0) (s.data.toList.map fun b => Value.int .u8 (b.toNat : Int)) (by simp) hcap hs (fun r hr => ?_) (fun _ => ⟨rfl, .inr rfl⟩) (by rw [bytes_flat]; simp) (fun j u hu => ?_) ?_ (fun j y u hy hu => ?_))))) k⟩
  · obtain ⟨b, _, rfl⟩ := List.mem_map.1 hr
    rfl
  · rw [List.getElem?_map] at hu
    cases hb : s.data.toList[j]? with
    | none => rw [hb] at hu; simp at hu
    | some b =>
      rw [hb] at hu
      simp only [Option.map_some, Option.some.injEq] at hu
      subst hu
      have hj : j < s.size := by have := (List.getElem?_eq_some_iff.1 hb).1; simpa using this
      have := Go.Lib.bytesWorld_cell w e s j hj
      rw [List.getD_eq_getElem?_getD, hb] at this
      simpa using this
  · refine List.all_eq_true.2 fun v hv => ?_
    obtain ⟨b, _, rfl⟩ := List.mem_map.1 hv
    rfl
  · rw [bytes_flat, List.getElem?_map] at hy
    rw [List.getElem?_map] at hu
    cases hb : s.data.toList[j]? with
    | none => rw [hb] at hu; simp at hu
    | some b =>
      rw [hb] at hu hy
      simp only [Option.map_some, Option.some.injEq] at hu hy
      subst hu hy
      exact .int _ _⟩
end
end Go.Proofs.YtgloielnnakknaaDoor
namespace Go.Proofs.YtgloielnnakknaaDoor
open Go.RowKit
section
variable {P : Program} {T : List (Nat × Ty)} [hT : Tys P T] {nt : Nat} {ty : TypeId} {pos : String} {af : Array Edge} {gd : Option (Nat × Bool)} {K : Kt}
omit hT in
theorem Raw.extSB {f : FuncId} {fn : Func} {e : Array Value → Sem Value} {x y : Operand} {ts : Array TypeId} {d : Nat} {st : ByteArray} {b r : Int} {tmT : List (Nat × SV)} {ob : List (Nat × Ob)} (hx : evT tmT x = some (.d (.u (.str st)))) (hy : evT tmT y = some (.d (.u (.int .u8 b)))) (hf : P.funcs[f]? = some fn) (hname : (fn.name == "runtime.NumGoroutine") = false) (hb : fn.body.isNone = true) (hn : Extern.findNext fn = none) (he : Extern.find fn = some e) (hr : ∀ w, (e #[.string st, .int .u8 b]).run P w = .ok (.int .i64 r) w) (hd : Nat.blt d nt = true) (k : K ((d, .d (.u (.int .i64 r))) :: tmT) ob) : Raw P nt ⟨some d, .call ⟨.value (.func f), #[x, y], ts⟩, ty, pos, af, gd⟩ tmT ob K := ⟨fun Q c tm h ρ G g => by
  obtain ⟨vx, x1, x2⟩ := g.ev hx
  cases x2 with | d x2 => cases x2 with | u x2 => cases x2 with | str _ hs =>
  have y1 := evT_int g hy
  refine OpS.yd (v := .int .i64 r) ⟨fun a w ha hw => ?_⟩ hd (.of (g.put (.d (.u (.int _ _)))) k)
  have hargs : #[x, y].map a.eval = #[.string st, .int .u8 b] := by simp [ha.ev x1, ha.ev y1]
  simp only [execOp, resolve, Sem.run_bind, hargs, Deferred.ofValue, Act.eval, invoke]
  simp [run_callFunc_extern hf hname hb hn he, hr]⟩
end
end Go.Proofs.YtgloielnnakknaaDoor
namespace Go.Proofs.YtgloielnnakknaaDoor
open Go.RowKit
/-- The bytes of a string as rows. -/
def bwR (s : ByteArray) : List (List V) := s.data.toList.map fun b => [V.int .u8 (b.toNat : Int)]
theorem bwR_app (a b : ByteArray) : bwR (a ++ b) = bwR a ++ bwR b := by simp [bwR, ByteArray.data_append]
theorem bwR_len (s : ByteArray) : (bwR s).length = s.size := by simp [bwR]
theorem bwR_flat (s : ByteArray) : (bwR s).flatten = s.data.toList.map fun b => V.int .u8 (b.toNat : Int) := bytes_flat _
theorem bwR_den {z : Fz} (s : ByteArray) : DenVL z (bwR s).flatten (Go.Lib.strCells s) := by
  rw [bwR_flat]
  refine ⟨by simp [Go.Lib.strCells], List.all_eq_true.2 fun v hv => Go.Lib.strCells_oneCell s v hv, fun j d u e1 e2 => ?_⟩
  simp only [Go.Lib.strCells, List.getElem?_map] at e1 e2
  cases hb : s.data.toList[j]? with
  | none => rw [hb] at e1; cases e1
  | some b =>
    rw [hb] at e1 e2
    simp only [Option.map_some, Option.some.injEq] at e1 e2
    subst e1 e2
    exact .int _ _
/-- A row's cells tell its bytes. -/
theorem bwR_cells {z : Fz} {s : ByteArray} {us : List Value} (h : DenVL z (bwR s).flatten us) : us = Go.Lib.strCells s := by
  rw [bwR_flat] at h
  apply List.ext_getElem?
  intro j
  have hl := h.len
  simp only [List.length_map] at hl
  by_cases hj : j < us.length
  · have hb : s.data.toList[j]? = some s.data.toList[j] := List.getElem?_eq_getElem (by omega)
    obtain ⟨u, hu⟩ : ∃ u, us[j]? = some u := ⟨_, List.getElem?_eq_getElem hj⟩
    have := h.den j (.int .u8 ((s.data.toList[j]).toNat : Int)) u (by rw [List.getElem?_map, hb]; rfl) hu
    cases this
    rw [hu, Go.Lib.strCells, List.getElem?_map, hb]
    rfl
  · rw [List.getElem?_eq_none (by omega), List.getElem?_eq_none (by simp [Go.Lib.strCells]; simp at hl; omega)]
theorem run_app_str {P : Program} {w : World} {t u ty e : TypeId} {i : TypeInfo} (ht : P.underlying t = some (.slice e)) (hu : P.underlying u = some .string) (hi : P.info? e = some i) (hz : i.zero = some (.int .u8 0)) (hs1 : i.size = 1) (hb1 : i.bytes = 1) {A : Option Addr} {n c : Nat} {xs : List Value} (hown : w.ownsRow 0 e 1 (.slice A n c) n xs) (s : ByteArray) (hmx : n + s.size ≤ 140737488355328) :
    ∃ A' c' w', (Builtin.append_ #[t, u] ty #[.slice A n c, .string s]).run P w = .ok (.slice A' (n + s.size) c') w' ∧ w'.ownsRow 0 e 1 (.slice A' (n + s.size) c') (n + s.size) (xs ++ Go.Lib.strCells s) ∧ w.grownBy w' (Value.slice A n c).ownBlock ∧ ((Value.slice A' (n + s.size) c').ownBlock = (Value.slice A n c).ownBlock ∨ (Value.slice A' (n + s.size) c').ownBlock = some w.heap.size) := by
  obtain ⟨v', w', hrun, h2, h3, h4⟩ := Go.Lib.run_append_own_string (P := P) w 0 t u ty e i ht hu hi hz hs1 hb1 _ n xs hown s (by unfold maxLen; omega) hmx (Nat.zero_le _)
  obtain ⟨A', c', rfl, _⟩ := own_form h2
  refine ⟨A', c', w', hrun, h2, h3, ?_⟩
  have hl : xs.length = n := by simpa using hown.1
  rcases hown.2 with ⟨hv, hx⟩ | ⟨g, cap, cur, hv, _, hg, hnc, hcm, hcs, htake⟩
  · injection hv with q1 q2 q3
    subst q1 q2 q3
    by_cases hs : s.size = 0
    · have := h4.2 ⟨rfl, hs⟩
      injection this with q1 _ _
      subst q1
      exact .inl rfl
    · have hr := run_append_nil_string (P := P) (w := w) (ty := ty) t u e i _ ht hu hi hz s (by omega) (by omega) (by rw [hb1]; omega)
      simp only [Nat.zero_add] at hrun ⊢
      rw [hr] at hrun
      injection hrun with q1 _
      injection q1 with q1 _ _
      subst q1
      exact .inr rfl
  · injection hv with q1 q2 q3
    subst q1 q3
    by_cases hroom : n + s.size ≤ c
    · have hr := Go.Lib.run_append_room_string (P := P) (w := w) (ty := ty) t u e i ht hu hi hs1 g n c cur hg s hroom (by have h9 : cur.size = c := (by simpa using hcs); omega)
      rw [hr] at hrun
      injection hrun with q1 _
      injection q1 with q1 _ _
      subst q1
      exact .inl rfl
    · have holds : ∀ (j : Nat) u, xs[j]? = some u → w.cell? ((⟨g, 0, none⟩ : Addr).add j) = some u := hown.cells (g := g) rfl
      have hr := Go.Lib.run_append_grow_string (P := P) (w := w) (ty := ty) t u e i _ ht hu hi hz ⟨g, 0, none⟩ n c xs (by rw [hs1]; simpa using hl) holds s (by omega) (by omega) (by rw [hb1]; exact growslice_fits (by omega) (by omega))
      rw [hr] at hrun
      injection hrun with q1 _
      injection q1 with q1 _ _
      subst q1
      exact .inr rfl
section
variable {P : Program} {T : List (Nat × Ty)} [hT : Tys P T] {nt : Nat} {ty : TypeId} {pos : String} {af : Array Edge} {gd : Option (Nat × Bool)} {K : Kt}
/-- A string is appended to bytes. -/
theorem Raw.appendStr {x y : Operand} {t t' e d n : Nat} {s : ByteArray} {sx : SV} {rs : List (List V)} {kx : Option Nat} {i i' : Ty} {jk : Tk} {jz : List Value} {tmT : List (Nat × SV)} {ob : List (Nat × Ob)} (hx : evT tmT x = some sx) (hne : ∀ z r, sx ≠ .d (.u (.sl z r))) (hrx : rowsT ob sx = some (rs, n, kx)) (h2 : tyT ob e sx = true) (h3 : szT ob 1 sx = true) (hn : rs.length = n) (hy : evT tmT y = some (.d (.u (.str s))))
    (ht : lk t T = some i) (hk : i.k = .sl e) (ht' : lk t' T = some i') (hk' : i'.k = .sr) (he : lk e T = some ⟨jk, 1, 1, jz⟩) (hz : (P.info? e).bind (fun f => f.zero) = some (.int .u8 0)) (hmx : n + s.size ≤ 140737488355328) (hd : Nat.blt d nt = true) (h6 : newN d tmT ob = true) (k : K ((d, .d (.ow d (rs ++ bwR s).length)) :: tmT) ((d, .ar e 1 (rs ++ bwR s)) :: obx kx ob)) : Raw P nt ⟨some d, .call ⟨.builtin .append, #[x, y], #[t, t']⟩, ty, pos, af, gd⟩ tmT ob K := ⟨fun Q c tm h ρ G g => by
  obtain ⟨vx, q1, q2⟩ := g.ev hx
  obtain ⟨vy, r1, r2⟩ := g.ev hy
  cases r2 with | d r2 => cases r2 with | u r2 => cases r2 with | str _ hs =>
  obtain ⟨A, cc, us, f, rfl, b1, b2, b3, b4, b5⟩ := base_den g (e := e) (fun z r e' => hne z r e') hrx h3 h2 hn q2
  obtain ⟨F, w0, hp⟩ := h
  have ku := (hT.ok t i ht).kind
  rw [hk] at ku
  have ku : P.underlying t = some (.slice e) := ku
  have ku' := (hT.ok t' i' ht').kind
  rw [hk'] at ku'
  have ku' : P.underlying t' = some .string := ku'
  obtain ⟨fi, zv, hf1, hf2, hf3, hf4, hf5⟩ := (hT.ok e _ he).info
  rw [hf1] at hz
  have hz : fi.zero = some (.int .u8 0) := hz
  have hsl := bwR_len s
  have key : ∀ A' c', OkA A' (us ++ Go.Lib.strCells s) (n + s.size) c' 1 → Kd c K ((d, .slice A' (n + s.size) c') :: tm) ⟨F, w0, f (hbA A' e (us ++ Go.Lib.strCells s) c' 1)⟩ := fun A' c' hA' => by
    have hlen : (rs ++ bwR s).length = n + s.size := by rw [List.length_append, hn, hsl]
    have ho : ObOk (upd ρ d ⟨A', c', 1⟩) ⟨G, w0⟩ d (.ar e 1 (rs ++ bwR s)) (hbA A' e (us ++ Go.Lib.strCells s) c' 1) :=
      ⟨A', c', us ++ Go.Lib.strCells s, rfl, upd_self, by rw [hlen]; exact hA', by rw [List.flatten_append]; exact b3.app (bwR_den s), fun r hr => by
        rcases List.mem_append.1 hr with hr | hr
        · exact b4 r hr
        · obtain ⟨b, _, rfl⟩ := List.mem_map.1 hr; rfl⟩
    have g0 : Gd c ⟨tmT, obx kx ob⟩ tm ⟨F, w0, f []⟩ ρ G := ⟨g.fF, g.fw, g.gF, g.gx, g.fm, g.tm, b5⟩
    have hnew : newN d tmT (obx kx ob) = true := by
      obtain ⟨n1, n2⟩ := newN_tm (st := ⟨tmT, ob⟩) h6
      have : hasOb d (obx kx ob) = false := by
        cases kx with
        | none => exact n2
        | some k => exact hasOb_obr n2
      simp only [newN, n1, this, cond_false]
    have g1 := (g0.new hnew ho).put (d := d) (s := .d (.ow d (rs ++ bwR s).length)) (v := .slice A' (n + s.size) c') (by
      rw [hlen]
      refine .d (.ow upd_self (fun hA0 => ?_) hA'.cap)
      rcases hA'.form with ⟨_, h0, _⟩ | ⟨b, hb⟩
      · exact h0
      · have : A' = none := hA0
        rw [hb] at this; cases this)
    exact ⟨_, _, _, _, fun w hw => hw.perm (b2.perm _), g1, k⟩
  refine OpS.of_run hd fun a w ha hw => ?_
  have hown := hw.row b2 b1
  obtain ⟨A', c', w', e1, e2, e3, e4⟩ := run_app_str (P := P) (ty := ty) ku ku' hf1 hz hf2 hf3 hown s hmx
  exact ⟨_, w', _, by simp [execOp, resolve, invoke, builtin, ha.ev q1, ha.ev r1, e1], hw.rowGrow b2 b1 e3 e2 e4, key A' c' (OkA.of_own e2)⟩⟩
omit hT in
/-- A function without a body that gives back its argument. -/
theorem Raw.extId {f : FuncId} {fn : Func} {e : Array Value → Sem Value} {x : Operand} {ts : Array TypeId} {d : Nat} {s : SV} {tmT : List (Nat × SV)} {ob : List (Nat × Ob)} (hx : evT tmT x = some s) (hf : P.funcs[f]? = some fn) (hname : (fn.name == "runtime.NumGoroutine") = false) (hb : fn.body.isNone = true) (hn : Extern.findNext fn = none) (he : Extern.find fn = some e) (hr : ∀ v w, (e #[v]).run P w = .ok v w) (hd : Nat.blt d nt = true) (k : K ((d, s) :: tmT) ob) : Raw P nt ⟨some d, .call ⟨.value (.func f), #[x], ts⟩, ty, pos, af, gd⟩ tmT ob K := ⟨fun Q c tm h ρ G g => by
  obtain ⟨vx, x1, x2⟩ := g.ev hx
  refine OpS.yd (v := vx) ⟨fun a w ha hw => ?_⟩ hd (.of (g.put x2) k)
  have hargs : #[x].map a.eval = #[vx] := by simp [ha.ev x1]
  simp only [execOp, resolve, Sem.run_bind, hargs, Deferred.ofValue, Act.eval, invoke]
  simp [run_callFunc_extern hf hname hb hn he, hr]⟩
omit hT in
theorem Hp.other {F : Nat → Prop} {w0 w w' : World} {hp : List (Nat × Hb)} {b : Nat} (hw : Hp ⟨F, w0, hp⟩ w) (hs : Same (· ≠ b) w w') (h1 : ¬ F b) (h2 : ∀ x, (b, x) ∉ hp) : Hp ⟨F, w0, hp⟩ w' :=
  ⟨hw.same.trans (hs.mono fun k hk e => h1 (e ▸ hk)), hw.inF, fun b' x hx => (hw.blk b' x hx).of_block (hs.block b' fun e => h2 x (e ▸ hx)), hw.nd, hw.out⟩
theorem freeze_same {w : World} {b n : Nat} : Same (· ≠ b) w (w.freeze ⟨b, 0, none⟩ n) := by
  unfold World.freeze
  split
  · exact Same.refl _ _
  · exact ⟨rfl, rfl, rfl, by simp, fun k hk => by
      simp only [Array.getElem?_modify]
      rw [if_neg (fun e => hk e.symm)]⟩
/-- A pointer to a member of a family is turned to unsafe.Pointer. -/
theorem Raw.toUnsafeM {x : Operand} {t t2 d k m : Nat} {i : Ty} {u u' : TypeId} {rs : List (List E)} {row : List E} {tmT : List (Nat × SV)} {ob : List (Nat × Ob)} (hx : evT tmT x = some (.d (.u (.m k m 0)))) (hko : lk k ob = some (.fm u' rs)) (hr : rs[m]? = some row) (hcs : row ≠ []) (ht : lk t T = some i) (hk : i.k = .pt u) (hu2 : P.underlying t2 = some .unsafePointer) (hsz : ((P.info? u).map fun j => decide (j.size ≠ 0)) = some true) (hd : Nat.blt d nt = true) (kk : K ((d, .d (.u (.m k m 0))) :: tmT) ob) : Raw P nt ⟨some d, .convert t t2 x, ty, pos, af, gd⟩ tmT ob K := ⟨fun Q c tm h ρ G g => by
  obtain ⟨vx, x1, x2⟩ := g.ev hx
  have x3 := x2
  cases x2 with | d x2 => cases x2 with | u x2 =>
  obtain ⟨b, us, X, rfl, c1, hm, _⟩ := g.fam hko x2 hr
  have ku := (hT.ok t i ht).kind
  rw [hk] at ku
  have ku : P.underlying t = some (.pointer u) := ku
  cases hj : P.info? u with
  | none => rw [hj] at hsz; cases hsz
  | some j =>
    rw [hj] at hsz
    have hjs : j.size ≠ 0 := by simpa using hsz
    refine OpS.yd (v := .pointer (some ⟨b, 0, none⟩)) ⟨fun a w ha hw => ?_⟩ hd (.of (g.put x3) kk)
    obtain ⟨junk, q1, q2⟩ : HasB w b ⟨u', us, us.length⟩ := hw.blk b _ hm
    have q3 : us.length + junk.length = us.length := q2
    have q4 : junk = [] := List.eq_nil_of_length_eq_zero (by omega)
    have hsh : w.shape? b = some (u', us.length) := by simp only [World.shape?, q1, q4]; simp
    have hlen : 0 < us.length := by rw [c1.len]; exact List.length_pos_iff.2 hcs
    have := Go.Lib.run_to_unsafe (P := P) w (a := ⟨b, 0, none⟩) ku hu2 hj hjs hsh (by simpa using hlen)
    simp [execOp, ha.ev x1, this]⟩
/-- .. and back. -/
theorem Raw.fromUnsafeM {x : Operand} {t t2 d k m n0 : Nat} {i : Ty} {u : TypeId} {rs : List (List E)} {row : List E} {tmT : List (Nat × SV)} {ob : List (Nat × Ob)} (hx : evT tmT x = some (.d (.u (.m k m 0)))) (hko : lk k ob = some (.fm u rs)) (hr : rs[m]? = some row) (hn : row.length = n0) (ht : lk t2 T = some i) (hk : i.k = .pt u) (hu2 : P.underlying t = some .unsafePointer) (hi : (P.info? u).isSome = true) (hl : liesAt P P.depth u (n0 / P.cellsOf u) 0 u 1 = true) (hd : Nat.blt d nt = true) (kk : K ((d, .d (.u (.m k m 0))) :: tmT) ob) : Raw P nt ⟨some d, .convert t t2 x, ty, pos, af, gd⟩ tmT ob K := ⟨fun Q c tm h ρ G g => by
  obtain ⟨vx, x1, x2⟩ := g.ev hx
  have x3 := x2
  cases x2 with | d x2 => cases x2 with | u x2 =>
  obtain ⟨b, us, X, rfl, c1, hm, _⟩ := g.fam hko x2 hr
  have ku := (hT.ok t2 i ht).kind
  rw [hk] at ku
  have ku : P.underlying t2 = some (.pointer u) := ku
  subst hn
  cases hj : P.info? u with
  | none => rw [hj] at hi; cases hi
  | some j =>
    refine OpS.yd (v := .pointer (some ⟨b, 0, none⟩)) ⟨fun a w ha hw => ?_⟩ hd (.of (g.put x3) kk)
    obtain ⟨junk, q1, q2⟩ : HasB w b ⟨u, us, us.length⟩ := hw.blk b _ hm
    have q3 : us.length + junk.length = us.length := q2
    have q4 : junk = [] := List.eq_nil_of_length_eq_zero (by omega)
    have hsh : w.shape? b = some (u, row.length) := by rw [← c1.len]; simp only [World.shape?, q1, q4]; simp
    have := Go.Lib.run_from_unsafe (P := P) w (a := ⟨b, 0, none⟩) hu2 ku hj hsh hl
    simp [execOp, ha.ev x1, this]⟩
omit hT in
/-- unsafe.SliceData of an array that a member owns. -/
theorem Raw.sliceDataR {x : Operand} {ts : Array TypeId} {d k m o n sz : Nat} {tmT : List (Nat × SV)} {ob : List (Nat × Ob)} (hx : evT tmT x = some (.d (D.r k m o sz n))) (hne : n ≠ 0) (hd : Nat.blt d nt = true) (kk : K ((d, .d (D.re k m o 0 0)) :: tmT) ob) : Raw P nt ⟨some d, .call ⟨.builtin .unsafeSliceData, #[x], ts⟩, ty, pos, af, gd⟩ tmT ob K := ⟨fun Q c tm h ρ G g => by
  obtain ⟨vx, x1, x2⟩ := g.ev hx
  cases x2 with | d x2 =>
  cases x2 with | @r _ _ _ _ _ cc A h0 hA hc hm =>
  rcases hA with ⟨_, h1⟩ | ⟨b, rfl⟩
  · exact absurd h1 hne
  · refine OpS.yd (v := .pointer (some ⟨b, 0, none⟩)) ⟨fun a w ha hw => ?_⟩ hd (.of (g.put (.d ?_)) kk)
    · have := Go.Lib.run_unsafeSliceData_row (P := P) w ts ty ⟨b, 0, none⟩ n cc (by omega)
      simp [execOp, resolve, invoke, builtin, ha.ev x1, this]
    · have := Den.re (z := ⟨G, h.w0⟩) (j := 0) (f := 0) h0
      simpa using this⟩
/-- unsafe.String of bytes that a member owns: they are written no more. -/
theorem Raw.unsafeStrR {x y : Operand} {pt it d k m o u e : Nat} {i : Ty} {rs : List (List E)} {row : List E} {s : ByteArray} {n : Int} {tmT : List (Nat × SV)} {ob : List (Nat × Ob)} (hx : evT tmT x = some (.d (D.re k m o 0 0))) (hy : evT tmT y = some (.d (.u (.int .i64 n)))) (hko : lk k ob = some (.fm u rs)) (h1 : famOne k ob = true) (hr : rs[m]? = some row) (ho : row[o]? = some (.os e 1 (bwR s))) (hn : n = (s.size : Int)) (h0 : s.size ≠ 0) (ht : lk pt T = some i) (hk : i.k = .pt e) (hc : P.cellsOf e = 1) (hd : Nat.blt d nt = true)
    (kk : K ((d, .d (.u (.str s))) :: dropT k tmT) (dropO k (obu k (.fm u (rs.set m (row.set o .hl))) ob))) : Raw P nt ⟨some d, .call ⟨.builtin .unsafeString, #[x, y], #[pt, it]⟩, ty, pos, af, gd⟩ tmT ob K := ⟨fun Q c tm h ρ G g => by
  obtain ⟨vx, x1, x2⟩ := g.ev hx
  have y1 := evT_int g hy
  cases x2 with | d x2 =>
  obtain ⟨F, w0, hp⟩ := h
  cases x2 with | @re _ _ _ _ _ b1 c1 sz1 x0 =>
  have hmem : ∃ b, (G.fam k)[m]? = some b := by
    obtain ⟨Y, f, ⟨a1, _⟩, _⟩ := g.ob.at_ hko
    obtain ⟨b, _, _, _, a2, _⟩ := a1.split hr
    exact ⟨b, a2⟩
  obtain ⟨b0, hb0⟩ := hmem
  obtain ⟨b, us, Xe, rest, _, hlt, hone, ⟨u0, hu0, A', cc', us1, rfl, rfl, t3, t4, t5, t6⟩, p1, _, p3⟩ := g.famPut (e' := .hl) (v := .slice (some ⟨b1, 0, none⟩) (bwR s).length c1) (p := .pointer (some ⟨b0, o, none⟩)) hko h1 (.m hb0) hr ho
  rw [x0] at t3
  injection t3 with t3
  injection t3 with e1 e2 e3
  subst e1 e2 e3
  obtain ⟨hq, z1, z2⟩ := p3 (some ⟨some ⟨b1, 0, none⟩, c1, 1⟩) [] ⟨rfl, rfl⟩
  have hset : us.set o (.slice (some ⟨b1, 0, none⟩) (bwR s).length c1) = us := by
    apply List.ext_getElem?
    intro jj
    rw [List.getElem?_set]
    split
    · rename_i ej; subst ej
      first | (rw [if_pos hlt, hu0]; done) | exact hu0.symm | (simp only [hlt, if_true]; exact hu0.symm)
    · rfl
  rw [hset] at z1
  have hus := bwR_cells t5
  have ku := (hT.ok pt i ht).kind
  rw [hk] at ku
  have ku : P.underlying pt = some (.pointer e) := ku
  have hsl := bwR_len s
  have hcap := t4.cap
  have hmax := t4.max
  rw [hsl] at hcap
  have pp : hp.Perm ((b1, ⟨e, us1, ((c1 * 1 : Nat) : Tot)⟩) :: hq) := by
    rw [hbA_some] at p1
    exact p1.trans ((List.Perm.swap _ _ _).trans (z1.symm.cons _))
  refine OpS.of_run hd fun a w ha hw => ?_
  have hw1 := hw.perm pp
  have hnd := hw1.nd
  rw [List.map_cons, List.nodup_cons] at hnd
  have hw2 : Hp ⟨F, w0, hq⟩ w := hw1.sub (List.sublist_cons_self _ _)
  obtain ⟨junk, q1, q2⟩ : HasB w b1 ⟨e, us1, ((c1 * 1 : Nat) : Tot)⟩ := hw1.blk b1 _ List.mem_cons_self
  have q3 : us1.length + junk.length = c1 * 1 := q2
  have hsh : w.shape? b1 = some (e, c1) := by simp only [World.shape?, q1]; simp; omega
  have hrun := Go.Lib.run_unsafeString_row (P := P) w pt it ty e ku hc b1 c1 hsh s.data.toList (by intro e; apply h0; have := congrArg List.length e; simpa using this) (by simpa using hcap) (by unfold maxLen at hmax; simp; omega) (fun j v hv => by
    have hu : us1[j]? = some (.int .u8 v.toNat) := by rw [hus, Go.Lib.strCells, List.getElem?_map, hv]; rfl
    have := (show HasB w b1 ⟨e, us1, ((c1 * 1 : Nat) : Tot)⟩ from ⟨junk, q1, q2⟩).cell (x := ⟨e, us1, _⟩) hu
    unfold Addr.add
    split
    · rename_i h0; subst h0; exact this
    · simpa using this)
  have hb : (⟨s.data.toList.toArray⟩ : ByteArray) = s := by simp
  rw [hb] at hrun
  have hls : (s.data.toList.length : Int) = n := by rw [hn]; simp
  rw [hls] at hrun
  have e0 : (⟨b1, 0 * 1 + 0, none⟩ : Addr) = ⟨b1, 0, none⟩ := by simp
  rw [e0] at x1
  refine ⟨.string s, w.freeze ⟨b1, 0, none⟩ s.data.toList.length, _, by simp [execOp, resolve, invoke, builtin, ha.ev x1, ha.ev y1, hrun], hw2.other freeze_same (hw1.out b1 _ List.mem_cons_self) (fun x hx => hnd.1 (by have h9 := List.mem_map_of_mem (f := Prod.fst) hx; exact h9)), .of (z2.put (.d (.u (.str s (by omega))))) kk⟩⟩
end
end Go.Proofs.YtgloielnnakknaaDoor
namespace Go.Proofs.YtgloielnnakknaaDoor
open Go.RowKit
section
variable {P : Program} {T : List (Nat × Ty)} [hT : Tys P T] {nt : Nat} {Q : Exit → Act → World → Prop} {ty : TypeId} {pos : String} {af : Array Edge} {gd : Option (Nat × Bool)} {K : Kt}
omit hT in
/-- The same memory seen otherwise, then the operation. -/
theorem Raw.ghost {o : Oper} {tmT tmT' : List (Nat × SV)} {ob ob' : List (Nat × Ob)} (gh : Ghost tmT ob tmT' ob') (k : Raw P nt o tmT' ob' K) : Raw P nt o tmT ob K := ⟨fun Q c tm h ρ G g => ⟨fun a w ha hw => by
  obtain ⟨h1, ρ1, G1, k1, hw1⟩ := gh.out c tm h ρ G w g hw
  exact (k.out Q c tm h1 ρ1 G1 k1).out a w ha hw1⟩⟩
/-- A store that is reckoned. -/
theorem Raw.store {t : TypeId} {x y : Operand} {d : Option Tmp} {tmT : List (Nat × SV)} {ob : List (Nat × Ob)} (k : vcM P T nt false ⟨d, .store t x y, ty, pos, af, gd⟩ tmT ob K) : Raw P nt ⟨d, .store t x y, ty, pos, af, gd⟩ tmT ob K := ⟨fun _ _ _ _ _ _ g => store_sound (st := ⟨tmT, ob⟩) g k⟩
end
end Go.Proofs.YtgloielnnakknaaDoor
namespace Go.Proofs.YtgloielnnakknaaDoor
open Go.RowKit
section
variable {ρ ρ' : Rho} {z z' : Fz} {k : Nat}
theorem ObsOk.faSet : ∀ {ob : List (Nat × Ob)} {hp : List (Nat × Hb)} {o : Ob}, ObsOk ρ z ob hp → lk k ob = some o → famOne k ob = true → ∃ X rest, ObOk ρ z k o X ∧ hp.Perm (X ++ rest) ∧
    (∀ (z' : Fz) o' Y, Mz z z' → (∀ j, j ≠ k → z'.G.fam j = z.G.fam j) → z'.G.own = z.G.own → ObOk ρ z' k o' Y → ∃ hp', ObsOk ρ z' (obu k o' ob) hp' ∧ hp'.Perm (Y ++ rest)) ∧
    ∀ (ρ' : Rho) (z' : Fz) t sz' rs' Y, Mz z z' → (∀ j, j ≠ k → z'.G.fam j = z.G.fam j) → z'.G.own = z.G.own → OsAt k ρ ρ' → ObOk ρ' z' k (.fa t sz' rs') Y → ∃ hp', ObsOk ρ' z' (dropO k (obu k (.fa t sz' rs') ob)) hp' ∧ hp'.Perm (Y ++ rest)
  | [], _, _, _, h, _ => by simp [lk] at h
  | (j, x) :: r, hp, o, ⟨X, hp0, h1, h2, h3⟩, h, hn => by
    simp only [lk] at h
    simp only [famOne] at hn
    cases hb : Nat.beq k j <;> rw [hb] at h hn
    · obtain ⟨X1, rest, q1, q2, q3, q4⟩ := h3.faSet h hn
      have hjk : j ≠ k := fun e => beq_ne hb e.symm
      have hpm : ∀ (A B : List (Nat × Hb)), (X ++ (A ++ B)).Perm (A ++ (X ++ B)) := fun A B => by
        rw [← List.append_assoc, ← List.append_assoc]; exact List.perm_append_comm.append_right _
      subst h1
      refine ⟨X1, X ++ rest, q1, (q2.append_left X).trans (hpm _ _), fun z' o' Y m hf hw ho => ?_, fun ρ' z' t sz' rs' Y m hf hw a ho => ?_⟩
      · obtain ⟨hp', r1, r2⟩ := q3 z' o' Y m hf hw ho
        simp only [obu, hb, cond_false]
        exact ⟨X ++ hp', ⟨X, hp', rfl, h2.mono m .refl (Fms.of fun t rs e => ⟨hf j hjk, by rw [hw]; exact id⟩), r1⟩, (r2.append_left X).trans (hpm _ _)⟩
      · obtain ⟨hp', r1, r2⟩ := q4 ρ' z' t sz' rs' Y m hf hw a ho
        simp only [obu, hb, cond_false]
        have hone : ObsOk ρ z [(j, x)] X := ⟨X, [], by simp, h2, rfl⟩
        have hno : famNo k [(j, x)] = true := by simp [famNo, hb]
        have hx := hone.drop m hf hw a hno
        cases x with
        | bx t cs =>
          obtain ⟨Z, hz, e1, e2, e3⟩ := hx
          have : hz = [] := e3
          subst this
          rw [List.append_nil] at e1
          subst e1
          exact ⟨X ++ hp', ⟨X, hp', rfl, e2, r1⟩, (r2.append_left X).trans (hpm _ _)⟩
        | ar t sz rs =>
          obtain ⟨Z, hz, e1, e2, e3⟩ := hx
          have : hz = [] := e3
          subst this
          rw [List.append_nil] at e1
          subst e1
          exact ⟨X ++ hp', ⟨X, hp', rfl, e2, r1⟩, (r2.append_left X).trans (hpm _ _)⟩
        | mp kg vg es =>
          obtain ⟨Z, hz, e1, e2, e3⟩ := hx
          have : hz = [] := e3
          subst this
          rw [List.append_nil] at e1
          subst e1
          exact ⟨X ++ hp', ⟨X, hp', rfl, e2, r1⟩, (r2.append_left X).trans (hpm _ _)⟩
        | fa t sz rs =>
          obtain ⟨Z, hz, e1, e2, e3⟩ := hx
          have : hz = [] := e3
          subst this
          rw [List.append_nil] at e1
          subst e1
          exact ⟨X ++ hp', ⟨X, hp', rfl, e2, r1⟩, (r2.append_left X).trans (hpm _ _)⟩
        | fm t rs =>
          obtain ⟨Z, hz, e1, e2, e3⟩ := hx
          have : hz = [] := e3
          subst this
          rw [List.append_nil] at e1
          subst e1
          exact ⟨X ++ hp', ⟨X, hp', rfl, e2, r1⟩, (r2.append_left X).trans (hpm _ _)⟩
    · simp only [cond_true, Option.some.injEq] at h
      subst h
      have := Nat.eq_of_beq_eq_true hb
      subst this
      refine ⟨X, hp0, h2, by rw [h1], fun z' o' Y m hf hw ho => ?_, fun ρ' z' t sz' rs' Y m hf hw a ho => ?_⟩
      · simp only [obu, hb, cond_true]
        exact ⟨Y ++ hp0, ⟨Y, hp0, rfl, ho, h3.keep m hf hw hn⟩, .refl _⟩
      · simp only [obu, hb, cond_true, dropO]
        exact ⟨Y ++ hp0, ⟨Y, hp0, rfl, ho, h3.drop m hf hw a hn⟩, .refl _⟩
end
theorem spl_set {us us1 : List Value} {n off : Nat} {v : Value} (h1 : n + us1.length ≤ us.length) (h2 : ∀ (j : Nat) u, us1[j]? = some u → us[n + j]? = some u) (ho : off < us1.length) : spl us n (us1.set off v) = us.set (n + off) v := by
  rw [spl_mid _ _ _ (by rw [List.length_set]; exact h1), List.length_set]
  apply List.ext_getElem?
  intro j
  rw [List.getElem?_set]
  by_cases c1 : j < n
  · rw [List.append_assoc, List.getElem?_append_left (by simp; omega), List.getElem?_take_of_lt c1, if_neg (by omega)]
  · by_cases c2 : j < n + us1.length
    · rw [List.append_assoc, List.getElem?_append_right (by simp; omega), List.getElem?_append_left (by simp; omega)]
      have e : (us.take n).length = n := by simp; omega
      rw [e, List.getElem?_set]
      by_cases c3 : n + off = j
      · subst c3
        rw [if_pos rfl, if_pos (by omega), if_pos (by omega), if_pos (by omega)]
      · rw [if_neg (by omega), if_neg c3]
        have := h2 (j - n) _ (List.getElem?_eq_getElem (by omega))
        rw [show n + (j - n) = j by omega] at this
        rw [this, List.getElem?_eq_getElem (by omega)]
    · rw [List.getElem?_append_right (by simp; omega), List.getElem?_drop, if_neg (by omega)]
      congr 1
      simp
      omega
section
variable {P : Program} {T : List (Nat × Ty)} [hT : Tys P T] {nt : Nat} {Q : Exit → Act → World → Prop} {c : Cx} {st : St} {tm : List (Nat × Value)} {h : Hs} {ρ : Rho} {G : FG} {ty : TypeId} {pos : String} {af : Array Edge} {gd : Option (Nat × Bool)} {K : Kt}
omit hT in
/-- A cell of a row is exchanged: what lies where then. -/
theorem Gd.faPut {F : Nat → Prop} {w0 : World} {hp : List (Nat × Hb)} (g : Gd c st tm ⟨F, w0, hp⟩ ρ G) {k m off u sz : Nat} {rs : List (List E)} {row : List E} {e : E} (hk : lk k st.ob = some (.fa u sz rs)) (h1 : famOne k st.ob = true) (hr : rs[m]? = some row) (ho : row[off]? = some e) :
    ∃ b cc us Xe rest, ρ k = some ⟨some ⟨b, 0, none⟩, cc, sz⟩ ∧ m * sz + off < us.length ∧ us.all Value.oneCell' = true ∧ (∃ u0, us[m * sz + off]? = some u0 ∧ CellOk ρ ⟨G, w0⟩ k m off e u0 Xe) ∧ hp.Perm ((b, ⟨u, us, cc * sz⟩) :: (Xe ++ rest)) ∧
      (∀ y v, (∃ x, e = .v x) ∨ e = .hl → DenV ⟨G, w0⟩ y v → ∃ hq, hq.Perm ((b, ⟨u, us.set (m * sz + off) v, cc * sz⟩) :: (Xe ++ rest)) ∧ Gd c ⟨st.tm, obu k (.fa u sz (rs.set m (row.set off (.v y)))) st.ob⟩ tm ⟨F, w0, hq⟩ ρ G) ∧
      (∀ e' v l Xe', CellOk (updOs ρ k m off l) ⟨G, w0⟩ k m off e' v Xe' → ∃ hq, hq.Perm ((b, ⟨u, us.set (m * sz + off) v, cc * sz⟩) :: (Xe' ++ rest)) ∧ Gd c ⟨dropT k st.tm, dropO k (obu k (.fa u sz (rs.set m (row.set off e'))) st.ob)⟩ tm ⟨F, w0, hq⟩ (updOs ρ k m off l) G) := by
  obtain ⟨X, rest0, ⟨A, cc, us, Y, rfl, q0, q1, q2, q3⟩, p2, s3, s4⟩ := g.ob.faSet hk h1
  obtain ⟨us1, X1, rest1, r0, r1, r2, r3, r4, r5⟩ := q2.split q3 hr
  rw [Nat.zero_add] at r3 r5
  obtain ⟨u0, Xe, rest2, t1, t2, t3, t4⟩ := r3.split ho
  rw [Nat.zero_add] at t2 t4
  have hm : m < rs.length := (List.getElem?_eq_some_iff.1 hr).1
  have hA : ∃ b, A = some ⟨b, 0, none⟩ := by
    rcases q1.form with ⟨_, h0, _⟩ | h0
    · omega
    · exact h0
  obtain ⟨b, rfl⟩ := hA
  have hoff : off < us1.length := (List.getElem?_eq_some_iff.1 t1).1
  have hbA1 : ∀ us', hbA (some ⟨b, 0, none⟩) u us' cc sz = [(b, (⟨u, us', cc * sz⟩ : Hb))] := fun us' => hbA_some
  have hperm : ∀ (A B C D E1 X1' Y' : List (Nat × Hb)) (q : Nat × Hb), X1'.Perm (A ++ B) → Y'.Perm (X1' ++ C) → E1.Perm (([q] ++ Y') ++ D) → E1.Perm (q :: (A ++ (B ++ C ++ D))) := fun A B C D E1 X1' Y' q h1 h2 h3 => by
    refine h3.trans ?_
    simp only [List.cons_append, List.nil_append, List.append_assoc]
    refine List.Perm.cons q ?_
    have h4 := h2.trans (h1.append_right C)
    have := h4.append_right D
    simpa [List.append_assoc] using this
  have hup : ∀ v, spl us (m * sz) (us1.set off v) = us.set (m * sz + off) v := fun v => spl_set (by omega) r2 hoff
  have hnew : ∀ (us' : List Value), us'.length = us.length → ∀ row', OkA (some ⟨b, 0, none⟩) us' (rs.set m row').length cc sz := fun us' hl row' => by
    rw [List.length_set]
    exact ⟨q1.form, by rw [hl]; exact q1.len, q1.cap, q1.max⟩
  have hrows : ∀ e', ∀ r ∈ rs.set m (row.set off e'), r.length = sz := fun e' r hr' => by
    rcases List.mem_or_eq_of_mem_set hr' with h | h
    · exact q3 r h
    · subst h; rw [List.length_set]; exact q3 _ (List.mem_of_getElem? hr)
  refine ⟨b, cc, us, Xe, rest2 ++ rest1 ++ rest0, q0, ?_, q2.one, ⟨u0, r2 off u0 t1, t2⟩, hperm _ _ _ _ _ _ _ _ t3 r4 (by rw [hbA1] at p2; exact p2), fun y v hx hv => ?_, fun e' v l Xe' hc => ?_⟩
  · have := (List.getElem?_eq_some_iff.1 (r2 off u0 t1)).1
    exact this
  · have hXe : Xe = [] := by
      rcases hx with ⟨x, rfl⟩ | rfl
      · exact t2.1
      · exact t2.1
    subst hXe
    obtain ⟨X1', v1, v2⟩ := t4 ρ (.v y) v [] (fun _ _ => rfl) ⟨rfl, hv⟩
    obtain ⟨Y', w1, w2⟩ := r5 ρ _ _ _ (by rw [List.length_set]; exact r0) (fun _ _ _ => rfl) v1
    rw [hup] at w1
    obtain ⟨hq, x1, x2⟩ := s3 ⟨G, w0⟩ (.fa u sz (rs.set m (row.set off (.v y)))) _ .refl (fun _ _ => rfl) rfl ⟨_, cc, _, Y', rfl, q0, hnew _ (by rw [List.length_set]) _, w1, hrows _⟩
    rw [hbA1] at x2
    exact ⟨hq, hperm _ _ _ _ _ _ _ _ v2 w2 x2, g.fF, g.fw, g.gF, g.gx, g.fm, g.tm, x1⟩
  · obtain ⟨X1', v1, v2⟩ := t4 (updOs ρ k m off l) e' v Xe' (fun o' ho' => by simp [updOs, ho']) hc
    obtain ⟨Y', w1, w2⟩ := r5 (updOs ρ k m off l) _ _ _ (by rw [List.length_set]; exact r0) (fun i' o hi => by simp [updOs, hi]) v1
    rw [hup] at w1
    obtain ⟨hq, x1, x2⟩ := s4 (updOs ρ k m off l) ⟨G, w0⟩ u sz (rs.set m (row.set off e')) _ .refl (fun _ _ => rfl) rfl updOs_at ⟨_, cc, _, Y', rfl, q0, hnew _ (by rw [List.length_set]) _, w1, hrows _⟩
    rw [hbA1] at x2
    refine ⟨hq, hperm _ _ _ _ _ _ _ _ v2 w2 x2, g.fF, g.fw, g.gF, g.gx, g.fm, fun j s hj => ?_, x1⟩
    obtain ⟨_, d1, d2⟩ := dropK_get hj
    obtain ⟨v', v1, v2⟩ := g.tm j s d1
    exact ⟨v', v1, v2.inF updOs_at d2⟩
theorem set_same {us : List Value} {n : Nat} {v : Value} (h : us[n]? = some v) : us.set n v = us := by
  apply List.ext_getElem?
  intro j
  rw [List.getElem?_set]
  split
  · rename_i e; subst e
    rw [if_pos (List.getElem?_eq_some_iff.1 h).1, h]
  · rfl
/-- A value of one cell is stored into a row. -/
theorem Raw.faStoreV {t : TypeId} {x y : Operand} {k m off u sz : Nat} {yv : V} {rs : List (List E)} {row : List E} {e : E} {i : Ty} {tmT : List (Nat × SV)} {ob : List (Nat × Ob)} (hx : evT tmT x = some (.d (.e k m off))) (hy : evT tmT y = some (.d (.u yv))) (ht : lk t T = some i) (hi : i.size = 1) (hk : lk k ob = some (.fa u sz rs)) (h1 : famOne k ob = true) (hr : rs[m]? = some row) (ho : row[off]? = some e) (he : (∃ x, e = .v x) ∨ e = .hl)
    (kk : K tmT (obu k (.fa u sz (rs.set m (row.set off (.v yv)))) ob)) : Raw P nt ⟨none, .store t x y, ty, pos, af, gd⟩ tmT ob K := ⟨fun Q c tm h ρ G g => by
  obtain ⟨F, w0, hp⟩ := h
  obtain ⟨v, q1, q2⟩ := g.ev hy
  obtain ⟨p, r1, r2⟩ := g.ev hx
  cases r2 with | d r2 => cases r2 with | @e _ _ _ b c' sz' h0 =>
  have hv : DenL ρ ⟨G, w0⟩ [.u yv] (vcells v) := cellsOfT_den rfl q2
  obtain ⟨b2, cc, us, Xe, rest, z0, hlt, hone, _, p1, p2, _⟩ := g.faPut hk h1 hr ho
  rw [h0] at z0
  injection z0 with z0
  injection z0 with e1 e2 e3
  injection e1 with e1
  injection e1 with e1 _ _
  subst e1 e2 e3
  obtain ⟨u0, hu0⟩ : ∃ u0, vcells v = [u0] := by
    have hl := hv.len
    match hvc : vcells v, hl with
    | [u], _ => exact ⟨u, rfl⟩
  have hdu := hv.den 0 (.u yv) u0 rfl (by rw [hu0]; rfl)
  cases hdu with | u hdu =>
  obtain ⟨hq, s1, s2⟩ := p2 yv u0 he hdu
  refine OpS.wk (h' := ⟨F, w0, (b, ⟨u, us, c' * sz'⟩) :: (Xe ++ rest)⟩) (fun w hw => hw.perm p1) ?_
  refine OpS.store (z := ⟨u, us, c' * sz'⟩) r1 q1 ht UpdB.here (by rw [hv.len]; exact hi.symm) hv.one (by rw [hi, Nat.ble_eq]; exact hlt) rfl ?_
  rw [hu0, spl_one hlt]
  exact ⟨⟨_, _⟩, _, G, ⟨F, w0, hq⟩, fun w hw => hw.perm s1.symm, s2, kk⟩⟩
/-- An own array is stored into a row: it moves in. -/
theorem Raw.faStoreO {t : TypeId} {x y : Operand} {k m off u sz d n e0 sz0 : Nat} {ra : List (List V)} {rs : List (List E)} {row : List E} {e : E} {i : Ty} {tmT : List (Nat × SV)} {ob : List (Nat × Ob)} (hx : evT tmT x = some (.d (.e k m off))) (hy : evT tmT y = some (.d (.ow d n))) (hd : lk d ob = some (.ar e0 sz0 ra)) (hn : ra.length = n) (ht : lk t T = some i) (hi : i.size = 1) (hk : lk k (obr d ob) = some (.fa u sz rs)) (h1 : famOne k (obr d ob) = true) (hr : rs[m]? = some row) (ho : row[off]? = some e)
    (kk : K (dropT k tmT) (dropO k (obu k (.fa u sz (rs.set m (row.set off (.os e0 sz0 ra)))) (obr d ob)))) : Raw P nt ⟨none, .store t x y, ty, pos, af, gd⟩ tmT ob K := ⟨fun Q c tm h ρ G g => by
  obtain ⟨F, w0, hp⟩ := h
  obtain ⟨v, q1, q2⟩ := g.ev hy
  obtain ⟨p, r1, r2⟩ := g.ev hx
  cases r2 with | d r2 => cases r2 with | @e _ _ _ b c' sz' h0 =>
  have hv : DenL ρ ⟨G, w0⟩ [.ow d n] (vcells v) := cellsOfT_den rfl q2
  obtain ⟨X0, f, ⟨A, cc0, us1, rfl, g2, g3, g4, g5⟩, g6, _, g8⟩ := g.ob.set hd
  have g0 : Gd c ⟨tmT, obr d ob⟩ tm ⟨F, w0, f []⟩ ρ G := ⟨g.fF, g.fw, g.gF, g.gx, g.fm, g.tm, g8⟩
  have hperm : hp.Perm (hbA A e0 us1 cc0 sz0 ++ f []) := by have := g6.perm (hbA A e0 us1 cc0 sz0); rwa [g6.eq] at this
  obtain ⟨b2, cc, us, Xe, rest, z0, hlt, hone, _, p1, _, p3⟩ := g0.faPut hk h1 hr ho
  rw [h0] at z0
  injection z0 with z0
  injection z0 with e1 e2 e3
  injection e1 with e1
  injection e1 with e1 _ _
  subst e1 e2 e3
  obtain ⟨u0, hu0⟩ : ∃ u0, vcells v = [u0] := by
    have hl := hv.len
    match hvc : vcells v, hl with
    | [u], _ => exact ⟨u, rfl⟩
  have hdu := hv.den 0 (.ow d n) u0 rfl (by rw [hu0]; rfl)
  have hvs : u0 = .slice A ra.length cc0 := by
    cases hdu with | @ow _ _ l h0 hA hnc =>
    rw [h0] at g2
    injection g2 with g2; subst g2
    rw [hn]
  subst hvs
  obtain ⟨hq, s1, s2⟩ := p3 (.os e0 sz0 ra) (.slice A ra.length cc0) (some ⟨A, cc0, sz0⟩) (hbA A e0 us1 cc0 sz0) ⟨A, cc0, us1, rfl, rfl, by simp [updOs], g3, g4, g5⟩
  have pp : hp.Perm ((b, ⟨u, us, c' * sz'⟩) :: (Xe ++ rest ++ hbA A e0 us1 cc0 sz0)) := by
    refine hperm.trans ?_
    refine List.perm_append_comm.trans ?_
    refine (p1.append_right _).trans ?_
    simp
  refine OpS.wk (h' := ⟨F, w0, (b, ⟨u, us, c' * sz'⟩) :: (Xe ++ rest ++ hbA A e0 us1 cc0 sz0)⟩) (fun w hw => hw.perm pp) ?_
  refine OpS.store (z := ⟨u, us, c' * sz'⟩) r1 q1 ht UpdB.here (by rw [hv.len]; exact hi.symm) hv.one (by rw [hi, Nat.ble_eq]; exact hlt) rfl ?_
  rw [hu0, spl_one hlt]
  refine ⟨⟨_, _⟩, _, G, ⟨F, w0, hq⟩, fun w hw => ?_, s2, kk⟩
  have p4 : ((b, (⟨u, us.set (m * sz' + off) (.slice A ra.length cc0), c' * sz'⟩ : Hb)) :: (Xe ++ rest ++ hbA A e0 us1 cc0 sz0)).Perm (Xe ++ ((b, ⟨u, us.set (m * sz' + off) (.slice A ra.length cc0), c' * sz'⟩) :: (hbA A e0 us1 cc0 sz0 ++ rest))) := by
    refine List.Perm.trans ?_ List.perm_middle.symm
    refine List.Perm.cons _ ?_
    rw [List.append_assoc]
    exact List.perm_append_comm.append_left _
  exact (((hw.perm p4).sub (List.sublist_append_right _ _)).perm s1.symm)⟩
/-- A store into an array that a cell of a row owns. -/
theorem Raw.faStoreRe {x y : Operand} {t : TypeId} {k m o j off u e sz szf : Nat} {rs : List (List E)} {row : List E} {rr : List (List V)} {r2 : List V} {sy : SV} {xs : List D} {ys : List V} {i : Ty} {tmT : List (Nat × SV)} {ob : List (Nat × Ob)} (hx : evT tmT x = some (.d (D.re k m o j off))) (hk : lk k ob = some (.fa u szf rs)) (h1 : famOne k ob = true) (hy : evT tmT y = some sy) (hc : cellsOfT sy = some xs) (hb : borL [] xs = some ys) (ht : lk t T = some i) (hsz : xs.length = i.size) (hr : rs[m]? = some row) (ho : row[o]? = some (.os e sz rr)) (hr2 : rr[j]? = some r2) (hle : off + ys.length ≤ sz)
    (kk : K (dropT k tmT) (dropO k (obu k (.fa u szf (rs.set m (row.set o (.os e sz (rr.set j (r2.take off ++ ys ++ r2.drop (off + ys.length))))))) ob))) : Raw P nt ⟨none, .store t x y, ty, pos, af, gd⟩ tmT ob K := ⟨fun Q c tm h ρ G g => by
  obtain ⟨F, w0, hp⟩ := h
  obtain ⟨vy, y1, y2⟩ := g.ev hy
  have hv := cellsOfT_den hc y2
  have hv' := borL_nil_den hb hv
  obtain ⟨p, r1, r2'⟩ := g.ev hx
  cases r2' with | d r2' => cases r2' with | @re _ _ _ _ _ b1 c1 sz1 x0 =>
  obtain ⟨b, cf, us, Xe, rest, _, hlt, hone, ⟨u0, hu0, A', cc', us1, rfl, rfl, t3, t4, t5, t6⟩, p1, _, p3⟩ := g.faPut hk h1 hr ho
  rw [x0] at t3
  injection t3 with t3
  injection t3 with e1 e2 e3
  subst e1 e2 e3
  have hrl : r2.length = sz1 := t6 r2 (List.mem_of_getElem? hr2)
  have hfl := flat_len t6
  have hm : j < rr.length := (List.getElem?_eq_some_iff.1 hr2).1
  have hin : j * sz1 + off + ys.length ≤ rr.flatten.length := by
    rw [hfl]
    have : (j + 1) * sz1 ≤ rr.length * sz1 := Nat.mul_le_mul_right _ hm
    rw [Nat.succ_mul] at this; omega
  have hmid : DenVL ⟨G, w0⟩ (rr.set j (r2.take off ++ ys ++ r2.drop (off + ys.length))).flatten (spl us1 (j * sz1 + off) (vcells vy)) := by
    rw [flat_mid t6 hr2 hle]
    exact t5.mid hv' hin
  have hlen : (rr.set j (r2.take off ++ ys ++ r2.drop (off + ys.length))).length = rr.length := by simp
  obtain ⟨hq, z1, z2⟩ := p3 (.os e sz1 (rr.set j (r2.take off ++ ys ++ r2.drop (off + ys.length)))) (.slice (some ⟨b1, 0, none⟩) rr.length c1) (some ⟨some ⟨b1, 0, none⟩, c1, sz1⟩) (hbA (some ⟨b1, 0, none⟩) e (spl us1 (j * sz1 + off) (vcells vy)) c1 sz1) ⟨some ⟨b1, 0, none⟩, c1, _, rfl, by rw [hlen], by simp [updOs], by rw [hlen]; exact ⟨.inr ⟨b1, rfl⟩, by rw [spl_length]; exact t4.len, t4.cap, t4.max⟩, hmid, fun r hr0 => by
    rcases List.mem_or_eq_of_mem_set hr0 with q | q
    · exact t6 r q
    · subst q; simp; omega⟩
  rw [set_same hu0] at z1
  have pp : hp.Perm ((b1, ⟨e, us1, c1 * sz1⟩) :: ((b, ⟨u, us, cf * szf⟩) :: rest)) := by
    rw [hbA_some] at p1
    exact p1.trans (List.Perm.swap _ _ _)
  have pp' : ((b1, (⟨e, spl us1 (j * sz1 + off) (vcells vy), c1 * sz1⟩ : Hb)) :: ((b, ⟨u, us, cf * szf⟩) :: rest)).Perm hq := by
    rw [hbA_some] at z1
    exact (List.Perm.swap _ _ _).trans z1.symm
  refine OpS.wk (fun w hw => hw.perm pp) ?_
  refine OpS.store (z := ⟨e, us1, c1 * sz1⟩) r1 y1 ht .here (by rw [hv.len]; exact hsz) hv.one (by rw [← hsz, ← hv.len, hv'.len]; simp only [t5.len]; rw [Nat.ble_eq]; exact hin) rfl ?_
  exact ⟨⟨_, _⟩, _, G, ⟨F, w0, hq⟩, fun w hw => hw.perm pp', z2, kk⟩⟩
/-- append onto an array that a cell of a row owns: it moves out. -/
theorem Raw.faAppend {x y : Operand} {t t' : TypeId} {d k m o sz n e u szf mm : Nat} {rs : List (List E)} {row : List E} {rr rs' : List (List V)} {ky : Option Nat} {sy : SV} {i : Ty} {jk : Tk} {jb : Nat} {jz : List Value} {tmT : List (Nat × SV)} {ob : List (Nat × Ob)} (hx : evT tmT x = some (.d (D.r k m o sz n))) (hy : evT tmT y = some sy) (hry : rowsT ob sy = some (rs', mm, ky)) (hsz : szT ob sz sy = true) (hk : lk k ob = some (.fa u szf rs)) (h1 : famOne k ob = true)
    (ht : lk t T = some i) (hi : i.k = .sl e) (hj : lk e T = some ⟨jk, sz, jb, jz⟩) (ht' : Nat.beq t t' = true) (hpos : Nat.blt 0 sz = true) (hz : jz.length = sz) (hd : Nat.blt d nt = true) (hrow : rs[m]? = some row) (ho : row[o]? = some (.os e sz rr)) (hnew : newN d (dropT k tmT) (dropO k (obu k (.fa u szf (rs.set m (row.set o .hl))) ob)) = true)
    (hA : Apd rr.length n rs'.length mm jb (K ((d, .d (.ow d (rr ++ rs').length)) :: dropT k tmT) ((d, .ar e sz (rr ++ rs')) :: dropO k (obu k (.fa u szf (rs.set m (row.set o .hl))) ob)))) : Raw P nt ⟨some d, .call ⟨.builtin .append, #[x, y], #[t, t']⟩, ty, pos, af, gd⟩ tmT ob K := ⟨fun Q c tm h ρ G g => by
  have := Nat.eq_of_beq_eq_true ht'
  subst this
  obtain ⟨hn, hm, hbb, hxx, kk⟩ := hA
  obtain ⟨vx, q1, q2⟩ := g.ev hx
  obtain ⟨vy, r1, r2⟩ := g.ev hy
  obtain ⟨B, dd, us', rfl, s1, s2, s3⟩ := src_den g hry hsz hm r2
  obtain ⟨F, w0, hp⟩ := h
  cases q2 with | d q2 => cases q2 with | @r _ _ _ _ _ cc A x0 xA xc xm =>
  obtain ⟨b, cf, us, Xe, rest, _, hlt, hone, ⟨u0, hu0, A', cc', us1, rfl, rfl, t3, t4, t5, t6⟩, p1, _, p3⟩ := g.faPut hk h1 hrow ho
  rw [x0] at t3
  injection t3 with t3
  injection t3 with e1 e2 _
  subst e1 e2
  obtain ⟨hq, z1, z2⟩ := p3 .hl (.slice A rr.length cc) (some ⟨A, cc, sz⟩) [] ⟨rfl, rfl⟩
  have hul : us'.length = mm * sz := by rw [s2.len, flat_len s3, hm]
  rw [set_same hu0] at z1
  have pp : hp.Perm (hbA A e us1 cc sz ++ ((b, ⟨u, us, cf * szf⟩) :: rest)) := p1.trans List.perm_middle.symm
  have s1' : SrcA ⟨F, w0, hbA A e us1 cc sz ++ ((b, ⟨u, us, cf * szf⟩) :: rest)⟩ B us' := ⟨fun w hw => s1.out w (hw.perm pp.symm)⟩
  refine OpS.wk (h' := ⟨F, w0, hbA A e us1 cc sz ++ ((b, ⟨u, us, cf * szf⟩) :: rest)⟩) (fun w hw => hw.perm pp) ?_
  refine OpS.appendA q1 r1 ht hi hj hz (by simpa [Nat.blt_eq] using hpos) (by rw [hn] at t4; exact t4) .here s1' hul (fun u hu => List.all_eq_true.1 s2.one u hu) (by rw [← hn, ← hm]; exact hbb) (by rw [← hn, ← hm]; exact hxx) hd fun A2 c2 hA2 => ?_
  have hlen : (rr ++ rs').length = n + mm := by rw [List.length_append, hn, hm]
  have hob : ObOk (upd (updOs ρ k m o (some ⟨A, cc, sz⟩)) d ⟨A2, c2, sz⟩) ⟨G, w0⟩ d (.ar e sz (rr ++ rs')) (hbA A2 e (us1 ++ us') c2 sz) :=
    ⟨A2, c2, us1 ++ us', rfl, upd_self, by rw [hlen]; exact hA2, by rw [List.flatten_append]; exact t5.app s2, fun r hr => by
      rcases List.mem_append.1 hr with hr | hr
      · exact t6 r hr
      · exact s3 r hr⟩
  have g1 := (z2.new (st := ⟨dropT k tmT, _⟩) hnew hob).put (d := d) (s := .d (.ow d (rr ++ rs').length)) (v := .slice A2 (n + mm) c2) (by
    rw [hlen]
    refine .d (.ow (l := ⟨A2, c2, sz⟩) upd_self (fun hA0 => ?_) hA2.cap)
    rcases hA2.form with ⟨_, e0, _⟩ | ⟨b, e0⟩
    · exact e0
    · dsimp only at hA0; rw [e0] at hA0; cases hA0)
  exact ⟨_, _, G, _, fun w hw => hw.perm ((z1.append_left _).symm), g1, kk⟩⟩
end
end Go.Proofs.YtgloielnnakknaaDoor
namespace Go.Proofs.YtgloielnnakknaaDoor
open Go.RowKit
theorem fa_get {α : Type} {l : List α} {i : Nat} {a : α} (h : i < l.length) : (l.set i a)[i]? = some a := by simp [h]
section
variable {P : Program} {T : List (Nat × Ty)} [hT : Tys P T] {nt : Nat} {Q : Exit → Act → World → Prop} {c : Cx} {st : St} {tm : List (Nat × Value)} {h : Hs} {ρ : Rho} {G : FG} {ty : TypeId} {pos : String} {af : Array Edge} {gd : Option (Nat × Bool)} {K : Kt}
omit hT in
/-- What does not satisfy p is forgotten; an object that does not is laid anew. -/
theorem Gd.anew {F : Nat → Prop} {w0 : World} {hp : List (Nat × Hb)} (g : Gd c st tm ⟨F, w0, hp⟩ ρ G) {p : Nat → Bool} {ρ' : Rho} (e : ∀ k, p k = true → ρ' k = ρ k) (e' : ∀ k, p k = true → ∀ i o, ρ'.os k i o = ρ.os k i o) (ho : okO p (cleanOb p st.ob) = true) {k : Nat} {o : Ob} {X : List (Nat × Hb)} (h : ObOk ρ' ⟨G, w0⟩ k o X) :
    Gd c ⟨keepTm p [] st.tm, (k, o) :: cleanOb p st.ob⟩ tm ⟨F, w0, X ++ hp⟩ ρ' G :=
  ⟨g.fF, g.fw, g.gF, g.gx, g.fm, fun j s hj => by
    obtain ⟨v, q1, q2⟩ := g.tm j s (keepTm_get hj).2
    exact ⟨v, q1, q2.okP e e' (okTm_get keepTm_ok j s hj)⟩, ⟨X, hp, rfl, h, (cleanOb_ok g.ob).okP e e' ho⟩⟩
omit hT in
theorem FaOk.congrB {ρ' : Rho} {z : Fz} {k i : Nat} {rs : List (List E)} {us : List Value} {X : List (Nat × Hb)} (h : FaOk ρ z k i rs us X) : (∀ i' o, i' < i + rs.length → ρ'.os k i' o = ρ.os k i' o) → FaOk ρ' z k i rs us X := by
  induction h with
  | nil => intro _; exact .nil
  | cons h _ ih => intro hq; exact .cons (h.congr fun o' _ => hq _ o' (by simp)) (ih fun i' o hi => hq i' o (by simp at hi ⊢; omega))
def nB (k : Nat) (j : Nat) : Bool := !Nat.beq j k
omit hT in
theorem nB_ne {k j : Nat} (h : nB k j = true) : j ≠ k := fun e => by subst e; simp [nB] at h
omit hT in
theorem nB_ne' {k j : Nat} (h : nB k j = true) : Nat.beq j k = false := by simpa [nB] using h
/-- A copy of such an array: the old block is forgotten, and its cells' arrays are owned by the new one. -/
theorem Raw.faCopy {x y : Operand} {t t' : TypeId} {d d0 k n e sz jb : Nat} {rs : List (List E)} {i : Ty} {jk : Tk} {jz : List Value} {tmT tmK : List (Nat × SV)} {ob obF : List (Nat × Ob)} (hx : evT tmT x = some (.d (.ow d0 0))) (hy : evT tmT y = some (.d (.ow k n))) (hd0 : lk d0 ob = some (.ar e sz [])) (hk : lk k (obr d0 ob) = some (.fa e sz rs))
    (ht : lk t T = some i) (hi : i.k = .sl e) (hj : lk e T = some ⟨jk, sz, jb, jz⟩) (ht' : Nat.beq t t' = true) (hpos : Nat.blt 0 sz = true) (hz : jz.length = sz) (hd : Nat.blt d nt = true) (hTm : keepTm (nB k) [] tmT = tmK) (hO : cleanOb (nB k) (obr k (obr d0 ob)) = obF) (hok : okO (nB k) obF = true)
    (hA : Apd 0 0 rs.length n jb (K ((d, .d (.ow k n)) :: tmK) ((k, .fa e sz rs) :: obF))) : Raw P nt ⟨some d, .call ⟨.builtin .append, #[x, y], #[t, t']⟩, ty, pos, af, gd⟩ tmT ob K := ⟨fun Q c tm h ρ G g => by
  have := Nat.eq_of_beq_eq_true ht'
  subst this
  subst hTm hO
  obtain ⟨_, hn, hbb, hxx, kk⟩ := hA
  obtain ⟨vx, q1, q2⟩ := g.ev hx
  obtain ⟨vy, r1, r2⟩ := g.ev hy
  obtain ⟨F, w0, hp⟩ := h
  obtain ⟨X0, f0, ⟨A0, c0, us0, rfl, a2, a3, a4, a5⟩, a6, _, a8⟩ := g.ob.set hd0
  obtain ⟨X1, f1, ⟨A, cc, us, Y, rfl, b2, b3, b4, b5⟩, b6, _, b8⟩ := a8.set hk
  have hu0 : us0 = [] := by have := a4.len; simpa using this
  subst hu0
  have hp1 : (f0 []).Perm ((hbA A e us cc sz ++ Y) ++ f1 []) := by have := b6.perm (hbA A e us cc sz ++ Y); rwa [b6.eq] at this
  have hp0 : hp.Perm (hbA A0 e [] c0 sz ++ f0 []) := by have := a6.perm (hbA A0 e [] c0 sz); rwa [a6.eq] at this
  have pp : hp.Perm (hbA A0 e [] c0 sz ++ (hbA A e us cc sz ++ (Y ++ f1 []))) := by
    refine hp0.trans (List.Perm.append_left _ ?_)
    rw [← List.append_assoc]
    exact hp1
  have hvx : vx = .slice A0 0 c0 := by
    cases q2 with | d q2 => cases q2 with | @ow _ _ l h0 hA hnc =>
    rw [h0] at a2
    injection a2 with a2; subst a2
    rfl
  have hvy : vy = .slice A n cc := by
    cases r2 with | d r2 => cases r2 with | @ow _ _ l h0 hA hnc =>
    rw [h0] at b2
    injection b2 with b2; subst b2
    rfl
  subst hvx hvy
  have hul : us.length = n * sz := by rw [b4.len b5, hn]
  have hone := b4.one
  have hs1 : SrcA ⟨F, w0, hbA A0 e [] c0 sz ++ (hbA A e us cc sz ++ (Y ++ f1 []))⟩ A us := ⟨fun w hw => by
    have r : RowAt (hbA A e us cc sz) (hbA A e us cc sz ++ (Y ++ f1 [])) (fun Z => Z ++ (Y ++ f1 [])) := .here
    exact (SrcA.row (F := F) (w0 := w0) r b3).out w (hw.sub (List.sublist_append_right _ _))⟩
  refine OpS.wk (h' := ⟨F, w0, hbA A0 e [] c0 sz ++ (hbA A e us cc sz ++ (Y ++ f1 []))⟩) (fun w hw => hw.perm pp) ?_
  refine OpS.appendA q1 r1 ht hi hj hz (by simpa [Nat.blt_eq] using hpos) a3 .here hs1 hul (fun u hu => List.all_eq_true.1 hone u hu) (by rw [← hn]; exact hbb) (by rw [← hn]; exact hxx) hd fun A2 c2 hA2 => ?_
  have hob : ObOk (upd ρ k ⟨A2, c2, sz⟩) ⟨G, w0⟩ k (.fa e sz rs) (hbA A2 e ([] ++ us) c2 sz ++ Y) :=
    ⟨A2, c2, [] ++ us, Y, rfl, upd_self, by simp only [Nat.zero_add] at hA2; rw [hn]; exact hA2, b4.congr fun _ _ => rfl, b5⟩
  have g1 := (Gd.anew (st := ⟨tmT, obr k (obr d0 ob)⟩) (hp := f1 []) ⟨g.fF, g.fw, g.gF, g.gx, g.fm, g.tm, b8⟩ (p := nB k) (ρ' := upd ρ k ⟨A2, c2, sz⟩) (fun j hj => upd_ne (nB_ne' hj)) (fun _ _ _ _ => rfl) hok hob).put (d := d) (s := .d (.ow k n)) (v := .slice A2 (0 + n) c2) (by
    rw [Nat.zero_add]
    simp only [Nat.zero_add] at hA2
    refine .d (.ow (l := ⟨A2, c2, sz⟩) upd_self (fun hA0 => ?_) hA2.cap)
    rcases hA2.form with ⟨_, e0, _⟩ | ⟨b, e0⟩
    · exact e0
    · dsimp only at hA0; rw [e0] at hA0; cases hA0)
  refine ⟨_, _, G, _, fun w hw => ?_, g1, kk⟩
  have p2 : (hbA A2 e ([] ++ us) c2 sz ++ (hbA A e us cc sz ++ (Y ++ f1 []))).Perm (hbA A e us cc sz ++ (hbA A2 e ([] ++ us) c2 sz ++ Y ++ f1 [])) := by
    rw [List.append_assoc, ← List.append_assoc, ← List.append_assoc (hbA A e us cc sz)]
    exact List.perm_append_comm.append_right _
  exact (hw.perm p2).sub (List.sublist_append_right _ _)⟩
/-- One more row. -/
theorem Raw.faPush {x y : Operand} {t t' : TypeId} {d k n e sz jb : Nat} {rs : List (List E)} {row : List V} {sy : SV} {ky : Option Nat} (sp : List (Nat × (Nat × Nat))) {i : Ty} {jk : Tk} {jz : List Value} {tmT tmK : List (Nat × SV)} {ob obF : List (Nat × Ob)} (hx : evT tmT x = some (.d (.ow k n))) (hy : evT tmT y = some sy) (hry : rowsT ob sy = some ([row], 1, ky)) (hsz : szT ob sz sy = true) (hk : lk k ob = some (.fa e sz rs))
    (ht : lk t T = some i) (hi : i.k = .sl e) (hj : lk e T = some ⟨jk, sz, jb, jz⟩) (ht' : Nat.beq t t' = true) (hpos : Nat.blt 0 sz = true) (hz : jz.length = sz) (hd : Nat.blt d nt = true) (hTm : keepTm (nB k) [] tmT = tmK) (hO : cleanOb (nB k) (obr k ob) = obF) (hok : okO (nB k) obF = true)
    (hA : Apd rs.length n 1 1 jb (K ((d, .d (.ow k (rs ++ [mkE sp 0 row]).length)) :: tmK) ((k, .fa e sz (rs ++ [mkE sp 0 row])) :: obF))) : Raw P nt ⟨some d, .call ⟨.builtin .append, #[x, y], #[t, t']⟩, ty, pos, af, gd⟩ tmT ob K := ⟨fun Q c tm h ρ G g => by
  have := Nat.eq_of_beq_eq_true ht'
  subst this
  subst hTm hO
  obtain ⟨hn, _, hbb, hxx, kk⟩ := hA
  obtain ⟨vx, q1, q2⟩ := g.ev hx
  obtain ⟨vy, r1, r2⟩ := g.ev hy
  obtain ⟨B, dd, us', rfl, s1, s2, s3⟩ := src_den g hry hsz rfl r2
  obtain ⟨F, w0, hp⟩ := h
  obtain ⟨X1, f1, ⟨A, cc, us, Y, rfl, b2, b3, b4, b5⟩, b6, _, b8⟩ := g.ob.set hk
  have hp1 : hp.Perm (hbA A e us cc sz ++ (Y ++ f1 [])) := by have := b6.perm (hbA A e us cc sz ++ Y); rwa [b6.eq, List.append_assoc] at this
  have hvx : vx = .slice A n cc := by
    cases q2 with | d q2 => cases q2 with | @ow _ _ l h0 hA hnc =>
    rw [h0] at b2
    injection b2 with b2; subst b2
    rfl
  subst hvx
  have hrow : row.length = sz := s3 row (by simp)
  have hul : us'.length = 1 * sz := by rw [s2.len]; simp [hrow]
  have s1' : SrcA ⟨F, w0, hbA A e us cc sz ++ (Y ++ f1 [])⟩ B us' := ⟨fun w hw => s1.out w (hw.perm hp1.symm)⟩
  refine OpS.wk (h' := ⟨F, w0, hbA A e us cc sz ++ (Y ++ f1 [])⟩) (fun w hw => hw.perm hp1) ?_
  refine OpS.appendA q1 r1 ht hi hj hz (by simpa [Nat.blt_eq] using hpos) (by rw [← hn]; exact b3) .here s1' hul (fun u hu => List.all_eq_true.1 s2.one u hu) (by rw [← hn]; exact hbb) (by rw [← hn]; exact hxx) hd fun A2 c2 hA2 => ?_
  have hmk : (mkE sp 0 row).length = sz := by
    have : ∀ (l : List V) (o : Nat), (mkE sp o l).length = l.length := fun l => by
      induction l with
      | nil => intro o; rfl
      | cons a l ih => intro o; simp [mkE, ih]
    rw [this, hrow]
  have s2' : DenVL ⟨G, w0⟩ row us' := by simpa using s2
  have hob : ObOk (newOs (upd ρ k ⟨A2, c2, sz⟩) k n sp) ⟨G, w0⟩ k (.fa e sz (rs ++ [mkE sp 0 row])) (hbA A2 e (us ++ us') c2 sz ++ Y) :=
    ⟨A2, c2, us ++ us', Y, rfl, upd_self, by rw [List.length_append, hn]; exact hA2, by
      have h1 : FaOk (newOs (upd ρ k ⟨A2, c2, sz⟩) k n sp) ⟨G, w0⟩ k 0 rs us Y := b4.congrB fun i' o hi => by
        have : i' ≠ n := by omega
        simp [newOs, this]
        rfl
      have h2 := h1.app (rs' := [mkE sp 0 row]) (vs' := us') (Y' := []) (by
        rw [Nat.zero_add, hn]
        have := FaOk.cons (cells_mkE (ρ := upd ρ k ⟨A2, c2, sz⟩) (k := k) (i := n) (sp := sp) (o := 0) s2') (FaOk.nil (i := n + 1))
        simpa using this)
      simpa using h2, fun r hr => by
      rcases List.mem_append.1 hr with hr | hr
      · exact b5 r hr
      · simp at hr; subst hr; exact hmk⟩
  have g1 := (Gd.anew (st := ⟨tmT, obr k ob⟩) (hp := f1 []) ⟨g.fF, g.fw, g.gF, g.gx, g.fm, g.tm, b8⟩ (p := nB k) (ρ' := newOs (upd ρ k ⟨A2, c2, sz⟩) k n sp) (fun j hj => upd_ne (nB_ne' hj)) (fun j hj i o => by simp [newOs, nB_ne hj]; rfl) hok hob).put (d := d) (s := .d (.ow k (rs ++ [mkE sp 0 row]).length)) (v := .slice A2 (n + 1) c2) (by
    rw [List.length_append, hn]
    refine .d (.ow (l := ⟨A2, c2, sz⟩) upd_self (fun hA0 => ?_) hA2.cap)
    rcases hA2.form with ⟨_, e0, _⟩ | ⟨b, e0⟩
    · exact e0
    · dsimp only at hA0; rw [e0] at hA0; cases hA0)
  refine ⟨_, _, G, _, fun w hw => ?_, g1, kk⟩
  rw [List.append_assoc]
  exact hw⟩
/-- A plain own array is seen as one whose cells may own arrays. -/
def newOsA (ρ : Rho) (k : Nat) (sp : List (Nat × (Nat × Nat))) : Rho := ⟨ρ.loc, fun j i' o => if j = k then (match lk o sp with | some (_, sz) => some ⟨none, 0, sz⟩ | none => none) else ρ.os j i' o⟩
omit hT in
theorem rows_mkE {z : Fz} {k sz : Nat} {sp : List (Nat × (Nat × Nat))} : ∀ {rs : List (List V)} {us : List Value} {i : Nat}, DenVL z rs.flatten us → (∀ r ∈ rs, r.length = sz) → FaOk (newOsA ρ k sp) z k i (rs.map (mkE sp 0)) us []
  | [], us, i, h, _ => by
    have := h.len
    simp at this
    subst this
    exact .nil
  | r :: rs, us, i, h, hr => by
    have hl : us.length = r.length + rs.flatten.length := by have := h.len; simpa using this
    have ho := h.one
    rw [← List.take_append_drop r.length us, List.all_append, Bool.and_eq_true] at ho
    have h1 : DenVL z r (us.take r.length) := ⟨by rw [List.length_take, hl]; omega, ho.1, fun j d v e1 e2 => by
      have hj := (List.getElem?_eq_some_iff.1 e1).1
      rw [List.getElem?_take_of_lt hj] at e2
      exact h.den j d v (by simp [List.getElem?_append_left hj, e1]) e2⟩
    have h2 : DenVL z rs.flatten (us.drop r.length) := ⟨by rw [List.length_drop, hl]; exact Nat.add_sub_cancel_left _ _, ho.2, fun j d v e1 e2 => by
      rw [List.getElem?_drop] at e2
      exact h.den (r.length + j) d v (by simp [List.getElem?_append_right, e1]) e2⟩
    have := FaOk.cons (((cells_mkE (ρ := ρ) (k := k) (i := i) (sp := sp) (o := 0) h1).congr (ρ' := newOsA ρ k sp)) fun o _ => by simp [newOs, newOsA]; rfl) (rows_mkE (i := i + 1) h2 fun r' hr' => hr r' (List.mem_cons_of_mem _ hr'))
    rw [List.take_append_drop] at this
    simpa using this
omit hT in
theorem mkE_len {sp : List (Nat × (Nat × Nat))} : ∀ {l : List V} {o : Nat}, (mkE sp o l).length = l.length
  | [], _ => rfl
  | _ :: l, o => by simp [mkE, mkE_len (l := l)]
def nB2 (k k' : Nat) (j : Nat) : Bool := bif Nat.beq j k then false else !Nat.beq j k'
omit hT in
theorem nB2_ne {k k' j : Nat} (h : nB2 k k' j = true) : j ≠ k ∧ j ≠ k' := ⟨fun e => by subst e; simp [nB2] at h, fun e => by
  subst e
  simp only [nB2] at h
  cases hb : Nat.beq j k <;> rw [hb] at h <;> simp at h⟩
omit hT in
theorem nB2_ne' {k k' j : Nat} (h : nB2 k k' j = true) : Nat.beq j k' = false := by
  simp only [nB2] at h
  cases hb : Nat.beq j k <;> rw [hb] at h
  · simpa using h
  · simp at h
omit hT in
/-- A cell of a row is left empty. -/
theorem Gd.faHole {F : Nat → Prop} {w0 : World} {hp : List (Nat × Hb)} (g : Gd c st tm ⟨F, w0, hp⟩ ρ G) {k m off u sz : Nat} {rs : List (List E)} {row : List E} {e : E} (hk : lk k st.ob = some (.fa u sz rs)) (h1 : famOne k st.ob = true) (hr : rs[m]? = some row) (ho : row[off]? = some e) :
    ∃ u0 Xe hq, CellOk ρ ⟨G, w0⟩ k m off e u0 Xe ∧ hp.Perm (Xe ++ hq) ∧ Gd c ⟨st.tm, obu k (.fa u sz (rs.set m (row.set off .hl))) st.ob⟩ tm ⟨F, w0, hq⟩ ρ G := by
  obtain ⟨X, rest0, ⟨A, cc, us, Y, rfl, q0, q1, q2, q3⟩, p2, s3, _⟩ := g.ob.faSet hk h1
  obtain ⟨us1, X1, rest1, r0, r1, r2, r3, r4, r5⟩ := q2.split q3 hr
  rw [Nat.zero_add] at r3 r5
  obtain ⟨u0, Xe, rest2, t1, t2, t3, t4⟩ := r3.split ho
  rw [Nat.zero_add] at t2 t4
  have hm : m < rs.length := (List.getElem?_eq_some_iff.1 hr).1
  have hoff : off < us1.length := (List.getElem?_eq_some_iff.1 t1).1
  obtain ⟨X1', v1, v2⟩ := t4 ρ .hl u0 [] (fun _ _ => rfl) ⟨rfl, by have := List.all_eq_true.1 q2.one u0 (List.mem_of_getElem? (r2 off u0 t1)); exact this⟩
  obtain ⟨Y', w1, w2⟩ := r5 ρ _ _ _ (by rw [List.length_set]; exact r0) (fun _ _ _ => rfl) v1
  rw [set_same t1] at w1
  have hsp : spl us (m * sz) us1 = us := by
    have := spl_set (n := m * sz) (v := u0) (by omega) r2 hoff
    rw [set_same t1] at this
    rw [this, set_same (r2 off u0 t1)]
  rw [hsp] at w1
  obtain ⟨hq, x1, x2⟩ := s3 ⟨G, w0⟩ (.fa u sz (rs.set m (row.set off .hl))) _ .refl (fun _ _ => rfl) rfl ⟨_, cc, _, Y', rfl, q0, by rw [List.length_set]; exact q1, w1, fun r hr' => by
    rcases List.mem_or_eq_of_mem_set hr' with h | h
    · exact q3 r h
    · subst h; rw [List.length_set]; exact q3 _ (List.mem_of_getElem? hr)⟩
  refine ⟨u0, Xe, hq, t2, ?_, g.fF, g.fw, g.gF, g.gx, g.fm, g.tm, x1⟩
  -- hp ~ hbA ++ Y ++ rest0, Y ~ X1 ++ rest1, X1 ~ Xe ++ rest2; hq ~ hbA ++ Y' ++ rest0, Y' ~ X1' ++ rest1, X1' ~ rest2
  have k1 : X1.Perm (Xe ++ X1') := t3.trans (v2.symm.append_left Xe)
  have k2 : Y.Perm (Xe ++ Y') := by
    refine r4.trans ((k1.append_right rest1).trans ?_)
    rw [List.append_assoc]
    exact w2.symm.append_left Xe
  refine p2.trans ?_
  refine List.Perm.trans ?_ (x2.symm.append_left Xe)
  rw [List.append_assoc, List.append_assoc]
  refine ((k2.append_right rest0).append_left _).trans ?_
  have k3 := (List.perm_append_comm (l₁ := hbA A u us cc sz) (l₂ := Xe)).append_right (Y' ++ rest0)
  simpa only [List.append_assoc] using k3
/-- An array of a cell is an own one from here on. -/
def tkD (k m o k1 : Nat) : D → D
  | .r k' m' o' sz n => bif Nat.beq k' k then bif Nat.beq m' m then bif Nat.beq o' o then .ow k1 n else .r k' m' o' sz n else .r k' m' o' sz n else .r k' m' o' sz n
  | d => d
omit hT in
theorem tkD_den {z : Fz} {k m o k1 : Nat} {l : Loc} (h1 : ρ k1 = some l) (h2 : ρ.os k m o = some l) {d : D} {v : Value} (h : Den ρ z d v) : Den ρ z (tkD k m o k1 d) v := by
  cases d <;> simp only [tkD] <;> first | exact h | skip
  rename_i k' m' o' sz n
  cases hb1 : Nat.beq k' k <;> simp only [cond_false, cond_true]
  · exact h
  cases hb2 : Nat.beq m' m <;> simp only [cond_false, cond_true]
  · exact h
  cases hb3 : Nat.beq o' o <;> simp only [cond_false, cond_true]
  · exact h
  rw [Nat.eq_of_beq_eq_true hb1, Nat.eq_of_beq_eq_true hb2, Nat.eq_of_beq_eq_true hb3] at h
  cases h with | @r _ _ _ _ _ cc A x0 xA xc xm =>
  rw [h2] at x0
  injection x0 with x0
  subst x0
  exact .ow (l := ⟨A, cc, sz⟩) h1 (fun hA0 => by
    rcases xA with ⟨_, e0⟩ | ⟨b, e0⟩
    · exact e0
    · dsimp only at hA0; rw [e0] at hA0; cases hA0) xc
omit hT in
theorem Ghost.takeFa {tmT tmK : List (Nat × SV)} {ob obF : List (Nat × Ob)} (k m o k1 : Nat) {u szf e sz : Nat} {rs : List (List E)} {row : List E} {rr : List (List V)} (hk : lk k ob = some (.fa u szf rs)) (h1 : famOne k ob = true) (hrow : rs[m]? = some row) (ho : row[o]? = some (.os e sz rr))
    (hnew : newN k1 tmT (obu k (.fa u szf (rs.set m (row.set o .hl))) ob) = true) (hTm : qTm (tkD k m o k1) tmT = tmK) (hO : qOb (tkD k m o k1) (obu k (.fa u szf (rs.set m (row.set o .hl))) ob) = obF) :
    Ghost tmT ob tmK ((k1, .ar e sz rr) :: obF) := ⟨fun c tm h ρ G w g hw => by
  subst hTm hO
  obtain ⟨F, w0, hp⟩ := h
  obtain ⟨u0, Xe, hq, ⟨A, cc, us1, rfl, rfl, t3, t4, t5, t6⟩, p1, g1⟩ := g.faHole hk h1 hrow ho
  have hob : ObOk (upd ρ k1 ⟨A, cc, sz⟩) ⟨G, w0⟩ k1 (.ar e sz rr) (hbA A e us1 cc sz) := ⟨A, cc, us1, rfl, upd_self, t4, t5, t6⟩
  have g2 := g1.new (st := ⟨tmT, _⟩) hnew hob
  have fz : ∀ d v, Den (upd ρ k1 ⟨A, cc, sz⟩) ⟨G, w0⟩ d v → Den (upd ρ k1 ⟨A, cc, sz⟩) ⟨G, w0⟩ (tkD k m o k1 d) v := fun d v h => tkD_den upd_self (show (upd ρ k1 ⟨A, cc, sz⟩).os k m o = _ from t3) h
  obtain ⟨X, hp', e1, e2, e3⟩ := g2.ob
  refine ⟨⟨F, w0, hbA A e us1 cc sz ++ hq⟩, _, G, ⟨g2.fF, g2.fw, g2.gF, g2.gx, g2.fm, fun j s' hj => ?_, ⟨X, hp', e1, e2, qOb_den fz e3⟩⟩, hw.perm p1⟩
  obtain ⟨s, e1, rfl⟩ := qTm_lk hj
  obtain ⟨v, v1, v2⟩ := g2.tm j s e1
  exact ⟨v, v1, qS_den fz v2⟩⟩
end
end Go.Proofs.YtgloielnnakknaaDoor
namespace Go.Proofs.YtgloielnnakknaaDoor
open Go.RowKit
/-- Cells that own arrays, as values. -/
inductive FrL : List E → List V → Prop
  | nil : FrL [] []
  | v {x : V} {es : List E} {vs : List V} : FrL es vs → FrL (.v x :: es) (x :: vs)
  | os {t sz : Nat} {rr : List (List V)} {es : List E} {vs : List V} : FrL es vs → FrL (.os t sz rr :: es) (.sl sz rr :: vs)
inductive FrR : List (List E) → List (List V) → Prop
  | nil : FrR [] []
  | cons {r : List E} {v : List V} {rs : List (List E)} {vs : List (List V)} : FrL r v → FrR rs vs → FrR (r :: rs) (v :: vs)
theorem FrR.map {α : Type} {f : α → List E} {g : α → List V} (h : ∀ a, FrL (f a) (g a)) : ∀ {l : List α}, FrR (l.map f) (l.map g)
  | [] => .nil
  | a :: _ => .cons (h a) (FrR.map h)
theorem FrL.len {es : List E} {vs : List V} (h : FrL es vs) : vs.length = es.length := by
  induction h with
  | nil => rfl
  | v _ ih => simp [ih]
  | os _ ih => simp [ih]
theorem FrR.len {rs : List (List E)} {vs : List (List V)} (h : FrR rs vs) : vs.length = rs.length := by
  induction h with
  | nil => rfl
  | cons _ _ ih => simp [ih]
theorem FrR.rows {sz : Nat} {rs : List (List E)} {vs : List (List V)} (h : FrR rs vs) : (∀ r ∈ rs, r.length = sz) → ∀ r ∈ vs, r.length = sz := by
  induction h with
  | nil => intro _ r hr; cases hr
  | cons h1 _ ih =>
    intro hs r hr
    rcases List.mem_cons.1 hr with rfl | hr
    · rw [h1.len]; exact hs _ (by simp)
    · exact ih (fun r' h' => hs r' (by simp [h'])) r hr
section
variable {F : Nat → Prop} {w0 w : World} {hp : List (Nat × Hb)} {ρ : Rho} {G : FG}
theorem frz_row {A : Option Addr} {e cc sz n : Nat} {us : List Value} {rs : List (List V)} (hw : Hp ⟨F, w0, hp⟩ w) (hn : rs.length = n) (g3 : OkA A us n cc sz) (g4 : DenVL ⟨G.or (Bl hp), w⟩ rs.flatten us) (g5 : ∀ r ∈ rs, r.length = sz) (hm : ∀ p, p ∈ hbA A e us cc sz → p ∈ hp) :
    DenV ⟨G.or (Bl hp), w⟩ (.sl sz rs) (.slice A n cc) := by
  rcases g3.form with ⟨rfl, h1, h2⟩ | ⟨b, rfl⟩
  · have hrs : rs = [] := List.eq_nil_of_length_eq_zero (hn.trans h1)
    subst hrs
    exact .sl (b := 0) (o := 0) [] hn g3.cap (Nat.le_trans g3.cap g3.max) g5 (fun h => absurd rfl h) (by simp) (fun j u h => by simp at h) rfl (fun j d u h => by simp at h)
  · have hm' : (b, (⟨e, us, cc * sz⟩ : Hb)) ∈ hp := hm _ (by rw [hbA_some]; exact List.mem_singleton.2 rfl)
    exact .sl (b := b) (o := 0) us hn g3.cap (Nat.le_trans g3.cap g3.max) g5 (fun _ => ⟨rfl, .inr ⟨_, hm'⟩⟩) g4.len (fun j x hx => by rw [Nat.zero_add]; exact (hw.blk b _ hm').cell (x := ⟨e, us, _⟩) hx) g4.one g4.den
theorem CellsOk.frz (hw : Hp ⟨F, w0, hp⟩ w) (hz : Mz ⟨G, w0⟩ ⟨G.or (Bl hp), w⟩) {es : List E} {vs : List V} (h : FrL es vs) : ∀ {k i o : Nat} {us : List Value} {X : List (Nat × Hb)}, CellsOk ρ ⟨G, w0⟩ k i o es us X → (∀ p, p ∈ X → p ∈ hp) → DenVL ⟨G.or (Bl hp), w⟩ vs us := by
  induction h with
  | nil => intro k i o us X hc _; cases hc; exact .nil
  | @v x es vs _ ih =>
    intro k i o us X hc hX
    cases hc with
    | @cons _ _ u X1 _ us Y h1 h2 =>
      have h3 := ih h2 fun p hp => hX p (List.mem_append_right _ hp)
      have h4 : DenV ⟨G.or (Bl hp), w⟩ x u := h1.2.mono hz
      have h5 : DenVL ⟨G.or (Bl hp), w⟩ [x] [u] := ⟨rfl, by simp [h4.one], fun j d u' e1 e2 => by
        cases j with
        | zero => simp at e1 e2; subst e1 e2; exact h4
        | succ j => simp at e1⟩
      exact h5.app h3
  | @os t sz rr es vs _ ih =>
    intro k i o us X hc hX
    cases hc with
    | @cons _ _ u X1 _ us Y h1 h2 =>
      have h3 := ih h2 fun p hp => hX p (List.mem_append_right _ hp)
      obtain ⟨A, c, us1, rfl, rfl, t3, t4, t5, t6⟩ := h1
      have h4 : DenV ⟨G.or (Bl hp), w⟩ (.sl sz rr) (.slice A rr.length c) := frz_row hw rfl t4 (t5.mono hz) t6 fun p hp => hX p (List.mem_append_left _ hp)
      have h5 : DenVL ⟨G.or (Bl hp), w⟩ [.sl sz rr] [.slice A rr.length c] := ⟨rfl, by simp [h4.one], fun j d u' e1 e2 => by
        cases j with
        | zero => simp at e1 e2; subst e1 e2; exact h4
        | succ j => simp at e1⟩
      exact h5.app h3
theorem FaOk.frz (hw : Hp ⟨F, w0, hp⟩ w) (hz : Mz ⟨G, w0⟩ ⟨G.or (Bl hp), w⟩) {rs : List (List E)} {vs : List (List V)} (h : FrR rs vs) : ∀ {k i : Nat} {us : List Value} {X : List (Nat × Hb)}, FaOk ρ ⟨G, w0⟩ k i rs us X → (∀ p, p ∈ X → p ∈ hp) → DenVL ⟨G.or (Bl hp), w⟩ vs.flatten us := by
  induction h with
  | nil => intro k i us X hc _; cases hc; exact .nil
  | cons h1 _ ih =>
    intro k i us X hc hX
    cases hc with
    | cons c1 c2 =>
      exact (CellsOk.frz hw hz h1 c1 fun p hp => hX p (List.mem_append_left _ hp)).app (ih c2 fun p hp => hX p (List.mem_append_right _ hp))
end
/-- What an argument is read as. -/
inductive BorR (ob : List (Nat × Ob)) : D → V → Prop
  | u {x : V} : BorR ob (.u x) x
  | ar {k n t sz : Nat} {rs : List (List V)} : lk k ob = some (.ar t sz rs) → rs.length = n → BorR ob (.ow k n) (.sl sz rs)
  | fa {k n t sz : Nat} {rs : List (List E)} {vs : List (List V)} : lk k ob = some (.fa t sz rs) → rs.length = n → FrR rs vs → BorR ob (.ow k n) (.sl sz vs)
  | rf {k i o sz n u szf e : Nat} {rs : List (List E)} {row : List E} {rr : List (List V)} : lk k ob = some (.fa u szf rs) → rs[i]? = some row → row[o]? = some (.os e sz rr) → rr.length = n → BorR ob (D.r k i o sz n) (.sl sz rr)
inductive BorLR (ob : List (Nat × Ob)) : List D → List D → Prop
  | nil : BorLR ob [] []
  | cons {d : D} {v : V} {r r' : List D} : BorR ob d v → BorLR ob r r' → BorLR ob (d :: r) (.u v :: r')
inductive ArgR (ob : List (Nat × Ob)) (tm : List (Nat × SV)) : List Operand → List SV → Prop
  | nil : ArgR ob tm [] []
  | d {x : Operand} {d : D} {v : V} {r : List Operand} {ss : List SV} : evT tm x = some (.d d) → BorR ob d v → ArgR ob tm r ss → ArgR ob tm (x :: r) (.d (.u v) :: ss)
  | a {x : Operand} {ds ds' : List D} {r : List Operand} {ss : List SV} : evT tm x = some (.a ds) → BorLR ob ds ds' → ArgR ob tm r ss → ArgR ob tm (x :: r) (.a ds' :: ss)
section
variable {P : Program} {T : List (Nat × Ty)} {nt : Nat} {Q : Exit → Act → World → Prop} {c : Cx} {st : St} {tm : List (Nat × Value)} {h : Hs} {ρ : Rho} {G : FG} {ty : TypeId} {pos : String} {af : Array Edge} {gd : Option (Nat × Bool)} {K : Kt} {w : World}
theorem BorR.den (g : Gd c st tm h ρ G) (hw : Hp h w) {d : D} {x : V} {v : Value} (b : BorR st.ob d x) (hd : Den ρ ⟨G, h.w0⟩ d v) : DenV ⟨G.or (Bl h.hp), w⟩ x v := by
  have hz := g.mz hw (G' := G.or (Bl h.hp)) fun _ h => .inl h
  obtain ⟨F, w0, hp⟩ := h
  cases b with
  | u => cases hd with | u hd => exact hd.mono hz
  | @ar k n t sz rs hk hn =>
    cases hd with | @ow _ _ l h0 hA hnc =>
    obtain ⟨Y, f, ⟨A, cc, us, rfl, g2, g3, g4, g5⟩, g6⟩ := g.ob.at_ hk
    rw [h0] at g2
    injection g2 with g2; subst g2
    exact frz_row hw hn (by rw [← hn]; exact g3) (g4.mono hz) g5 fun p hp => g6.mem hp
  | @fa k n t sz rs vs hk hn hf =>
    cases hd with | @ow _ _ l h0 hA hnc =>
    obtain ⟨Y, f, ⟨A, cc, us, X, rfl, g2, g3, g4, g5⟩, g6⟩ := g.ob.at_ hk
    rw [h0] at g2
    injection g2 with g2; subst g2
    exact frz_row (e := t) hw (hf.len.trans hn) (by rw [← hn]; exact g3) (FaOk.frz hw hz hf g4 fun p hp => g6.mem (List.mem_append_right _ hp)) (hf.rows g5) fun p hp => g6.mem (List.mem_append_left _ hp)
  | @rf k i o sz n u szf e rs row rr hk hr ho hn =>
    cases hd with | @r _ _ _ _ _ cc0 A0 h0 hA hnc hm0 =>
    obtain ⟨Y, f, ⟨A, cc, us, X, rfl, g2, g3, g4, g5⟩, g6⟩ := g.ob.at_ hk
    obtain ⟨us1, X1, rest1, r0, r1, r2, r3, r4, _⟩ := g4.split g5 hr
    rw [Nat.zero_add] at r3
    obtain ⟨u0, Xe, rest2, t1, ⟨A', cc', us2, rfl, rfl, t3, t4, t5, t6⟩, t7, _⟩ := r3.split ho
    rw [Nat.zero_add] at t3
    rw [t3] at h0
    injection h0 with h0
    injection h0 with e1 e2 _
    subst e1 e2
    exact frz_row (e := e) hw hn (by rw [← hn]; exact t4) (t5.mono hz) t6 fun p hp => g6.mem (List.mem_append_right _ (r4.mem_iff.2 (List.mem_append_left _ (t7.mem_iff.2 (List.mem_append_left _ hp)))))
theorem BorLR.den (g : Gd c st tm h ρ G) (hw : Hp h w) {ds ds' : List D} (b : BorLR st.ob ds ds') : ∀ {us : List Value}, DenL ρ ⟨G, h.w0⟩ ds us → DenL ρ ⟨G.or (Bl h.hp), w⟩ ds' us := by
  induction b with
  | nil =>
    intro us hd
    have := hd.len
    simp at this
    subst this
    exact ⟨rfl, rfl, fun _ _ _ h => by simp at h⟩
  | cons h1 _ ih =>
    intro us hd
    have hl := hd.len
    cases us with
    | nil => simp at hl
    | cons u us =>
      have h2 := ih (us := us) ⟨by simpa using hl, by have := hd.one; simp at this; simpa using this.2, fun j d v e1 e2 => hd.den (j + 1) d v (by simpa using e1) (by simpa using e2)⟩
      exact h2.cons (.u (h1.den g hw (hd.den 0 _ u rfl rfl)))
theorem ArgR.ev (g : Gd c st tm h ρ G) {xs : List Operand} {ss : List SV} (b : ArgR st.ob st.tm xs ss) : ∃ vs, ArgsL tm xs vs ∧ vs.length = ss.length ∧ ∀ w, Hp h w → ∀ (j : Nat) s v, ss[j]? = some s → vs[j]? = some v → DenS ρ ⟨G.or (Bl h.hp), w⟩ s v := by
  induction b with
  | nil => exact ⟨[], .nil, rfl, fun w hw j s v e => by simp at e⟩
  | d h1 h2 _ ih =>
    obtain ⟨v, q1, q2⟩ := g.ev h1
    obtain ⟨vs, r1, r2, r3⟩ := ih
    refine ⟨v :: vs, .cons q1 r1, by simp [r2], fun w hw j s0 v0 e1 e2 => ?_⟩
    cases j with
    | zero =>
      simp at e1 e2; subst e1 e2
      cases q2 with | d q2 => exact .d (.u (h2.den g hw q2))
    | succ j => exact r3 w hw j s0 v0 (by simpa using e1) (by simpa using e2)
  | a h1 h2 _ ih =>
    obtain ⟨v, q1, q2⟩ := g.ev h1
    obtain ⟨vs, r1, r2, r3⟩ := ih
    refine ⟨v :: vs, .cons q1 r1, by simp [r2], fun w hw j s0 v0 e1 e2 => ?_⟩
    cases j with
    | zero =>
      simp at e1 e2; subst e1 e2
      cases q2 with | a q2 => exact .a (h2.den g hw q2)
    | succ j => exact r3 w hw j s0 v0 (by simpa using e1) (by simpa using e2)
/-- A call that reads own arrays; its answer is a plain one. -/
theorem Raw.callR {f : FuncId} {xs : Array Operand} {ts : Array TypeId} {d : Option Tmp} {tmT : List (Nat × SV)} {ob : List (Nat × Ob)} {ss : List SV} {s0 : SV} (hx : ArgR ob tmT xs.toList ss) (hd : (match d with | some d => Nat.blt d nt | none => true) = true) (hc : CallsA P f ss [] (Is s0)) (hmf : MfS s0) (hO : okO (fun _ => true) ob = true)
    (k : Bk d [] (keepTm (fun _ => true) [] tmT) ob K s0 []) : Raw P nt ⟨d, .call ⟨.value (.func f), xs, ts⟩, ty, pos, af, gd⟩ tmT ob K := ⟨fun Q c tm h ρ G g => by
  obtain ⟨F, w0, hp⟩ := h
  have oP : ObsOk ρ ⟨G, w0⟩ [] [] := rfl
  obtain ⟨vs, a1, a2, a3⟩ := hx.ev g
  have g2 : Gd c ⟨tmT, [] ++ ob⟩ tm ⟨F, w0, [] ++ hp⟩ ρ G := g
  have hcall := callB_vals (ns := []) (tmK := keepTm (fun _ => true) [] tmT) g2 oP g.ob a2 (fun w hw => a3 w hw) (fun k s h => (keepTm_get h).2) keepTm_ok hO rfl hc (fun s ob' ⟨e1, e2⟩ => by subst e1 e2; exact ⟨hmf, fun p hp => by cases hp⟩)
  obtain ⟨fn, cd, f1, f2, f3⟩ := hc.fn
  have hxs : xs = xs.toList.toArray := by simp
  rw [hxs]
  cases d with
  | some d =>
    refine OpS.call (P := P) (nt := nt) (Q := Q) (fun v h2 => Kd c K ((d, v) :: tm) h2) f1 f2 f3 a1 hd (fun w hw => (hcall w hw).mono ?_) fun _ _ hk => hk
    rintro e w' ⟨v, h3, s, ob', ρ', G', rfl, hw3, ⟨rfl, rfl⟩, hg⟩
    obtain ⟨b1, b2, b3⟩ := k
    obtain ⟨q1, q2⟩ := hg b1 b2
    exact ⟨v, h3, rfl, hw3, .of (q2.put q1) b3⟩
  | none =>
    refine OpS.call0 (P := P) (nt := nt) (Q := Q) (fun v h2 => Kd c K tm h2) f1 f2 f3 a1 (fun w hw => (hcall w hw).mono ?_) fun _ _ hk => hk
    rintro e w' ⟨v, h3, s, ob', ρ', G', rfl, hw3, ⟨rfl, rfl⟩, hg⟩
    obtain ⟨b1, b2, b3⟩ := k
    obtain ⟨q1, q2⟩ := hg b1 b2
    exact ⟨v, h3, rfl, hw3, .of q2 b3⟩⟩
end
end Go.Proofs.YtgloielnnakknaaDoor
namespace Go.Proofs.YtgloielnnakknaaDoor
open Go.RowKit

def tt : List (Nat × Ty) := [
  (1, ⟨.ot, 1, 8, [.nilFunc]⟩),
  (2, ⟨.in_ .i64, 1, 8, [.int .i64 0]⟩),
  (3, ⟨.in_ .i64, 1, 8, [.int .i64 0]⟩),
  (4, ⟨.bo, 1, 1, [.bool false]⟩),
  (5, ⟨.in_ .u8, 1, 1, [.int .u8 0]⟩),
  (6, ⟨.in_ .u8, 1, 1, [.int .u8 0]⟩),
  (7, ⟨.st [(0, 2), (1, 3), (2, 4), (3, 6)], 4, 24, [.int .i64 0, .int .i64 0, .bool false, .int .u8 0]⟩),
  (8, ⟨.st [(0, 2), (1, 3), (2, 4), (3, 6)], 4, 24, [.int .i64 0, .int .i64 0, .bool false, .int .u8 0]⟩),
  (9, ⟨.sr, 1, 16, [.string ⟨#[]⟩]⟩),
  (10, ⟨.sr, 1, 16, [.string ⟨#[]⟩]⟩),
  (11, ⟨.sr, 1, 16, [.string ⟨#[]⟩]⟩),
  (12, ⟨.in_ .u64, 1, 8, [.int .u64 0]⟩),
  (13, ⟨.st [(0, 9), (1, 12)], 2, 24, [.string ⟨#[]⟩, .int .u64 0]⟩),
  (14, ⟨.st [(0, 9), (1, 12)], 2, 24, [.string ⟨#[]⟩, .int .u64 0]⟩),
  (15, ⟨.pt 133, 1, 8, [.pointer none]⟩),
  (16, ⟨.pt 136, 1, 8, [.pointer none]⟩),
  (17, ⟨.pt 143, 1, 8, [.pointer none]⟩),
  (18, ⟨.st [(0, 17)], 1, 8, [.pointer none]⟩),
  (19, ⟨.st [(0, 17)], 1, 8, [.pointer none]⟩),
  (20, ⟨.ot, 1, 16, [.nilIface]⟩),
  (21, ⟨.in_ .i32, 1, 4, [.int .i32 0]⟩),
  (22, ⟨.sl 9, 1, 24, [.slice none 0 0]⟩),
  (23, ⟨.st [(0, 3), (1, 3)], 2, 16, [.int .i64 0, .int .i64 0]⟩),
  (24, ⟨.st [(0, 3), (1, 3)], 2, 16, [.int .i64 0, .int .i64 0]⟩),
  (26, ⟨.ot, 1, 8, [.nilFunc]⟩),
  (27, ⟨.ot, 1, 8, [.nilFunc]⟩),
  (28, ⟨.ot, 1, 8, [.nilFunc]⟩),
  (29, ⟨.ot, 1, 8, [.nilFunc]⟩),
  (30, ⟨.ot, 1, 8, [.nilFunc]⟩),
  (31, ⟨.ot, 1, 8, [.nilFunc]⟩),
  (32, ⟨.sl 49, 1, 24, [.slice none 0 0]⟩),
  (33, ⟨.sl 43, 1, 24, [.slice none 0 0]⟩),
  (35, ⟨.ot, 1, 8, [.nilFunc]⟩),
  (36, ⟨.ot, 1, 8, [.nilFunc]⟩),
  (37, ⟨.sl 69, 1, 24, [.slice none 0 0]⟩),
  (38, ⟨.st [(0, 32), (1, 37), (2, 33), (3, 4)], 4, 80, [.slice none 0 0, .slice none 0 0, .slice none 0 0, .bool false]⟩),
  (39, ⟨.st [(0, 32), (1, 37), (2, 33), (3, 4)], 4, 80, [.slice none 0 0, .slice none 0 0, .slice none 0 0, .bool false]⟩),
  (41, ⟨.ot, 1, 8, [.nilFunc]⟩),
  (42, ⟨.st [(0, 3), (1, 9)], 2, 24, [.int .i64 0, .string ⟨#[]⟩]⟩),
  (43, ⟨.st [(0, 3), (1, 9)], 2, 24, [.int .i64 0, .string ⟨#[]⟩]⟩),
  (44, ⟨.ot, 1, 8, [.nilFunc]⟩),
  (45, ⟨.ot, 1, 8, [.nilFunc]⟩),
  (46, ⟨.ot, 1, 8, [.nilFunc]⟩),
  (47, ⟨.sl 51, 1, 24, [.slice none 0 0]⟩),
  (48, ⟨.st [(0, 9), (1, 47)], 2, 40, [.string ⟨#[]⟩, .slice none 0 0]⟩),
  (49, ⟨.st [(0, 9), (1, 47)], 2, 40, [.string ⟨#[]⟩, .slice none 0 0]⟩),
  (50, ⟨.st [(0, 3), (1, 9), (2, 9)], 3, 40, [.int .i64 0, .string ⟨#[]⟩, .string ⟨#[]⟩]⟩),
  (51, ⟨.st [(0, 3), (1, 9), (2, 9)], 3, 40, [.int .i64 0, .string ⟨#[]⟩, .string ⟨#[]⟩]⟩),
  (52, ⟨.ot, 1, 8, [.nilFunc]⟩),
  (53, ⟨.ot, 1, 8, [.nilFunc]⟩),
  (54, ⟨.ot, 1, 8, [.nilFunc]⟩),
  (55, ⟨.ot, 1, 8, [.nilFunc]⟩),
  (56, ⟨.ot, 1, 8, [.nilFunc]⟩),
  (57, ⟨.pt 63, 1, 8, [.pointer none]⟩),
  (59, ⟨.ot, 1, 8, [.nilFunc]⟩),
  (60, ⟨.mp 9 49, 1, 8, [.map none]⟩),
  (61, ⟨.sl 71, 1, 24, [.slice none 0 0]⟩),
  (62, ⟨.st [(0, 60), (1, 61), (2, 33), (3, 4)], 4, 64, [.map none, .slice none 0 0, .slice none 0 0, .bool false]⟩),
  (63, ⟨.st [(0, 60), (1, 61), (2, 33), (3, 4)], 4, 64, [.map none, .slice none 0 0, .slice none 0 0, .bool false]⟩),
  (64, ⟨.ot, 1, 8, [.nilFunc]⟩),
  (65, ⟨.ot, 1, 8, [.nilFunc]⟩),
  (66, ⟨.mp 9 4, 1, 8, [.map none]⟩),
  (67, ⟨.sl 3, 1, 24, [.slice none 0 0]⟩),
  (68, ⟨.st [(0, 9), (1, 3), (2, 4), (3, 22), (4, 67)], 5, 80, [.string ⟨#[]⟩, .int .i64 0, .bool false, .slice none 0 0, .slice none 0 0]⟩),
  (69, ⟨.st [(0, 9), (1, 3), (2, 4), (3, 22), (4, 67)], 5, 80, [.string ⟨#[]⟩, .int .i64 0, .bool false, .slice none 0 0, .slice none 0 0]⟩),
  (70, ⟨.ot, 1, 8, [.nilFunc]⟩),
  (71, ⟨.pt 82, 1, 8, [.pointer none]⟩),
  (72, ⟨.pt 75, 1, 8, [.pointer none]⟩),
  (73, ⟨.sl 5, 1, 24, [.slice none 0 0]⟩),
  (74, ⟨.st [(0, 72), (1, 73)], 2, 32, [.pointer none, .slice none 0 0]⟩),
  (75, ⟨.st [(0, 72), (1, 73)], 2, 32, [.pointer none, .slice none 0 0]⟩),
  (76, ⟨.ot, 1, 16, [.nilIface]⟩),
  (77, ⟨.ot, 1, 16, [.nilIface]⟩),
  (79, ⟨.ot, 1, 8, [.nilFunc]⟩),
  (80, ⟨.sl 84, 1, 24, [.slice none 0 0]⟩),
  (81, ⟨.st [(0, 9), (1, 3), (2, 80)], 3, 48, [.string ⟨#[]⟩, .int .i64 0, .slice none 0 0]⟩),
  (82, ⟨.st [(0, 9), (1, 3), (2, 80)], 3, 48, [.string ⟨#[]⟩, .int .i64 0, .slice none 0 0]⟩),
  (83, ⟨.st [(0, 9), (1, 71)], 2, 24, [.string ⟨#[]⟩, .pointer none]⟩),
  (84, ⟨.st [(0, 9), (1, 71)], 2, 24, [.string ⟨#[]⟩, .pointer none]⟩),
  (85, ⟨.ot, 1, 8, [.nilFunc]⟩),
  (86, ⟨.ot, 1, 8, [.nilFunc]⟩),
  (87, ⟨.ot, 1, 8, [.nilFunc]⟩),
  (88, ⟨.ot, 1, 8, [.nilFunc]⟩),
  (89, ⟨.ot, 1, 8, [.nilFunc]⟩),
  (90, ⟨.ot, 1, 8, [.nilFunc]⟩),
  (91, ⟨.ot, 1, 8, [.nilFunc]⟩),
  (92, ⟨.ot, 1, 8, [.nilFunc]⟩),
  (93, ⟨.ot, 1, 8, [.nilFunc]⟩),
  (94, ⟨.pt 5, 1, 8, [.pointer none]⟩),
  (95, ⟨.ot, 1, 8, [.nilFunc]⟩),
  (96, ⟨.ot, 1, 8, [.nilFunc]⟩),
  (97, ⟨.ot, 1, 8, [.nilFunc]⟩),
  (98, ⟨.ot, 1, 8, [.nilFunc]⟩),
  (99, ⟨.ot, 1, 8, [.nilFunc]⟩),
  (100, ⟨.ot, 1, 8, [.nilFunc]⟩),
  (101, ⟨.ot, 1, 8, [.nilFunc]⟩),
  (102, ⟨.ot, 1, 8, [.nilFunc]⟩),
  (103, ⟨.ot, 1, 8, [.nilFunc]⟩),
  (105, ⟨.ot, 1, 8, [.nilFunc]⟩),
  (106, ⟨.ot, 1, 8, [.nilFunc]⟩),
  (107, ⟨.ot, 1, 8, [.nilFunc]⟩),
  (108, ⟨.ot, 1, 8, [.nilFunc]⟩),
  (109, ⟨.ot, 1, 8, [.nilFunc]⟩),
  (110, ⟨.ot, 1, 8, [.nilFunc]⟩),
  (111, ⟨.ot, 1, 8, [.nilFunc]⟩),
  (113, ⟨.ot, 1, 8, [.nilFunc]⟩),
  (116, ⟨.ot, 1, 8, [.nilFunc]⟩),
  (117, ⟨.ot, 1, 8, [.nilFunc]⟩),
  (118, ⟨.ot, 1, 8, [.nilFunc]⟩),
  (119, ⟨.ot, 1, 8, [.nilFunc]⟩),
  (120, ⟨.ot, 1, 8, [.nilFunc]⟩),
  (121, ⟨.ot, 1, 8, [.nilFunc]⟩),
  (122, ⟨.ot, 1, 8, [.nilFunc]⟩),
  (123, ⟨.in_ .u64, 1, 8, [.int .u64 0]⟩),
  (124, ⟨.ot, 1, 8, [.nilFunc]⟩),
  (126, ⟨.st [(0, 5), (1, 5)], 2, 2, [.int .u8 0, .int .u8 0]⟩),
  (127, ⟨.st [(0, 5), (1, 5)], 2, 2, [.int .u8 0, .int .u8 0]⟩),
  (128, ⟨.ar 16 127, 32, 32, [.int .u8 0, .int .u8 0, .int .u8 0, .int .u8 0, .int .u8 0, .int .u8 0, .int .u8 0, .int .u8 0, .int .u8 0, .int .u8 0, .int .u8 0, .int .u8 0, .int .u8 0, .int .u8 0, .int .u8 0, .int .u8 0, .int .u8 0, .int .u8 0, .int .u8 0, .int .u8 0, .int .u8 0, .int .u8 0, .int .u8 0, .int .u8 0, .int .u8 0, .int .u8 0, .int .u8 0, .int .u8 0, .int .u8 0, .int .u8 0, .int .u8 0, .int .u8 0]⟩),
  (129, ⟨.in_ .u32, 1, 4, [.int .u32 0]⟩),
  (131, ⟨.ot, 1, 8, [.nilFunc]⟩),
  (132, ⟨.st [(0, 17), (1, 17), (2, 17), (3, 9)], 4, 40, [.pointer none, .pointer none, .pointer none, .string ⟨#[]⟩]⟩),
  (133, ⟨.st [(0, 17), (1, 17), (2, 17), (3, 9)], 4, 40, [.pointer none, .pointer none, .pointer none, .string ⟨#[]⟩]⟩),
  (134, ⟨.ar 0 16, 0, 0, []⟩),
  (135, ⟨.st [(0, 134)], 0, 0, []⟩),
  (136, ⟨.st [(0, 134)], 0, 0, []⟩),
  (137, ⟨.in_ .u8, 1, 1, [.int .u8 0]⟩),
  (138, ⟨.in_ .u8, 1, 1, [.int .u8 0]⟩),
  (139, ⟨.ot, 1, 8, [.nilFunc]⟩),
  (140, ⟨.in_ .i32, 1, 4, [.int .i32 0]⟩),
  (141, ⟨.in_ .i32, 1, 4, [.int .i32 0]⟩),
  (142, ⟨.st [(0, 12), (1, 12), (2, 129), (3, 137), (4, 5), (5, 5), (6, 138), (7, 139), (8, 94), (9, 140), (10, 141)], 11, 48, [.int .u64 0, .int .u64 0, .int .u32 0, .int .u8 0, .int .u8 0, .int .u8 0, .int .u8 0, .nilFunc, .pointer none, .int .i32 0, .int .i32 0]⟩),
  (143, ⟨.st [(0, 12), (1, 12), (2, 129), (3, 137), (4, 5), (5, 5), (6, 138), (7, 139), (8, 94), (9, 140), (10, 141)], 11, 48, [.int .u64 0, .int .u64 0, .int .u32 0, .int .u8 0, .int .u8 0, .int .u8 0, .int .u8 0, .nilFunc, .pointer none, .int .i32 0, .int .i32 0]⟩)]
instance tys : Tys Tryd.prog tt := tys_of (by kernel_rfl) (by kernel_rfl)
end Go.Proofs.YtgloielnnakknaaDoor
namespace Go.Proofs.YtgloielnnakknaaDoor
open Go.RowKit
abbrev di (n : Int) : SV := .d (.u (.int .i64 n))
abbrev db (b : Bool) : SV := .d (.u (.bool b))
abbrev dby (n : Int) : SV := .d (.u (.int .u8 n))
abbrev dsr (s : ByteArray) : SV := .d (.u (.str s))
end Go.Proofs.YtgloielnnakknaaDoor
namespace Go.Proofs.YtgloielnnakknaaDoor
open Go.RowKit
def digB (c : Int) : Bool := decide (48 ≤ c) && decide (c ≤ 57)
theorem digit_R (c : Int) : CallsA Tryd.prog 35 [dby c] [] (Is (db (digB c))) := by
  by_cases h1 : 48 ≤ c
  · have e : digB c = decide (c ≤ 57) := by simp [digB, h1]
    rw [e]
    refine callsA_of_vc (T := tt) Tryd.func35 rfl rfl rfl rfl rfl ?_
    repeat' ((conv => whnf); first | refine Gs.id ?_ | refine Brn.T (by (try simp only [smT]); first | rfl | assumption | fail) ?_ | fail)
    all_goals (conv => whnf)
    all_goals exact Ret.is rfl
  · have e : digB c = false := by simp [digB, h1]
    rw [e]
    refine callsA_of_vc (T := tt) Tryd.func35 rfl rfl rfl rfl rfl ?_
    repeat' ((conv => whnf); first | refine Gs.id ?_ | refine Brn.F (by (try simp only [smT]); first | rfl | omega | fail) ?_ | fail)
    all_goals (conv => whnf)
    all_goals exact Ret.is rfl
/-- The parts of a string between bytes c: those that end at i or before. -/
def splitB (s : ByteArray) (c : UInt8) : Nat → List ByteArray × Nat
  | 0 => ([], 0)
  | i + 1 => if i = s.size ∨ s.data[i]? = some c then ((splitB s c i).1 ++ [s.extract (splitB s c i).2 i], i + 1) else splitB s c i
theorem splitB_le (s : ByteArray) (c : UInt8) : ∀ i, (splitB s c i).1.length ≤ i ∧ (splitB s c i).2 ≤ i
  | 0 => by simp [splitB]
  | i + 1 => by
    have := splitB_le s c i
    rw [splitB]
    split
    · simp; omega
    · omega
abbrev strs (l : List ByteArray) : List (List V) := l.map fun s => [V.str s]
theorem splitB_ne (s : ByteArray) (c : UInt8) : (splitB s c (s.size + 1)).1 ≠ [] := by
  rw [splitB, if_pos (.inl rfl)]; simp
set_option maxHeartbeats 1000000 in
theorem split_R (s : ByteArray) (c : UInt8) (hs : s.size ≤ 1000000000000) : CallsA Tryd.prog 24 [dsr s, dby c.toNat] [] (Is (.d (.u (.sl 1 (strs (splitB s c (s.size + 1)).1))))) := by
  refine callsA_of_vc (T := tt) Tryd.func24 rfl rfl rfl rfl rfl ?_
  repeat' ((conv => whnf); first | refine Gs.id ?_ | fail)
  all_goals (conv => whnf)
  refine ⟨⟨Nat, fun i => i ≤ s.size + 1, fun i => s.size + 1 - i, fun i => match (splitB s c i).1 with
    | [] => ⟨[(0, dsr s), (1, dby c.toNat), (5, .d (.u .nl)), (6, di (splitB s c i).2), (7, di i)], []⟩
    | x :: r => ⟨[(0, dsr s), (1, dby c.toNat), (5, .d (.ow 900 (x :: r).length)), (6, di (splitB s c i).2), (7, di i)], [(900, .ar 9 1 (strs (x :: r)))]⟩, 0, Nat.zero_le _, ⟨[], ⟨by (try dsimp only); (repeat (refine LeT.cons rfl (by first | exact LeS.d (by first | exact LeD.u rfl | fail) | fail) ?_)); exact LeT.nil, by (try dsimp only); repeat (first | exact LeO.nil | fail)⟩⟩, fun i hi => ?_⟩⟩
  dsimp only at hi ⊢
  obtain ⟨q1, q2⟩ := splitB_le s c i
  have hst := splitB.eq_2 s c i
  have hne := splitB_ne s c
  obtain ⟨L, fr, hL⟩ : ∃ L fr, splitB s c i = (L, fr) := ⟨_, _, rfl⟩
  rw [hL] at q1 q2 hst ⊢
  dsimp only at q1 q2 hst ⊢
  by_cases h9 : i < s.size
  · have hget : s.data[i]? = some s[i] := by simp [ByteArray.getElem_eq_getElem_data, h9]
    by_cases hc : s[i] = c
    · rw [if_pos (.inr (by rw [hget, hc]))] at hst
      cases L with
      | nil =>
        dsimp only
        repeat' ((conv => whnf); first | refine Sbx.mk ⟨i, h9, rfl, ?_⟩ | refine Slc.mk ⟨fr, i, rfl, rfl, by omega, by omega, ?_⟩ | refine Gs.id ?_ | refine Brn.T (by (try simp only [smT]); first | rfl | omega | (simp only [*]; done) | fail) ?_ | refine Brn.F (by (try simp only [smT]); first | rfl | omega | fail) ?_ | (refine Bnd.mk (fun hm => ?_); (try simp only [smT] at hm)) | refine Rng.mk (by (try simp only [smT]); omega) ?_ | refine Apd.mk (by first | rfl | fail) (by first | rfl | fail) (by (try simp only [smT]); first | omega | fail) (by unfold maxLen; first | (simp; done) | fail) ?_ | fail)
        all_goals (conv => whnf)
        all_goals
          refine ⟨i + 1, by omega, by omega, [(900, .k 31)], ?_⟩
          rw [hst]
          exact ⟨by (try dsimp only); (repeat (refine LeT.cons rfl (by first | exact LeS.d (by first | exact LeD.u rfl | exact LeD.ow rfl rfl | fail) | fail) ?_)); exact LeT.nil, by (try dsimp only); repeat (first | exact LeO.nil | refine LeO.ar rfl rfl (by first | rfl | fail) ?_ | fail)⟩
      | cons x r =>
        simp only [List.length_cons] at q1
        dsimp only
        repeat' ((conv => whnf); first | refine Sbx.mk ⟨i, h9, rfl, ?_⟩ | refine Slc.mk ⟨fr, i, rfl, rfl, by omega, by omega, ?_⟩ | refine Gs.id ?_ | refine Brn.T (by (try simp only [smT]); first | rfl | omega | (simp only [*]; done) | fail) ?_ | refine Brn.F (by (try simp only [smT]); first | rfl | omega | fail) ?_ | (refine Bnd.mk (fun hm => ?_); (try simp only [smT] at hm)) | refine Rng.mk (by (try simp only [smT]); omega) ?_ | refine Apd.mk (by first | rfl | simp) (by first | rfl | fail) (by (try simp only [smT]); first | omega | fail) (by unfold maxLen; first | (simp; omega) | fail) ?_ | fail)
        all_goals (conv => whnf)
        all_goals
          refine ⟨i + 1, by omega, by omega, [(900, .k 31)], ?_⟩
          rw [hst]
          exact ⟨by (try dsimp only); (repeat (refine LeT.cons rfl (by first | exact LeS.d (by first | exact LeD.u rfl | exact LeD.ow rfl (by simp) | fail) | fail) ?_)); exact LeT.nil, by (try dsimp only); repeat (first | exact LeO.nil | refine LeO.ar rfl rfl (by first | simp) ?_ | fail)⟩
    · have hcn : ¬ (s[i].toNat : Int) = (c.toNat : Int) := fun e => hc (UInt8.toNat_inj.1 (by omega))
      rw [if_neg (by rw [hget]; simp; exact ⟨by omega, hc⟩)] at hst
      cases L with
      | nil =>
        dsimp only
        repeat' ((conv => whnf); first | refine Sbx.mk ⟨i, h9, rfl, ?_⟩ | refine Gs.id ?_ | refine Brn.T (by (try simp only [smT]); first | rfl | omega | fail) ?_ | refine Brn.F (by (try simp only [smT]); first | rfl | assumption | omega | fail) ?_ | (refine Bnd.mk (fun hm => ?_); (try simp only [smT] at hm)) | refine Rng.mk (by (try simp only [smT]); omega) ?_ | fail)
        all_goals (conv => whnf)
        all_goals
          refine ⟨i + 1, by omega, by omega, [], ?_⟩
          rw [hst]
          exact ⟨by (try dsimp only); (repeat (refine LeT.cons rfl (by first | exact LeS.d (by first | exact LeD.u rfl | fail) | fail) ?_)); exact LeT.nil, by (try dsimp only); repeat (first | exact LeO.nil | fail)⟩
      | cons x r =>
        dsimp only
        repeat' ((conv => whnf); first | refine Sbx.mk ⟨i, h9, rfl, ?_⟩ | refine Gs.id ?_ | refine Brn.T (by (try simp only [smT]); first | rfl | omega | fail) ?_ | refine Brn.F (by (try simp only [smT]); first | rfl | assumption | omega | fail) ?_ | (refine Bnd.mk (fun hm => ?_); (try simp only [smT] at hm)) | refine Rng.mk (by (try simp only [smT]); omega) ?_ | fail)
        all_goals (conv => whnf)
        all_goals
          refine ⟨i + 1, by omega, by omega, [(900, .k 900)], ?_⟩
          rw [hst]
          exact ⟨by (try dsimp only); (repeat (refine LeT.cons rfl (by first | exact LeS.d (by first | exact LeD.u rfl | exact LeD.ow rfl rfl | fail) | fail) ?_)); exact LeT.nil, by (try dsimp only); repeat (first | exact LeO.nil | refine LeO.ar rfl rfl (by first | rfl | fail) ?_ | fail)⟩
  · by_cases h10 : i = s.size
    · subst h10
      rw [if_pos (.inl rfl)] at hst
      cases L with
      | nil =>
        dsimp only
        repeat' ((conv => whnf); first | refine Slc.mk ⟨fr, s.size, rfl, rfl, by omega, by omega, ?_⟩ | refine Gs.id ?_ | with_reducible refine Brn.T rfl ?_ | refine Brn.T (by (try simp only [smT]); first | rfl | omega | fail) ?_ | (refine Brn.mk (fun hb => ?_) (fun hb => ?_) <;> (try simp only [smT] at hb) <;> (try (exact absurd trivial hb)) <;> (try (exfalso; omega))) | (refine Bnd.mk (fun hm => ?_); (try simp only [smT] at hm)) | refine Rng.mk (by (try simp only [smT]); omega) ?_ | refine Apd.mk (by first | rfl | fail) (by first | rfl | fail) (by (try simp only [smT]); first | omega | fail) (by unfold maxLen; first | (simp; done) | fail) ?_ | fail)
        all_goals (conv => whnf)
        all_goals
          refine ⟨s.size + 1, by omega, by omega, [(900, .k 31)], ?_⟩
          rw [hst]
          exact ⟨by (try dsimp only); (repeat (refine LeT.cons rfl (by first | exact LeS.d (by first | exact LeD.u rfl | exact LeD.ow rfl rfl | fail) | fail) ?_)); exact LeT.nil, by (try dsimp only); repeat (first | exact LeO.nil | refine LeO.ar rfl rfl (by first | rfl | fail) ?_ | fail)⟩
      | cons x r =>
        simp only [List.length_cons] at q1
        dsimp only
        repeat' ((conv => whnf); first | refine Slc.mk ⟨fr, s.size, rfl, rfl, by omega, by omega, ?_⟩ | refine Gs.id ?_ | with_reducible refine Brn.T rfl ?_ | refine Brn.T (by (try simp only [smT]); first | rfl | omega | fail) ?_ | (refine Brn.mk (fun hb => ?_) (fun hb => ?_) <;> (try simp only [smT] at hb) <;> (try (exact absurd trivial hb)) <;> (try (exfalso; omega))) | (refine Bnd.mk (fun hm => ?_); (try simp only [smT] at hm)) | refine Rng.mk (by (try simp only [smT]); omega) ?_ | refine Apd.mk (by first | rfl | simp) (by first | rfl | fail) (by (try simp only [smT]); first | omega | fail) (by unfold maxLen; first | (simp; omega) | fail) ?_ | fail)
        all_goals (conv => whnf)
        all_goals
          refine ⟨s.size + 1, by omega, by omega, [(900, .k 31)], ?_⟩
          rw [hst]
          exact ⟨by (try dsimp only); (repeat (refine LeT.cons rfl (by first | exact LeS.d (by first | exact LeD.u rfl | exact LeD.ow rfl (by simp) | fail) | fail) ?_)); exact LeT.nil, by (try dsimp only); repeat (first | exact LeO.nil | refine LeO.ar rfl rfl (by first | simp) ?_ | fail)⟩
    · obtain rfl : i = s.size + 1 := by omega
      rw [hL] at hne ⊢
      dsimp only at hne ⊢
      cases L with
      | nil => exact absurd rfl hne
      | cons x r =>
        dsimp only
        repeat' ((conv => whnf); first | refine Gs.id ?_ | refine Brn.F (by (try simp only [smT]); first | rfl | omega | fail) ?_ | (refine Bnd.mk (fun hm => ?_); (try simp only [smT] at hm)) | refine Len.mk (by first | rfl | (simp; done) | fail) ?_ | fail)
        all_goals (conv => whnf)
        all_goals exact Ret.is rfl
end Go.Proofs.YtgloielnnakknaaDoor
namespace Go.Proofs.YtgloielnnakknaaDoor
open Go.RowKit
def chB (c : Int) : Bool := (decide (97 ≤ c) && decide (c ≤ 122)) || (decide (65 ≤ c) && decide (c ≤ 90)) || c == 95 || digB c
def okFrom (s : ByteArray) (i : Nat) : Bool := (s.data.toList.drop i).all fun b => chB (b.toNat : Int)
def nameB (s : ByteArray) : Bool := decide (0 < s.size) && decide (s.size ≤ 24) && !digB ((s.data[0]?.getD 0).toNat : Int) && okFrom s 0
theorem okFrom_step {s : ByteArray} {i : Nat} (h : i < s.size) : okFrom s i = (chB (s[i].toNat : Int) && okFrom s (i + 1)) := by
  have h' : i < s.data.toList.length := by simpa using h
  rw [okFrom, List.drop_eq_getElem_cons h', List.all_cons]
  rfl
theorem okFrom_end {s : ByteArray} : okFrom s s.size = true := by
  rw [okFrom, List.drop_eq_nil_of_le (by simp)]; rfl
theorem toList_beq (a b : ByteArray) : (a.toList == b.toList) = decide (a = b) := by
  rw [ByteArray.toList_eq, ByteArray.toList_eq]
  by_cases h : a = b
  · subst h; simp
  · rw [decide_eq_false h]
    refine Bool.eq_false_iff.2 fun e => h ?_
    have e2 : a.data.toList = b.data.toList := by simpa using e
    obtain ⟨x⟩ := a
    obtain ⟨y⟩ := b
    have : x = y := Array.toList_inj.1 e2
    rw [this]
theorem str_nil {s : ByteArray} : (s.toList == (ByteArray.mk #[]).toList) = decide (s.size = 0) := by
  rw [toList_beq]
  by_cases h : s.size = 0
  · obtain ⟨d⟩ := s
    have : d = #[] := Array.size_eq_zero_iff.1 h
    subst this; rfl
  · rw [decide_eq_false h, decide_eq_false]
    intro e
    subst e
    exact h rfl
set_option maxHeartbeats 2000000 in
theorem name_R (s : ByteArray) : CallsA Tryd.prog 21 [dsr s] [] (Is (db (nameB s))) := by
  have hs0 := str_nil (s := s)
  by_cases h0 : s.size = 0
  · have e : nameB s = false := by simp [nameB, h0]
    rw [decide_eq_true h0] at hs0
    rw [e]
    refine callsA_of_vc (T := tt) Tryd.func21 rfl rfl rfl rfl rfl ?_
    repeat' ((conv => whnf); first | refine Gs.id ?_ | with_reducible refine Brn.T rfl ?_ | refine Brn.T (by (try simp only [smT]); first | rfl | assumption | fail) ?_ | fail)
    all_goals (conv => whnf)
    all_goals exact Ret.is rfl
  · rw [decide_eq_false h0] at hs0
    have hp : 0 < s.size := by omega
    have hg : s.data[0]?.getD 0 = s[0] := by simp [ByteArray.getElem_eq_getElem_data, hp]
    by_cases h1 : s.size ≤ 24
    · have hd := digit_R (s[0].toNat : Int)
      by_cases h2 : digB (s[0].toNat : Int) = true
      · have e : nameB s = false := by simp [nameB, hg, h2]
        rw [e]
        rw [h2] at hd
        refine callsA_of_vc (T := tt) Tryd.func21 rfl rfl rfl rfl rfl ?_
        repeat' ((conv => whnf); first | refine Sbx.mk ⟨0, hp, rfl, ?_⟩ | refine Gs.id ?_ | with_reducible refine Brn.T rfl ?_ | refine Brn.F (by (try simp only [smT]); first | rfl | assumption | omega | fail) ?_ | (refine Bnd.mk (fun hm => ?_); (try simp only [smT] at hm)) | (refine CL.mk (Or.inl ?_); (conv => whnf); refine Cl.is (hd) rfl (by first | exact fun _ => rfl | fail) ?_) | fail)
        all_goals (conv => whnf)
        all_goals exact Ret.is rfl
      · have h2 : digB (s[0].toNat : Int) = false := by simpa using h2
        have e : nameB s = okFrom s 0 := by rw [nameB, hg, h2, decide_eq_true hp, decide_eq_true h1]; rfl
        rw [e]
        rw [h2] at hd
        refine callsA_of_vc (T := tt) Tryd.func21 rfl rfl rfl rfl rfl ?_
        repeat' ((conv => whnf); first | refine Sbx.mk ⟨0, hp, rfl, ?_⟩ | refine Gs.id ?_ | with_reducible refine Brn.F rfl ?_ | refine Brn.F (by (try simp only [smT]); first | rfl | assumption | omega | fail) ?_ | (refine Bnd.mk (fun hm => ?_); (try simp only [smT] at hm)) | (refine CL.mk (Or.inl ?_); (conv => whnf); refine Cl.is (hd) rfl (by first | exact fun _ => rfl | fail) ?_) | fail)
        all_goals (conv => whnf)
        refine ⟨⟨Nat, fun i => i ≤ s.size ∧ okFrom s 0 = okFrom s i, fun i => s.size - i, fun i => ⟨[(0, dsr s), (3, di i)], []⟩, 0, ⟨Nat.zero_le _, rfl⟩, ⟨[], ⟨by (try dsimp only); (repeat (refine LeT.cons rfl (by first | exact LeS.d (by first | exact LeD.u rfl | fail) | fail) ?_)); exact LeT.nil, by (try dsimp only); repeat (first | exact LeO.nil | fail)⟩⟩, fun i hi => ?_⟩⟩
        obtain ⟨hi, he⟩ := hi
        dsimp only
        by_cases h9 : i < s.size
        · rw [okFrom_step h9] at he
          have hdi := digit_R (s[i].toNat : Int)
          rw [he]
          clear he e hd hg h2
          generalize hx : (s[i].toNat : Int) = x at *
          by_cases hc : chB x = true
          · rw [hc, Bool.true_and]
            repeat' ((conv => whnf); first | (refine Sbx.mk ⟨i, h9, rfl, ?_⟩; rw [hx]) | refine Gs.id ?_ | with_reducible refine Brn.T rfl ?_ | with_reducible refine Brn.F rfl ?_ | refine Brn.T (by (try simp only [smT]); first | rfl | assumption | omega | fail) ?_ | refine Brn.F (by (try simp only [smT]); first | rfl | assumption | omega | fail) ?_ | (refine Brn.mk (fun hb => ?_) (fun hb => ?_) <;> (try simp only [smT] at hb) <;> (try (exact absurd trivial hb)) <;> (try (exfalso; omega))) | (refine Bnd.mk (fun hm => ?_); (try simp only [smT] at hm)) | refine Rng.mk (by (try simp only [smT]); omega) ?_ | (refine CL.mk (Or.inl ?_); (conv => whnf); refine Cl.is (hdi) rfl (by first | exact fun _ => rfl | fail) ?_) | fail)
            all_goals (conv => whnf)
            all_goals first
              | exact ⟨i + 1, ⟨by omega, rfl⟩, by omega, [], ⟨by (try dsimp only); (repeat (refine LeT.cons rfl (by first | exact LeS.d (by first | exact LeD.u rfl | fail) | fail) ?_)); exact LeT.nil, by (try dsimp only); repeat (first | exact LeO.nil | fail)⟩⟩
              | (exfalso; simp [chB] at hc; simp_all; done)
              | (exfalso; simp [chB] at hc; simp_all; omega)
          · have hc : chB x = false := by simpa using hc
            rw [hc, Bool.false_and]
            repeat' ((conv => whnf); first | (refine Sbx.mk ⟨i, h9, rfl, ?_⟩; rw [hx]) | refine Gs.id ?_ | with_reducible refine Brn.T rfl ?_ | with_reducible refine Brn.F rfl ?_ | refine Brn.T (by (try simp only [smT]); first | rfl | assumption | omega | fail) ?_ | refine Brn.F (by (try simp only [smT]); first | rfl | assumption | omega | fail) ?_ | (refine Brn.mk (fun hb => ?_) (fun hb => ?_) <;> (try simp only [smT] at hb) <;> (try (exact absurd trivial hb)) <;> (try (exfalso; omega))) | (refine Bnd.mk (fun hm => ?_); (try simp only [smT] at hm)) | refine Rng.mk (by (try simp only [smT]); omega) ?_ | (refine CL.mk (Or.inl ?_); (conv => whnf); refine Cl.is (hdi) rfl (by first | exact fun _ => rfl | fail) ?_) | fail)
            all_goals (conv => whnf)
            all_goals first
              | exact Ret.is rfl
              | (exfalso; simp [chB] at hc; simp_all; done)
              | (exfalso; simp [chB] at hc; simp_all; omega)
        · obtain rfl : i = s.size := by omega
          rw [he, okFrom_end]
          repeat' ((conv => whnf); first | refine Gs.id ?_ | refine Brn.F (by (try simp only [smT]); first | rfl | omega | fail) ?_ | (refine Bnd.mk (fun hm => ?_); (try simp only [smT] at hm)) | fail)
          all_goals (conv => whnf)
          all_goals exact Ret.is rfl
    · have e : nameB s = false := by simp [nameB, h1]
      rw [e]
      refine callsA_of_vc (T := tt) Tryd.func21 rfl rfl rfl rfl rfl ?_
      repeat' ((conv => whnf); first | refine Gs.id ?_ | with_reducible refine Brn.T rfl ?_ | refine Brn.T (by (try simp only [smT]); first | rfl | omega | fail) ?_ | refine Brn.F (by (try simp only [smT]); first | rfl | assumption | fail) ?_ | (refine Bnd.mk (fun hm => ?_); (try simp only [smT] at hm)) | fail)
      all_goals (conv => whnf)
      all_goals exact Ret.is rfl
abbrev strs' (l : List ByteArray) : V := .sl 1 (strs l)
/-- The first n of a list with a string between them. -/
def joinB (l : List ByteArray) (sep : ByteArray) : Nat → ByteArray
  | 0 => ByteArray.mk #[]
  | n + 1 => (if 0 < n then joinB l sep n ++ sep else joinB l sep n) ++ (l[n]?.getD (ByteArray.mk #[]))
def total (l : List ByteArray) (sep : ByteArray) : Nat → Nat
  | 0 => 0
  | n + 1 => total l sep n + sep.size + (l[n]?.getD (ByteArray.mk #[])).size
theorem joinB_size (l : List ByteArray) (sep : ByteArray) : ∀ n, (joinB l sep n).size ≤ total l sep n
  | 0 => Nat.le_refl _
  | n + 1 => by
    have := joinB_size l sep n
    rw [joinB, total]
    split <;> simp <;> omega
theorem total_mono (l : List ByteArray) (sep : ByteArray) {a b : Nat} (h : a ≤ b) : total l sep a ≤ total l sep b := by
  induction b with
  | zero => have : a = 0 := by omega
            subst this; exact Nat.le_refl _
  | succ b ih =>
    by_cases h2 : a = b + 1
    · subst h2; exact Nat.le_refl _
    · have := ih (by omega)
      rw [total]; omega
set_option maxHeartbeats 1000000 in
theorem join_R (l : List ByteArray) (sep : ByteArray) (ht : total l sep l.length ≤ 1000000000000) : CallsA Tryd.prog 26 [.d (.u (strs' l)), dsr sep] [] (Is (dsr (joinB l sep l.length))) := by
  refine callsA_of_vc (T := tt) Tryd.func26 rfl rfl rfl rfl rfl ?_
  repeat' ((conv => whnf); first | refine Gs.id ?_ | fail)
  all_goals (conv => whnf)
  refine ⟨⟨Nat, fun i => i ≤ l.length, fun i => l.length - i, fun i => ⟨[(0, .d (.u (strs' l))), (1, dsr sep), (5, dsr (joinB l sep i)), (6, di i)], []⟩, 0, Nat.zero_le _, ⟨[], ⟨by (try dsimp only); (repeat (refine LeT.cons rfl (by first | exact LeS.d (by first | exact LeD.u rfl | fail) | fail) ?_)); exact LeT.nil, by (try dsimp only); repeat (first | exact LeO.nil | fail)⟩⟩, fun i hi => ?_⟩⟩
  dsimp only at hi ⊢
  by_cases h9 : i < l.length
  · have hj := joinB_size l sep i
    have hm := total_mono l sep (a := i + 1) (b := l.length) (by omega)
    have hst : joinB l sep (i + 1) = (if 0 < i then joinB l sep i ++ sep else joinB l sep i) ++ l[i] := by rw [joinB, List.getElem?_eq_getElem h9]; rfl
    have htt : total l sep (i + 1) = total l sep i + sep.size + (l[i]).size := by rw [total, List.getElem?_eq_getElem h9]; rfl
    have hrow : ∀ {K : List V → Prop}, K [V.str l[i]] → Ix (strs l) (i : Int) K := fun k => Ix.map rfl h9 k
    generalize l[i] = x at hst htt hrow
    generalize joinB l sep i = y at *
    by_cases h0 : 0 < i
    · rw [if_pos h0] at hst
      repeat' ((conv => whnf); first | refine hrow ?_ | refine Cat.mk (by unfold maxLen; simp; omega) ?_ | refine Gs.id ?_ | refine Brn.T (by (try simp only [smT]); first | rfl | omega | fail) ?_ | (refine Bnd.mk (fun hm => ?_); (try simp only [smT] at hm)) | refine Rng.mk (by (try simp only [smT]); omega) ?_ | fail)
      all_goals (conv => whnf)
      all_goals
        refine ⟨i + 1, by omega, by omega, [], ?_⟩
        rw [hst]
        exact ⟨by (try dsimp only); (repeat (refine LeT.cons rfl (by first | exact LeS.d (by first | exact LeD.u rfl | fail) | fail) ?_)); exact LeT.nil, by (try dsimp only); repeat (first | exact LeO.nil | fail)⟩
    · rw [if_neg h0] at hst
      repeat' ((conv => whnf); first | refine hrow ?_ | refine Cat.mk (by unfold maxLen; simp; omega) ?_ | refine Gs.id ?_ | refine Brn.T (by (try simp only [smT]); first | rfl | omega | fail) ?_ | refine Brn.F (by (try simp only [smT]); first | rfl | omega | fail) ?_ | (refine Bnd.mk (fun hm => ?_); (try simp only [smT] at hm)) | refine Rng.mk (by (try simp only [smT]); omega) ?_ | fail)
      all_goals (conv => whnf)
      all_goals
        refine ⟨i + 1, by omega, by omega, [], ?_⟩
        rw [hst]
        exact ⟨by (try dsimp only); (repeat (refine LeT.cons rfl (by first | exact LeS.d (by first | exact LeD.u rfl | fail) | fail) ?_)); exact LeT.nil, by (try dsimp only); repeat (first | exact LeO.nil | fail)⟩
  · obtain rfl : i = l.length := by omega
    repeat' ((conv => whnf); first | refine Gs.id ?_ | refine Brn.F (by (try simp only [smT]); first | rfl | omega | fail) ?_ | (refine Bnd.mk (fun hm => ?_); (try simp only [smT] at hm)) | fail)
    all_goals (conv => whnf)
    all_goals exact Ret.is rfl
end Go.Proofs.YtgloielnnakknaaDoor
namespace Go.Proofs.YtgloielnnakknaaDoor
open Go.RowKit
abbrev byR (s : ByteArray) : List (List V) := s.data.toList.map fun b => [V.int .u8 (b.toNat : Int)]
set_option maxHeartbeats 2000000 in
theorem isName_T (s : ByteArray) : CallsA Tryd.prog 47 [dsr s] [] (Is (db (nameB s))) := by
  have hs0 := str_nil (s := s)
  by_cases h0 : s.size = 0
  · have e : nameB s = false := by simp [nameB, h0]
    rw [decide_eq_true h0] at hs0
    rw [e]
    refine callsA_of_vc (T := tt) Tryd.func47 rfl rfl rfl rfl rfl ?_
    repeat' ((conv => whnf); first | refine Gs.id ?_ | with_reducible refine Brn.T rfl ?_ | refine Brn.T (by (try simp only [smT]); first | rfl | assumption | fail) ?_ | fail)
    all_goals (conv => whnf)
    all_goals exact Ret.is rfl
  · rw [decide_eq_false h0] at hs0
    have hp : 0 < s.size := by omega
    have hg : s.data[0]?.getD 0 = s[0] := by simp [ByteArray.getElem_eq_getElem_data, hp]
    by_cases h1 : s.size ≤ 24
    · by_cases h2 : digB (s[0].toNat : Int) = true
      · have e : nameB s = false := by simp [nameB, hg, h2]
        rw [e]
        simp only [digB, Bool.and_eq_true, decide_eq_true_eq] at h2
        obtain ⟨h2, h3⟩ := h2
        refine callsA_of_vc (T := tt) Tryd.func47 rfl rfl rfl rfl rfl ?_
        repeat' ((conv => whnf); first | refine Sbx.mk ⟨0, hp, rfl, ?_⟩ | refine Gs.id ?_ | refine Brn.T (by (try simp only [smT]); first | rfl | assumption | fail) ?_ | refine Brn.F (by (try simp only [smT]); first | rfl | assumption | omega | fail) ?_ | (refine Bnd.mk (fun hm => ?_); (try simp only [smT] at hm)) | fail)
        all_goals (conv => whnf)
        all_goals exact Ret.is rfl
      · have h2 : digB (s[0].toNat : Int) = false := by simpa using h2
        have e : nameB s = okFrom s 0 := by rw [nameB, hg, h2, decide_eq_true hp, decide_eq_true h1]; rfl
        rw [e]
        have h3 : 48 ≤ (s[0].toNat : Int) → ¬ (s[0].toNat : Int) ≤ 57 := fun a b => by simp [digB] at h2; omega
        clear h2
        have key : ∀ (_ : True), True := fun _ => trivial
        have hc48 : (s[0].toNat : Int) < 48 ∨ 57 < (s[0].toNat : Int) := by
          by_cases q : 48 ≤ (s[0].toNat : Int)
          · right; have := h3 q; omega
          · left; omega
        clear h3 key
        generalize hx0 : (s[0].toNat : Int) = x0 at hc48
        refine callsA_of_vc (T := tt) Tryd.func47 rfl rfl rfl rfl rfl ?_
        repeat' ((conv => whnf); first | (refine Sbx.mk ⟨0, hp, rfl, ?_⟩; rw [hx0]) | refine Raw.convBytes (T := tt) rfl rfl rfl rfl rfl rfl rfl rfl ?_ | refine Gs.id ?_ | with_reducible refine Brn.F rfl ?_ | refine Brn.T (by (try simp only [smT]); first | rfl | assumption | fail) ?_ | refine Brn.F (by (try simp only [smT]); first | rfl | assumption | omega | fail) ?_ | (refine Brn.mk (fun hb => ?_) (fun hb => ?_) <;> (try simp only [smT] at hb) <;> (try (exact absurd trivial hb)) <;> (try (exfalso; omega))) | (refine Bnd.mk (fun hm => ?_); (try simp only [smT] at hm)) | fail)
        all_goals (conv => whnf)
        all_goals
          refine ⟨⟨Nat, fun i => i ≤ s.size ∧ okFrom s 0 = okFrom s i, fun i => s.size - i, fun i => ⟨[(23, .d (.u (.sl 1 (byR s)))), (24, di s.size), (25, di i)], []⟩, 0, ⟨Nat.zero_le _, rfl⟩, ⟨[], ⟨by (try dsimp only); (repeat (refine LeT.cons rfl (by first | exact LeS.d (by first | exact LeD.u rfl | exact LeD.u (by simp; done) | fail) | fail) ?_)); exact LeT.nil, by (try dsimp only); repeat (first | exact LeO.nil | fail)⟩⟩, fun i hi => ?_⟩⟩
          obtain ⟨hi, he⟩ := hi
          dsimp only
          by_cases h9 : i < s.size
          · rw [okFrom_step h9] at he
            rw [he]
            clear he e hg
            have hrow : ∀ {K : List V → Prop}, K [V.int .u8 (s[i].toNat : Int)] → Ix (byR s) (i : Int) K := fun k => Ix.map rfl (by simpa using h9) k
            generalize hx : (s[i].toNat : Int) = x at *
            by_cases hc : chB x = true
            · rw [hc, Bool.true_and]
              repeat' ((conv => whnf); first | refine hrow ?_ | refine Gs.id ?_ | with_reducible refine Brn.T rfl ?_ | with_reducible refine Brn.F rfl ?_ | refine Brn.T (by (try simp only [smT]); first | rfl | assumption | omega | fail) ?_ | refine Brn.F (by (try simp only [smT]); first | rfl | assumption | omega | fail) ?_ | (refine Brn.mk (fun hb => ?_) (fun hb => ?_) <;> (try simp only [smT] at hb) <;> (try (exact absurd trivial hb)) <;> (try (exfalso; omega))) | refine Rng.mk (by (try simp only [smT]); omega) ?_ | fail)
              all_goals (conv => whnf)
              all_goals first
                | exact ⟨i + 1, ⟨by omega, rfl⟩, by omega, [], ⟨by (try dsimp only); (repeat (refine LeT.cons rfl (by first | exact LeS.d (by first | exact LeD.u rfl | fail) | fail) ?_)); exact LeT.nil, by (try dsimp only); repeat (first | exact LeO.nil | fail)⟩⟩
                | (exfalso; simp [chB, digB] at hc; simp_all; done)
                | (exfalso; simp [chB, digB] at hc; simp_all; omega)
            · have hc : chB x = false := by simpa using hc
              rw [hc, Bool.false_and]
              repeat' ((conv => whnf); first | refine hrow ?_ | refine Gs.id ?_ | with_reducible refine Brn.T rfl ?_ | with_reducible refine Brn.F rfl ?_ | refine Brn.T (by (try simp only [smT]); first | rfl | assumption | omega | fail) ?_ | refine Brn.F (by (try simp only [smT]); first | rfl | assumption | omega | fail) ?_ | (refine Brn.mk (fun hb => ?_) (fun hb => ?_) <;> (try simp only [smT] at hb) <;> (try (exact absurd trivial hb)) <;> (try (exfalso; omega))) | refine Rng.mk (by (try simp only [smT]); omega) ?_ | fail)
              all_goals (conv => whnf)
              all_goals first
                | exact Ret.is rfl
                | (exfalso; simp [chB, digB] at hc; simp_all; done)
                | (exfalso; simp [chB, digB] at hc; simp_all; omega)
          · obtain rfl : i = s.size := by omega
            rw [he, okFrom_end]
            repeat' ((conv => whnf); first | refine Gs.id ?_ | refine Brn.F (by (try simp only [smT]); first | rfl | omega | fail) ?_ | fail)
            all_goals (conv => whnf)
            all_goals exact Ret.is rfl
    · have e : nameB s = false := by simp [nameB, h1]
      rw [e]
      refine callsA_of_vc (T := tt) Tryd.func47 rfl rfl rfl rfl rfl ?_
      repeat' ((conv => whnf); first | refine Gs.id ?_ | with_reducible refine Brn.T rfl ?_ | refine Brn.T (by (try simp only [smT]); first | rfl | omega | fail) ?_ | refine Brn.F (by (try simp only [smT]); first | rfl | assumption | fail) ?_ | (refine Bnd.mk (fun hm => ?_); (try simp only [smT] at hm)) | fail)
      all_goals (conv => whnf)
      all_goals exact Ret.is rfl
end Go.Proofs.YtgloielnnakknaaDoor
namespace Go.Proofs.YtgloielnnakknaaDoor
open Go.RowKit
theorem isName_T' (s : ByteArray) : CallsA Tryd.prog 39 [dsr s] [] (Is (db (nameB s))) := by
  have h := isName_T s
  refine callsA_of_vc (T := tt) Tryd.func39 rfl rfl rfl rfl rfl ?_
  repeat' ((conv => whnf); first | refine Gs.id ?_ | (refine CL.mk (Or.inl ?_); (conv => whnf); refine Cl.is (h) rfl (by first | exact fun _ => rfl | fail) ?_) | fail)
  all_goals (conv => whnf)
  all_goals exact Ret.is rfl
def parts (s : ByteArray) : List ByteArray := (splitB s 46 (s.size + 1)).1
def dottedB (s : ByteArray) : Bool := (parts s).all nameB && decide ((s.size : Int) ≤ 60)
theorem split46_R (s : ByteArray) (hs : s.size ≤ 1000000000000) : CallsA Tryd.prog 24 [dsr s, dby 46] [] (Is (.d (.u (.sl 1 (strs (parts s)))))) := split_R s 46 hs
theorem dotted_R (s : ByteArray) (hs : s.size ≤ 1000000000000) : CallsA Tryd.prog 9 [dsr s] [] (Is (db (dottedB s))) := by
  have h := split46_R s hs
  rw [dottedB]
  generalize parts s = l at *
  refine callsA_of_vc (T := tt) Tryd.func9 rfl rfl rfl rfl rfl ?_
  repeat' ((conv => whnf); first | refine Gs.id ?_ | (refine CL.mk (Or.inl ?_); (conv => whnf); refine Cl.is (h) rfl (by first | (intro e; cases e; done) | fail) ?_) | fail)
  all_goals (conv => whnf)
  refine ⟨⟨Nat, fun i => i ≤ l.length ∧ l.all nameB = (l.drop i).all nameB, fun i => l.length - i, fun i => ⟨[(0, dsr s), (3, .d (.u (.sl 1 (strs l)))), (4, di i)], []⟩, 0, ⟨Nat.zero_le _, rfl⟩, ⟨[], ⟨by (try dsimp only); (repeat (refine LeT.cons rfl (by first | exact LeS.d (by first | exact LeD.u rfl | fail) | fail) ?_)); exact LeT.nil, by (try dsimp only); repeat (first | exact LeO.nil | fail)⟩⟩, fun i hi => ?_⟩⟩
  obtain ⟨hi, he⟩ := hi
  dsimp only
  by_cases h9 : i < l.length
  · rw [List.drop_eq_getElem_cons h9, List.all_cons] at he
    have hrow : ∀ {K : List V → Prop}, K [V.str l[i]] → Ix (strs l) (i : Int) K := fun k => Ix.map rfl h9 k
    generalize l[i] = x at *
    have hn := name_R x
    rw [he]
    cases hx : nameB x
    · rw [hx] at hn
      rw [Bool.false_and, Bool.false_and]
      repeat' ((conv => whnf); first | refine hrow ?_ | refine Gs.id ?_ | with_reducible refine Brn.T rfl ?_ | refine Brn.T (by (try simp only [smT]); first | rfl | omega | fail) ?_ | (refine Bnd.mk (fun hm => ?_); (try simp only [smT] at hm)) | (refine CL.mk (Or.inl ?_); (conv => whnf); refine Cl.is (hn) rfl (by first | exact fun _ => rfl | fail) ?_) | fail)
      all_goals (conv => whnf)
      all_goals exact Ret.is rfl
    · rw [hx] at hn
      rw [Bool.true_and]
      repeat' ((conv => whnf); first | refine hrow ?_ | refine Gs.id ?_ | with_reducible refine Brn.F rfl ?_ | refine Brn.T (by (try simp only [smT]); first | rfl | omega | fail) ?_ | (refine Bnd.mk (fun hm => ?_); (try simp only [smT] at hm)) | refine Rng.mk (by (try simp only [smT]); omega) ?_ | (refine CL.mk (Or.inl ?_); (conv => whnf); refine Cl.is (hn) rfl (by first | exact fun _ => rfl | fail) ?_) | fail)
      all_goals (conv => whnf)
      all_goals exact ⟨i + 1, ⟨by omega, rfl⟩, by omega, [], ⟨by (try dsimp only); (repeat (refine LeT.cons rfl (by first | exact LeS.d (by first | exact LeD.u rfl | fail) | fail) ?_)); exact LeT.nil, by (try dsimp only); repeat (first | exact LeO.nil | fail)⟩⟩
  · obtain rfl : i = l.length := by omega
    have ha : l.all nameB = true := by rw [he]; simp
    rw [ha, Bool.true_and]
    repeat' ((conv => whnf); first | refine Gs.id ?_ | refine Brn.F (by (try simp only [smT]); first | rfl | omega | fail) ?_ | (refine Bnd.mk (fun hm => ?_); (try simp only [smT] at hm)) | fail)
    all_goals (conv => whnf)
    all_goals exact Ret.is rfl
theorem strings_R (a b : List ByteArray) : CallsA Tryd.prog 12 [.d (.u (strs' a)), .d (.u (strs' b))] [] (Is (db (decide (a = b)))) := by
  by_cases hl : a.length = b.length
  · refine callsA_of_vc (T := tt) Tryd.func12 rfl rfl rfl rfl rfl ?_
    repeat' ((conv => whnf); first | refine Gs.id ?_ | refine Brn.F (by (try simp only [smT]); first | rfl | omega | fail) ?_ | (refine Bnd.mk (fun hm => ?_); (try simp only [smT] at hm)) | fail)
    all_goals (conv => whnf)
    refine ⟨⟨Nat, fun i => i ≤ a.length ∧ decide (a = b) = decide (a.drop i = b.drop i), fun i => a.length - i, fun i => ⟨[(0, .d (.u (strs' a))), (1, .d (.u (strs' b))), (5, di i)], []⟩, 0, ⟨Nat.zero_le _, rfl⟩, ⟨[], ⟨by (try dsimp only); (repeat (refine LeT.cons rfl (by first | exact LeS.d (by first | exact LeD.u rfl | fail) | fail) ?_)); exact LeT.nil, by (try dsimp only); repeat (first | exact LeO.nil | fail)⟩⟩, fun i hi => ?_⟩⟩
    obtain ⟨hi, he⟩ := hi
    dsimp only
    by_cases h9 : i < a.length
    · have h10 : i < b.length := by omega
      rw [List.drop_eq_getElem_cons h9, List.drop_eq_getElem_cons h10] at he
      have hra : ∀ {K : List V → Prop}, K [V.str a[i]] → Ix (strs a) (i : Int) K := fun k => Ix.map rfl h9 k
      have hrb : ∀ {K : List V → Prop}, K [V.str b[i]] → Ix (strs b) (i : Int) K := fun k => Ix.map rfl h10 k
      have hxy := toList_beq a[i] b[i]
      generalize a[i] = x at *
      generalize b[i] = y at *
      by_cases hq : x = y
      · subst hq
        rw [decide_eq_true rfl] at hxy
        have he2 : decide (a = b) = decide (a.drop (i + 1) = b.drop (i + 1)) := by rw [he]; simp
        clear he
        rw [he2]
        repeat' ((conv => whnf); first | refine hra ?_ | refine hrb ?_ | refine Gs.id ?_ | refine Brn.T (by (try simp only [smT]); first | rfl | omega | fail) ?_ | refine Brn.F (by (try simp only [smT]); first | rfl | assumption | fail) ?_ | (refine Bnd.mk (fun hm => ?_); (try simp only [smT] at hm)) | refine Rng.mk (by (try simp only [smT]); omega) ?_ | refine Drw.of (T := tt) (i := 6) [] [] [(0, true), (1, true), (2, true), (3, true), (4, true), (5, true), (6, true), (7, true), (8, true)] (by kernel_rfl) ?_)
        all_goals (conv => whnf)
        all_goals exact ⟨i + 1, ⟨by omega, rfl⟩, by omega, [], ⟨by (try dsimp only); (repeat (refine LeT.cons rfl (by first | exact LeS.d (by first | exact LeD.u rfl | fail) | fail) ?_)); exact LeT.nil, by (try dsimp only); repeat (first | exact LeO.nil | fail)⟩⟩
      · rw [decide_eq_false hq] at hxy
        have he2 : decide (a = b) = false := by rw [he]; exact decide_eq_false fun e => hq (List.cons.inj e).1
        rw [he2]
        clear he he2
        repeat' ((conv => whnf); first | refine hra ?_ | refine hrb ?_ | refine Gs.id ?_ | refine Brn.T (by (try simp only [smT]); first | rfl | assumption | omega | fail) ?_ | (refine Bnd.mk (fun hm => ?_); (try simp only [smT] at hm)) | refine Drw.of (T := tt) (i := 6) [] [] [(0, true), (1, true), (2, true), (3, true), (4, true), (5, true), (6, true), (7, true), (8, true)] (by kernel_rfl) ?_)
        all_goals (conv => whnf)
        all_goals exact Ret.is rfl
    · obtain rfl : i = a.length := by omega
      have e2 : decide (a = b) = true := by rw [he]; simp; omega
      rw [e2]
      repeat' ((conv => whnf); first | refine Gs.id ?_ | refine Brn.F (by (try simp only [smT]); first | rfl | omega | fail) ?_ | (refine Bnd.mk (fun hm => ?_); (try simp only [smT] at hm)) | fail)
      all_goals (conv => whnf)
      all_goals exact Ret.is rfl
  · have e : decide (a = b) = false := decide_eq_false fun e => hl (by rw [e])
    rw [e]
    refine callsA_of_vc (T := tt) Tryd.func12 rfl rfl rfl rfl rfl ?_
    repeat' ((conv => whnf); first | refine Gs.id ?_ | refine Brn.T (by (try simp only [smT]); first | rfl | omega | fail) ?_ | (refine Bnd.mk (fun hm => ?_); (try simp only [smT] at hm)) | fail)
    all_goals (conv => whnf)
    all_goals exact Ret.is rfl
/-- The beginnings of a string that end ahead of a full stop, among the first i bytes. -/
def headsB (s : ByteArray) : Nat → List ByteArray
  | 0 => []
  | i + 1 => if s.data[i]? = some 46 then headsB s i ++ [s.extract 0 i] else headsB s i
def chainM (s : ByteArray) : List ByteArray := headsB s s.size ++ [s]
theorem headsB_le (s : ByteArray) : ∀ i, (headsB s i).length ≤ i
  | 0 => Nat.le_refl _
  | i + 1 => by
    have := headsB_le s i
    rw [headsB]
    split
    · simp; omega
    · omega
set_option maxHeartbeats 1000000 in
theorem chain_T (s : ByteArray) (hs : s.size ≤ 1000000000000) : CallsA Tryd.prog 23 [dsr s] [] (Is (.d (.u (strs' (chainM s))))) := by
  rw [chainM]
  refine callsA_of_vc (T := tt) Tryd.func23 rfl rfl rfl rfl rfl ?_
  repeat' ((conv => whnf); first | refine Gs.id ?_ | (refine Bnd.mk (fun hm => ?_); (try simp only [smT] at hm)) | fail)
  all_goals (conv => whnf)
  refine ⟨⟨Nat, fun i => i ≤ s.size, fun i => s.size - i, fun i => match headsB s i with
    | [] => ⟨[(0, dsr s), (3, .d (.u .nl)), (6, di s.size), (7, di i)], []⟩
    | x :: r => ⟨[(0, dsr s), (3, .d (.ow 900 (x :: r).length)), (6, di s.size), (7, di i)], [(900, .ar 9 1 (strs (x :: r)))]⟩, 0, Nat.zero_le _, ⟨[], ⟨by (try dsimp only); (repeat (refine LeT.cons rfl (by first | exact LeS.d (by first | exact LeD.u rfl | fail) | fail) ?_)); exact LeT.nil, by (try dsimp only); repeat (first | exact LeO.nil | fail)⟩⟩, fun i hi => ?_⟩⟩
  dsimp only at hi ⊢
  have q1 := headsB_le s i
  have hst := headsB.eq_2 s i
  generalize hL : headsB s i = L at q1 hst ⊢
  by_cases h9 : i < s.size
  · have hget : s.data[i]? = some s[i] := by simp [ByteArray.getElem_eq_getElem_data, h9]
    rw [hget] at hst
    by_cases hc : s[i] = 46
    · rw [if_pos (by rw [hc])] at hst
      have hc2 : (s[i].toNat : Int) = 46 := by rw [hc]; rfl
      generalize hx : (s[i].toNat : Int) = x at *
      cases L with
      | nil =>
        dsimp only
        repeat' ((conv => whnf); first | (refine Sbx.mk ⟨i, h9, rfl, ?_⟩; rw [hx]) | refine Slc.mk ⟨0, i, rfl, rfl, by omega, by omega, ?_⟩ | refine Gs.id ?_ | refine Brn.T (by (try simp only [smT]); first | rfl | assumption | omega | fail) ?_ | refine Rng.mk (by (try simp only [smT]); omega) ?_ | refine Apd.mk (by first | rfl | fail) (by first | rfl | fail) (by (try simp only [smT]); first | omega | fail) (by unfold maxLen; first | (simp; done) | fail) ?_ | fail)
        all_goals (conv => whnf)
        all_goals
          refine ⟨i + 1, by omega, by omega, [(900, .k 19)], ?_⟩
          rw [hst]
          exact ⟨by (try dsimp only); (repeat (refine LeT.cons rfl (by first | exact LeS.d (by first | exact LeD.u rfl | exact LeD.ow rfl rfl | fail) | fail) ?_)); exact LeT.nil, by (try dsimp only); repeat (first | exact LeO.nil | refine LeO.ar rfl rfl (by first | rfl | fail) ?_ | fail)⟩
      | cons y r =>
        simp only [List.length_cons] at q1
        dsimp only
        repeat' ((conv => whnf); first | (refine Sbx.mk ⟨i, h9, rfl, ?_⟩; rw [hx]) | refine Slc.mk ⟨0, i, rfl, rfl, by omega, by omega, ?_⟩ | refine Gs.id ?_ | refine Brn.T (by (try simp only [smT]); first | rfl | assumption | omega | fail) ?_ | refine Rng.mk (by (try simp only [smT]); omega) ?_ | refine Apd.mk (by first | rfl | simp) (by first | rfl | fail) (by (try simp only [smT]); first | omega | fail) (by unfold maxLen; first | (simp; omega) | fail) ?_ | fail)
        all_goals (conv => whnf)
        all_goals
          refine ⟨i + 1, by omega, by omega, [(900, .k 19)], ?_⟩
          rw [hst]
          exact ⟨by (try dsimp only); (repeat (refine LeT.cons rfl (by first | exact LeS.d (by first | exact LeD.u rfl | exact LeD.ow rfl (by simp) | fail) | fail) ?_)); exact LeT.nil, by (try dsimp only); repeat (first | exact LeO.nil | refine LeO.ar rfl rfl (by first | simp) ?_ | fail)⟩
    · rw [if_neg (by simpa using hc)] at hst
      have hc2 : ¬ (s[i].toNat : Int) = 46 := fun e => hc (UInt8.toNat_inj.1 (by have : (46 : UInt8).toNat = 46 := rfl; omega))
      generalize hx : (s[i].toNat : Int) = x at *
      cases L with
      | nil =>
        dsimp only
        repeat' ((conv => whnf); first | (refine Sbx.mk ⟨i, h9, rfl, ?_⟩; rw [hx]) | refine Gs.id ?_ | refine Brn.T (by (try simp only [smT]); first | rfl | omega | fail) ?_ | refine Brn.F (by (try simp only [smT]); first | rfl | assumption | fail) ?_ | refine Rng.mk (by (try simp only [smT]); omega) ?_ | fail)
        all_goals (conv => whnf)
        all_goals
          refine ⟨i + 1, by omega, by omega, [], ?_⟩
          rw [hst]
          exact ⟨by (try dsimp only); (repeat (refine LeT.cons rfl (by first | exact LeS.d (by first | exact LeD.u rfl | fail) | fail) ?_)); exact LeT.nil, by (try dsimp only); repeat (first | exact LeO.nil | fail)⟩
      | cons y r =>
        dsimp only
        repeat' ((conv => whnf); first | (refine Sbx.mk ⟨i, h9, rfl, ?_⟩; rw [hx]) | refine Gs.id ?_ | refine Brn.T (by (try simp only [smT]); first | rfl | omega | fail) ?_ | refine Brn.F (by (try simp only [smT]); first | rfl | assumption | fail) ?_ | refine Rng.mk (by (try simp only [smT]); omega) ?_ | fail)
        all_goals (conv => whnf)
        all_goals
          refine ⟨i + 1, by omega, by omega, [(900, .k 900)], ?_⟩
          rw [hst]
          exact ⟨by (try dsimp only); (repeat (refine LeT.cons rfl (by first | exact LeS.d (by first | exact LeD.u rfl | exact LeD.ow rfl rfl | fail) | fail) ?_)); exact LeT.nil, by (try dsimp only); repeat (first | exact LeO.nil | refine LeO.ar rfl rfl (by first | rfl | fail) ?_ | fail)⟩
  · obtain rfl : i = s.size := by omega
    rw [hL]
    cases L with
    | nil =>
      dsimp only
      repeat' ((conv => whnf); first | refine Gs.id ?_ | refine Brn.F (by (try simp only [smT]); first | rfl | omega | fail) ?_ | refine Len.mk (by first | rfl | fail) ?_ | refine Apd.mk (by first | rfl | fail) (by first | rfl | fail) (by (try simp only [smT]); first | omega | fail) (by unfold maxLen; first | (simp; done) | fail) ?_ | fail)
      all_goals (conv => whnf)
      all_goals exact Ret.is (by simp [tupT, SC.up])
    | cons y r =>
      simp only [List.length_cons] at q1
      dsimp only
      repeat' ((conv => whnf); first | refine Gs.id ?_ | refine Brn.F (by (try simp only [smT]); first | rfl | omega | fail) ?_ | refine Len.mk (by first | rfl | fail) ?_ | refine Apd.mk (by first | rfl | simp) (by first | rfl | fail) (by (try simp only [smT]); first | omega | fail) (by unfold maxLen; first | (simp; omega) | fail) ?_ | fail)
      all_goals (conv => whnf)
      all_goals exact Ret.is (by simp [tupT, SC.up])
end Go.Proofs.YtgloielnnakknaaDoor
namespace Go.Proofs.YtgloielnnakknaaDoor
open Go.RowKit
theorem byte_back (c : UInt8) : ((c.toNat : Int)).toNat.toUInt8 = c := by simp
theorem indexByte_T (s : ByteArray) (c : UInt8) : CallsA Tryd.prog 77 [dsr s, dby c.toNat] [] (Is (di (Go.Lib.indexByte s.data.toList c))) := by
  have hr : ∀ w, (Extern.BytealgIndexByte.indexByte #[.string s, .int .u8 (c.toNat : Int)]).run Tryd.prog w = .ok (.int .i64 (Go.Lib.indexByte s.data.toList c)) w := fun w => by
    rw [Go.Lib.run_indexByteString, byte_back]
  have hf := Tryd.func84
  refine callsA_of_vc (T := tt) Tryd.func77 rfl rfl rfl rfl rfl ?_
  repeat' ((conv => whnf); first | (refine CL.mk (Or.inr (Raw.extSB (e := Extern.BytealgIndexByte.indexByte) rfl rfl hf (by kernel_rfl) (by kernel_rfl) (by kernel_rfl) (by kernel_rfl) hr rfl ?_))) | refine Gs.id ?_ | fail)
  all_goals (conv => whnf)
  all_goals exact Ret.is rfl
abbrev dot : ByteArray := ⟨#[46]⟩
theorem indexByte_T' (s : ByteArray) : CallsA Tryd.prog 77 [dsr s, dby 46] [] (Is (di (Go.Lib.indexByte s.data.toList 46))) := indexByte_T s 46
theorem index0_T (s : ByteArray) : CallsA Tryd.prog 68 [dsr s, dsr dot] [] (Is (di (if s = dot then 0 else Go.Lib.indexByte s.data.toList 46))) := by
  have hb := toList_beq dot s
  have hi := indexByte_T' s
  have hd : (dot[0].toNat : Int) = 46 := rfl
  by_cases h : s = dot
  · rw [if_pos h]
    rw [decide_eq_true h.symm] at hb
    refine callsA_of_vc (T := tt) Tryd.func68 rfl rfl rfl rfl rfl ?_
    repeat' ((conv => whnf); first | refine Gs.id ?_ | with_reducible refine Brn.F rfl ?_ | refine Brn.T (by (try simp only [smT]); first | rfl | assumption | fail) ?_ | (refine Bnd.mk (fun hm => ?_); (try simp only [smT] at hm)) | fail)
    all_goals (conv => whnf)
    all_goals exact Ret.is rfl
  · rw [if_neg h]
    rw [decide_eq_false fun e => h e.symm] at hb
    refine callsA_of_vc (T := tt) Tryd.func68 rfl rfl rfl rfl rfl ?_
    repeat' ((conv => whnf); first | (refine Sbx.mk ⟨0, (by decide), rfl, ?_⟩; rw [hd]) | refine Gs.id ?_ | with_reducible refine Brn.T rfl ?_ | with_reducible refine Brn.F rfl ?_ | refine Brn.F (by (try simp only [smT]); first | rfl | assumption | fail) ?_ | (refine Bnd.mk (fun hm => ?_); (try simp only [smT] at hm)) | (refine CL.mk (Or.inl ?_); (conv => whnf); refine Cl.is (hi) rfl (by first | exact fun _ => rfl | fail) ?_) | fail)
    all_goals (conv => whnf)
    all_goals exact Ret.is rfl
theorem count_T (s : ByteArray) : CallsA Tryd.prog 57 [dsr s, dsr dot] [] (Is (di (Go.Lib.countByte s.data.toList 46))) := by
  have hd : (dot[0].toNat : Int) = 46 := rfl
  have hr : ∀ w, (Extern.BytealgCount.count #[.string s, .int .u8 46]).run Tryd.prog w = .ok (.int .i64 (Go.Lib.countByte s.data.toList 46)) w := fun w => by
    rw [Go.Lib.run_countString]; rfl
  have hf := Tryd.func67
  refine callsA_of_vc (T := tt) Tryd.func57 rfl rfl rfl rfl rfl ?_
  repeat' ((conv => whnf); first | (refine CL.mk (Or.inr (Raw.extSB (e := Extern.BytealgCount.count) rfl rfl hf (by kernel_rfl) (by kernel_rfl) (by kernel_rfl) (by kernel_rfl) hr rfl ?_))) | (refine Sbx.mk ⟨0, (by decide), rfl, ?_⟩; rw [hd]) | refine Gs.id ?_ | with_reducible refine Brn.T rfl ?_ | with_reducible refine Brn.F rfl ?_ | (refine Bnd.mk (fun hm => ?_); (try simp only [smT] at hm)) | fail)
  all_goals (conv => whnf)
  all_goals exact Ret.is rfl
theorem index_T (s : ByteArray) : CallsA Tryd.prog 58 [dsr s, dsr dot] [] (Is (di (Go.Lib.indexByte s.data.toList 46))) := by
  have h := index0_T s
  have e : (if s = dot then 0 else Go.Lib.indexByte s.data.toList 46) = Go.Lib.indexByte s.data.toList 46 := by
    by_cases h : s = dot
    · subst h; decide
    · rw [if_neg h]
  rw [e] at h
  refine callsA_of_vc (T := tt) Tryd.func58 rfl rfl rfl rfl rfl ?_
  repeat' ((conv => whnf); first | refine Gs.id ?_ | (refine CL.mk (Or.inl ?_); (conv => whnf); refine Cl.is (h) rfl (by first | exact fun _ => rfl | fail) ?_) | fail)
  all_goals (conv => whnf)
  all_goals exact Ret.is rfl
end Go.Proofs.YtgloielnnakknaaDoor
namespace Go.Proofs.YtgloielnnakknaaDoor
open Go.RowKit
def cutI (s : ByteArray) : Int := Go.Lib.indexByte s.data.toList 46
def stI (s : ByteArray) : Nat → ByteArray × List ByteArray
  | 0 => (s, [])
  | i + 1 => ((stI s i).1.extract ((cutI (stI s i).1).toNat + 1) (stI s i).1.size, (stI s i).2 ++ [(stI s i).1.extract 0 (cutI (stI s i).1).toNat])
def cntB (s : ByteArray) : Nat := Go.Lib.countByte s.data.toList 46
theorem idx_cnt : ∀ (l : List UInt8), 0 < l.count 46 → 0 ≤ Go.Lib.indexByte l 46 ∧ (Go.Lib.indexByte l 46).toNat < l.length ∧ (l.drop ((Go.Lib.indexByte l 46).toNat + 1)).count 46 + 1 = l.count 46
  | [], h => by simp at h
  | b :: l, h => by
    by_cases hb : b = 46
    · subst hb
      simp [Go.Lib.indexByte]
    · have hc : (b :: l).count 46 = l.count 46 := by rw [List.count_cons]; simp [hb]
      rw [hc] at h
      obtain ⟨h1, h2, h3⟩ := idx_cnt l h
      have e : Go.Lib.indexByte (b :: l) 46 = Go.Lib.indexByte l 46 + 1 := by
        rw [Go.Lib.indexByte]
        have h4 : (b == 46) = false := by simpa using hb
        have h5 : (Go.Lib.indexByte l 46 == -1) = false := by simp; omega
        rw [h4, h5]; rfl
      rw [e, hc]
      have e2 : (Go.Lib.indexByte l 46 + 1).toNat = (Go.Lib.indexByte l 46).toNat + 1 := by omega
      rw [e2]
      exact ⟨by omega, by simp; omega, by simpa using h3⟩
theorem cut_ok {s : ByteArray} (h : 0 < cntB s) : 0 ≤ cutI s ∧ (cutI s).toNat < s.size ∧ cntB (s.extract ((cutI s).toNat + 1) s.size) + 1 = cntB s := by
  obtain ⟨h1, h2, h3⟩ := idx_cnt s.data.toList h
  refine ⟨h1, by simpa [cutI] using h2, ?_⟩
  have e : (s.extract ((cutI s).toNat + 1) s.size).data.toList = s.data.toList.drop ((cutI s).toNat + 1) := by
    simp [ByteArray.data_extract, Array.toList_extract, List.extract_eq_take_drop]
    rw [List.take_of_length_le (by simp)]
  rw [cntB, e]
  exact h3
theorem stI_ok (s : ByteArray) : ∀ i, i ≤ cntB s → cntB (stI s i).1 + i = cntB s ∧ (stI s i).2.length = i ∧ (stI s i).1.size ≤ s.size
  | 0, _ => ⟨rfl, rfl, Nat.le_refl _⟩
  | i + 1, h => by
    obtain ⟨h1, h2, h3⟩ := stI_ok s i (by omega)
    obtain ⟨c1, c2, c3⟩ := cut_ok (s := (stI s i).1) (by omega)
    refine ⟨by rw [stI]; dsimp only; omega, by rw [stI]; simp [h2], ?_⟩
    rw [stI]
    simp
    omega
theorem cnt_le (s : ByteArray) : cntB s ≤ s.size := by
  have := List.count_le_length (a := (46 : UInt8)) (l := s.data.toList)
  simpa [cntB, Go.Lib.countByte] using this
abbrev zs (n : Nat) : List (List V) := List.replicate n [V.str (ByteArray.mk #[])]
theorem zs_set (L : List ByteArray) (n : Nat) (x : ByteArray) : (strs L ++ zs (n + 1)).set L.length [V.str x] = strs (L ++ [x]) ++ zs n := by
  rw [List.set_append_right _ _ (by simp)]
  simp [List.replicate_succ]
def splitM (s : ByteArray) : List ByteArray := (stI s (cntB s)).2 ++ [(stI s (cntB s)).1]
set_option maxHeartbeats 2000000 in
theorem genSplit_T (s : ByteArray) (hs : s.size ≤ 60) : CallsA Tryd.prog 46 [dsr s, dsr dot, di 0, di (-1)] [] (Is (.d (.u (.sl 1 (strs (splitM s)))))) := by
  have hc := count_T s
  have hle := cnt_le s
  have hix := fun r : ByteArray => index_T r
  have hcn : (Go.Lib.countByte s.data.toList 46 : Nat) = cntB s := rfl
  rw [hcn] at hc
  have hok := stI_ok s
  rw [splitM]
  have hcut : ∀ i, i < cntB s → 0 ≤ cutI (stI s i).1 ∧ (cutI (stI s i).1).toNat < (stI s i).1.size := fun i hi => by
    obtain ⟨h1, _, _⟩ := hok i (by omega)
    obtain ⟨c1, c2, _⟩ := cut_ok (s := (stI s i).1) (by omega)
    exact ⟨c1, c2⟩
  have hcc : ∀ i, i ≤ cntB s → (stI s i).2.length = i ∧ (stI s i).1.size ≤ s.size := fun i hi => (hok i hi).2
  clear hok
  generalize cntB s = n at *
  have hmin : min (n : Int) (s.size : Int) = n := by omega
  refine callsA_of_vc (T := tt) Tryd.func46 rfl rfl rfl rfl rfl ?_
  repeat' ((conv => whnf); first | refine Raw.makeSlice (T := tt) (n + 1) rfl rfl (by omega) (by omega) rfl rfl rfl rfl rfl rfl rfl (by omega) (by omega) ?_ | refine Gs.id ?_ | with_reducible refine Brn.T rfl ?_ | with_reducible refine Brn.F rfl ?_ | refine Brn.F (by (try simp only [smT]); first | rfl | (simp [*]; done) | fail) ?_ | (refine Bnd.mk (fun hm => ?_); (try simp only [smT] at hm)) | refine Rng.mk (by (try simp only [smT]); omega) ?_ | (refine CL.mk (Or.inl ?_); (conv => whnf); refine Cl.is (hc) rfl (by first | exact fun _ => rfl | fail) ?_) | fail)
  all_goals (conv => whnf)
  refine ⟨⟨Nat, fun i => i ≤ n, fun i => n - i, fun i => ⟨[(0, dsr (stI s i).1), (1, dsr dot), (2, di 0), (3, di n), (9, .d (.ow 900 (n + 1))), (10, di i)], [(900, .ar 9 1 (strs (stI s i).2 ++ zs (n + 1 - i)))]⟩, 0, Nat.zero_le _, ⟨[(900, .k 31)], ⟨by (try dsimp only); (repeat (refine LeT.cons rfl (by first | exact LeS.d (by first | exact LeD.u rfl | exact LeD.ow rfl rfl | exact LeD.u (by simp [hmin]; done) | fail) | fail) ?_)); exact LeT.nil, by (try dsimp only); repeat (first | exact LeO.nil | refine LeO.ar rfl rfl (by first | rfl | fail) ?_ | fail)⟩⟩, fun i hi => ?_⟩⟩
  dsimp only at hi ⊢
  obtain ⟨l1, l2⟩ := hcc i hi
  by_cases h9 : i < n
  · obtain ⟨c1, c2⟩ := hcut i h9
    have hst := stI.eq_2 s i
    have hi2 : CallsA Tryd.prog 58 [dsr (stI s i).1, dsr dot] [] (Is (di (cutI (stI s i).1))) := hix (stI s i).1
    generalize cutI (stI s i).1 = m at *
    obtain ⟨m, rfl⟩ : ∃ k : Nat, m = (k : Int) := ⟨m.toNat, by omega⟩
    rw [Int.toNat_natCast] at hst c2
    generalize (stI s i).1 = r at *
    generalize (stI s i).2 = L at *
    have hds : dot.size = 1 := rfl
    have hzz : zs (n + 1 - i) = zs ((n - i) + 1) := by rw [show n + 1 - i = n - i + 1 by omega]
    have hset := zs_set L (n - i) (r.extract 0 m)
    rw [l1] at hset
    rw [hzz]
    have hrw : ∀ {K : List V → Prop}, K [V.str (ByteArray.mk #[])] → Rw (strs L ++ zs (n - i + 1)) i K := fun k => Rw.get (by rw [List.getElem?_append_right (by simp [l1])]; simp [l1]) k
    repeat' ((conv => whnf); first | refine Slc.mk ⟨0, m, rfl, (by omega), by omega, by omega, ?_⟩ | refine Slc.mk ⟨(m + 1), r.size, (by rw [hds]; omega), rfl, by omega, by omega, ?_⟩ | refine Ixo.mk ⟨i, rfl, by omega, ?_⟩ | refine hrw ?_ | refine Gs.id ?_ | with_reducible refine Brn.F rfl ?_ | refine Brn.T (by (try simp only [smT]); first | rfl | omega | fail) ?_ | (refine Bnd.mk (fun hm => ?_); (try simp only [smT] at hm)) | refine Rng.mk (by (try simp only [smT]); omega) ?_ | (refine CL.mk (Or.inl ?_); (conv => whnf); refine Cl.is (hi2) rfl (by first | exact fun _ => rfl | fail) ?_) | fail)
    all_goals (conv => whnf)
    have hz2 : n + 1 - (i + 1) = n - i := by omega
    all_goals
      refine ⟨i + 1, by omega, by omega, [(900, .k 900)], ?_⟩
      rw [hst, hz2]
      exact ⟨by (try dsimp only); (repeat (refine LeT.cons rfl (by first | exact LeS.d (by first | exact LeD.u rfl | exact LeD.ow rfl rfl | fail) | fail) ?_)); exact LeT.nil, by (try dsimp only); repeat (first | exact LeO.nil | refine LeO.ar rfl rfl (by first | simp [hset]) ?_ | fail)⟩
  · obtain rfl : i = n := by omega
    clear hcut hcc hmin
    generalize (stI s i).1 = r at *
    generalize (stI s i).2 = L at *
    have hzz : zs (i + 1 - i) = zs (0 + 1) := by rw [show i + 1 - i = 1 by omega]
    have hset := zs_set L 0 r
    rw [l1] at hset
    rw [hzz]
    have hrw : ∀ {K : List V → Prop}, K [V.str (ByteArray.mk #[])] → Rw (strs L ++ zs (0 + 1)) i K := fun k => Rw.get (by rw [List.getElem?_append_right (by simp [l1])]; simp [l1]) k
    repeat' ((conv => whnf); first | refine Ixo.mk ⟨i, rfl, by omega, ?_⟩ | refine hrw ?_ | refine Slc.mk ⟨0, i + 1, rfl, rfl, by omega, by simp [l1], ?_⟩ | refine Gs.id ?_ | refine Brn.F (by (try simp only [smT]); first | rfl | omega | fail) ?_ | refine Rng.mk (by (try simp only [smT]); omega) ?_ | fail)
    all_goals (conv => whnf)
    all_goals
      refine Len.mk (by simp [l1]) ?_
      exact Ret.is (by simp at hset; simp [tupT, SC.up]; exact hset)
end Go.Proofs.YtgloielnnakknaaDoor
namespace Go.Proofs.YtgloielnnakknaaDoor
open Go.RowKit
theorem split_T (s : ByteArray) (hs : s.size ≤ 60) : CallsA Tryd.prog 37 [dsr s, dsr dot] [] (Is (.d (.u (.sl 1 (strs (splitM s)))))) := by
  have h := genSplit_T s hs
  refine callsA_of_vc (T := tt) Tryd.func37 rfl rfl rfl rfl rfl ?_
  repeat' ((conv => whnf); first | refine Gs.id ?_ | (refine CL.mk (Or.inl ?_); (conv => whnf); refine Cl.is (h) rfl (by first | (intro e; cases e; done) | fail) ?_) | fail)
  all_goals (conv => whnf)
  all_goals exact Ret.is rfl
theorem notName_T (s : ByteArray) : CallsA Tryd.prog 38 [dsr s] [] (Is (db (!nameB s))) := by
  have h := isName_T' s
  refine callsA_of_vc (T := tt) Tryd.func38 rfl rfl rfl rfl rfl ?_
  repeat' ((conv => whnf); first | refine Gs.id ?_ | (refine CL.mk (Or.inl ?_); (conv => whnf); refine Cl.is (h) rfl (by first | exact fun _ => rfl | fail) ?_) | fail)
  all_goals (conv => whnf)
  all_goals exact Ret.is rfl
/-- Where the first stands that is no name, from i on; -1: nowhere. -/
def badI : List ByteArray → Nat → Int
  | [], _ => -1
  | x :: l, i => if nameB x then badI l (i + 1) else i
theorem badI_all : ∀ (l : List ByteArray) (i : Nat), decide (0 ≤ badI l i) = !l.all nameB
  | [], i => rfl
  | x :: l, i => by
    rw [badI, List.all_cons]
    cases nameB x
    · simp
    · simpa using badI_all l (i + 1)
abbrev fnD : V := .fn 38
theorem indexFunc_T (l : List ByteArray) (hl : l.length ≤ 1000000) : CallsA Tryd.prog 45 [.d (.u (.sl 1 (strs l))), .d (.u fnD)] [] (Is (di (badI l 0))) := by
  refine callsA_of_vc (T := tt) Tryd.func45 rfl rfl rfl rfl rfl ?_
  repeat' ((conv => whnf); first | refine Gs.id ?_ | (refine Bnd.mk (fun hm => ?_); (try simp only [smT] at hm)) | fail)
  all_goals (conv => whnf)
  refine ⟨⟨Nat, fun i => i ≤ l.length ∧ badI l 0 = badI (l.drop i) i, fun i => l.length - i, fun i => ⟨[(0, .d (.u (.sl 1 (strs l)))), (1, .d (.u fnD)), (7, di l.length), (8, di i)], []⟩, 0, ⟨Nat.zero_le _, rfl⟩, ⟨[], ⟨by (try dsimp only); (repeat (refine LeT.cons rfl (by first | exact LeS.d (by first | exact LeD.u rfl | exact LeD.u (by simp; done) | fail) | fail) ?_)); exact LeT.nil, by (try dsimp only); repeat (first | exact LeO.nil | fail)⟩⟩, fun i hi => ?_⟩⟩
  obtain ⟨hi, he⟩ := hi
  dsimp only
  rw [he]
  by_cases h9 : i < l.length
  · rw [List.drop_eq_getElem_cons h9, badI]
    have hrow : ∀ {K : List V → Prop}, K [V.str l[i]] → Ix (strs l) (i : Int) K := fun k => Ix.map rfl h9 k
    generalize l[i] = x at *
    have hn := notName_T x
    cases hx : nameB x
    · rw [hx] at hn
      repeat' ((conv => whnf); first | refine hrow ?_ | refine Gs.id ?_ | with_reducible refine Brn.T rfl ?_ | refine Brn.T (by (try simp only [smT]); first | rfl | omega | fail) ?_ | (refine Raw.callF [] [] rfl rfl rfl rfl rfl rfl rfl rfl (hn) ?_; rintro _ _ ⟨rfl, rfl⟩; refine Bk.mk rfl rfl ?_))
      all_goals (conv => whnf)
      all_goals exact Ret.is rfl
    · rw [hx] at hn
      repeat' ((conv => whnf); first | refine hrow ?_ | refine Gs.id ?_ | with_reducible refine Brn.F rfl ?_ | refine Brn.T (by (try simp only [smT]); first | rfl | omega | fail) ?_ | refine Rng.mk (by (try simp only [smT]); omega) ?_ | (refine Raw.callF [] [] rfl rfl rfl rfl rfl rfl rfl rfl (hn) ?_; rintro _ _ ⟨rfl, rfl⟩; refine Bk.mk rfl rfl ?_))
      all_goals (conv => whnf)
      all_goals exact ⟨i + 1, ⟨by omega, by rw [if_pos rfl]⟩, by omega, [], ⟨by (try dsimp only); (repeat (refine LeT.cons rfl (by first | exact LeS.d (by first | exact LeD.u rfl | fail) | fail) ?_)); exact LeT.nil, by (try dsimp only); repeat (first | exact LeO.nil | fail)⟩⟩
  · obtain rfl : i = l.length := by omega
    rw [List.drop_length, badI]
    repeat' ((conv => whnf); first | refine Gs.id ?_ | refine Brn.F (by (try simp only [smT]); first | rfl | omega | fail) ?_ | fail)
    all_goals (conv => whnf)
    all_goals exact Ret.is rfl
theorem containsFunc_T (l : List ByteArray) (hl : l.length ≤ 1000000) : CallsA Tryd.prog 36 [.d (.u (.sl 1 (strs l))), .d (.u fnD)] [] (Is (db (!l.all nameB))) := by
  have h := indexFunc_T l hl
  rw [← badI_all l 0]
  refine callsA_of_vc (T := tt) Tryd.func36 rfl rfl rfl rfl rfl ?_
  repeat' ((conv => whnf); first | refine Gs.id ?_ | (refine CL.mk (Or.inl ?_); (conv => whnf); refine Cl.is (h) rfl (by first | exact fun _ => rfl | fail) ?_) | fail)
  all_goals (conv => whnf)
  all_goals exact Ret.is rfl
theorem splitM_len (s : ByteArray) : (splitM s).length ≤ s.size + 1 := by
  have h1 := (stI_ok s (cntB s) (Nat.le_refl _)).2.1
  have h2 := cnt_le s
  simp [splitM, h1]
  omega
def dottedM (s : ByteArray) : Bool := decide ((s.size : Int) ≤ 60) && (splitM s).all nameB
theorem dotted_T (s : ByteArray) : CallsA Tryd.prog 22 [dsr s] [] (Is (db (dottedM s))) := by
  by_cases h : (s.size : Int) ≤ 60
  · have e : dottedM s = (splitM s).all nameB := by simp [dottedM, h]
    rw [e]
    have h1 := split_T s (by omega)
    have h2 := containsFunc_T (splitM s) (by have := splitM_len s; omega)
    have h3 : (!!(splitM s).all nameB) = (splitM s).all nameB := by simp
    refine callsA_of_vc (T := tt) Tryd.func22 rfl rfl rfl rfl rfl ?_
    repeat' ((conv => whnf); first | refine Gs.id ?_ | refine Brn.T (by (try simp only [smT]); first | rfl | assumption | fail) ?_ | (refine Bnd.mk (fun hm => ?_); (try simp only [smT] at hm)) | (refine CL.mk (Or.inl ?_); (conv => whnf); first | refine Cl.is (h1) rfl (by first | (intro e; cases e; done) | fail) ?_ | refine Cl.is (h2) rfl (by first | exact fun _ => rfl | fail) ?_) | fail)
    all_goals (conv => whnf)
    all_goals exact Ret.is (by simp [tupT, SC.up])
  · have e : dottedM s = false := by simp [dottedM, h]
    rw [e]
    refine callsA_of_vc (T := tt) Tryd.func22 rfl rfl rfl rfl rfl ?_
    repeat' ((conv => whnf); first | refine Gs.id ?_ | refine Brn.F (by (try simp only [smT]); first | rfl | omega | fail) ?_ | (refine Bnd.mk (fun hm => ?_); (try simp only [smT] at hm)) | fail)
    all_goals (conv => whnf)
    all_goals exact Ret.is rfl
end Go.Proofs.YtgloielnnakknaaDoor
namespace Go.Proofs.YtgloielnnakknaaDoor
def dotL : List UInt8 → List (List UInt8)
  | [] => [[]]
  | b :: l => if b = 46 then [] :: dotL l else match dotL l with
    | [] => [[b]]
    | x :: r => (b :: x) :: r
theorem dotL_ne : ∀ l, dotL l ≠ []
  | [] => by simp [dotL]
  | b :: l => by
    rw [dotL]
    split
    · simp
    · split <;> simp
def preL (x : List UInt8) : List (List UInt8) → List (List UInt8)
  | [] => [x]
  | y :: r => (x ++ y) :: r
theorem dotL_cons {b : UInt8} {l : List UInt8} (h : b ≠ 46) : dotL (b :: l) = preL [b] (dotL l) := by
  rw [dotL, if_neg h]
  cases dotL l <;> rfl
theorem preL_preL (x y : List UInt8) (l : List (List UInt8)) : preL x (preL y l) = preL (x ++ y) l := by
  cases l <;> simp [preL]
theorem dotL_idx : ∀ (l : List UInt8), 0 < l.count 46 → dotL l = l.take (Go.Lib.indexByte l 46).toNat :: dotL (l.drop ((Go.Lib.indexByte l 46).toNat + 1))
  | [], h => by simp at h
  | b :: l, h => by
    by_cases hb : b = 46
    · subst hb
      simp [dotL, Go.Lib.indexByte]
    · have hc : (b :: l).count 46 = l.count 46 := by rw [List.count_cons]; simp [hb]
      rw [hc] at h
      obtain ⟨h1, h2, h3⟩ := idx_cnt l h
      have e : Go.Lib.indexByte (b :: l) 46 = Go.Lib.indexByte l 46 + 1 := by
        rw [Go.Lib.indexByte]
        have h4 : (b == 46) = false := by simpa using hb
        have h5 : (Go.Lib.indexByte l 46 == -1) = false := by simp; omega
        rw [h4, h5]; rfl
      have e2 : (Go.Lib.indexByte l 46 + 1).toNat = (Go.Lib.indexByte l 46).toNat + 1 := by omega
      rw [e, e2, dotL_cons hb, dotL_idx l h]
      simp [preL]
theorem dotL_none : ∀ (l : List UInt8), l.count 46 = 0 → dotL l = [l]
  | [], _ => rfl
  | b :: l, h => by
    have hb : b ≠ 46 := fun e => by subst e; simp at h
    have hc : (b :: l).count 46 = l.count 46 := by rw [List.count_cons]; simp [hb]
    rw [dotL_cons hb, dotL_none l (by omega)]
    rfl
abbrev tl (l : List ByteArray) : List (List UInt8) := l.map fun s => s.data.toList
theorem extract_tl (s : ByteArray) (a b : Nat) : (s.extract a b).data.toList = (s.data.toList.drop a).take (b - a) := by
  simp [ByteArray.data_extract, Array.toList_extract, List.extract_eq_take_drop]
theorem stI_dotL (s : ByteArray) : ∀ i, i ≤ cntB s → dotL s.data.toList = tl (stI s i).2 ++ dotL (stI s i).1.data.toList
  | 0, _ => rfl
  | i + 1, h => by
    obtain ⟨h1, _, _⟩ := stI_ok s i (by omega)
    have hp : 0 < (stI s i).1.data.toList.count 46 := by
      have : cntB (stI s i).1 = (stI s i).1.data.toList.count 46 := rfl
      omega
    rw [stI_dotL s i (by omega), dotL_idx _ hp, stI]
    have e1 := extract_tl (stI s i).1 0 (cutI (stI s i).1).toNat
    have e2 := extract_tl (stI s i).1 ((cutI (stI s i).1).toNat + 1) (stI s i).1.size
    rw [List.take_of_length_le (by simp)] at e2
    simp only [tl, List.map_append, List.map_cons, List.map_nil, List.append_assoc, List.singleton_append]
    rw [e1, e2]
    simp [cutI]
theorem splitM_dotL (s : ByteArray) : tl (splitM s) = dotL s.data.toList := by
  obtain ⟨h1, _, _⟩ := stI_ok s (cntB s) (Nat.le_refl _)
  have h0 : (stI s (cntB s)).1.data.toList.count 46 = 0 := by
    have : cntB (stI s (cntB s)).1 = (stI s (cntB s)).1.data.toList.count 46 := rfl
    omega
  rw [stI_dotL s _ (Nat.le_refl _), dotL_none _ h0]
  simp [tl, splitM]
theorem preL_nil {l : List (List UInt8)} (h : l ≠ []) : preL [] l = l := by
  cases l with
  | nil => exact absurd rfl h
  | cons y r => rfl
theorem splitB_dotL (s : ByteArray) : ∀ i, i ≤ s.size → dotL s.data.toList = tl (splitB s 46 i).1 ++ preL ((s.data.toList.drop (splitB s 46 i).2).take (i - (splitB s 46 i).2)) (dotL (s.data.toList.drop i))
  | 0, _ => by simp [splitB, preL_nil (dotL_ne _)]
  | i + 1, h => by
    have ih := splitB_dotL s i (by omega)
    have hle := splitB_le s 46 i
    have hi : i < s.data.toList.length := by simp; omega
    have hd : s.data.toList.drop i = s.data.toList[i] :: s.data.toList.drop (i + 1) := List.drop_eq_getElem_cons hi
    have hg : s.data[i]? = some s.data.toList[i] := by simp at hi ⊢
    rw [splitB, hg]
    rw [hd] at ih
    generalize hb : s.data.toList[i] = b at *
    by_cases hc : b = 46
    · subst hc
      rw [if_pos (.inr rfl), ih, dotL, if_pos rfl]
      have e1 := extract_tl s (splitB s 46 i).2 i
      have hne := dotL_ne (s.data.toList.drop (i + 1))
      generalize dotL (s.data.toList.drop (i + 1)) = Y at *
      cases Y with
      | nil => exact absurd rfl hne
      | cons y r =>
        simp only [tl, List.map_append, List.map_cons, List.map_nil, List.append_assoc, List.singleton_append, preL, List.append_nil, Nat.sub_self, List.take_zero, List.nil_append]
        rw [e1]
    · rw [if_neg (by simp [hc]; omega), ih, dotL_cons hc, preL_preL]
      congr 2
      have e : i + 1 - (splitB s 46 i).2 = (i - (splitB s 46 i).2) + 1 := by omega
      have hlen : i - (splitB s 46 i).2 < (s.data.toList.drop (splitB s 46 i).2).length := by simp; simp at hi; omega
      rw [e, List.take_succ_eq_append_getElem hlen]
      congr 1
      rw [List.getElem_drop]
      have : (splitB s 46 i).2 + (i - (splitB s 46 i).2) = i := by omega
      simp only [this, hb]
theorem parts_dotL (s : ByteArray) : tl (parts s) = dotL s.data.toList := by
  have h := splitB_dotL s s.size (Nat.le_refl _)
  rw [parts, splitB, if_pos (.inl rfl), h]
  have e1 := extract_tl s (splitB s 46 s.size).2 s.size
  have e2 : s.data.toList.drop s.size = [] := List.drop_eq_nil_of_le (by simp)
  rw [e2]
  simp only [tl, List.map_append, List.map_cons, List.map_nil, dotL, preL, List.append_nil]
  rw [e1]
theorem tl_inj {a b : List ByteArray} (h : tl a = tl b) : a = b := by
  induction a generalizing b with
  | nil => cases b with
    | nil => rfl
    | cons => simp [tl] at h
  | cons x r ih =>
    cases b with
    | nil => simp [tl] at h
    | cons y q =>
      simp only [tl, List.map_cons, List.cons.injEq] at h
      obtain ⟨h1, h2⟩ := h
      obtain ⟨x⟩ := x
      obtain ⟨y⟩ := y
      have : x = y := Array.toList_inj.1 h1
      rw [this, ih h2]
theorem splitM_parts (s : ByteArray) : splitM s = parts s := tl_inj ((splitM_dotL s).trans (parts_dotL s).symm)
theorem dottedM_eq (s : ByteArray) : dottedM s = dottedB s := by rw [dottedM, dottedB, splitM_parts, Bool.and_comm]
end Go.Proofs.YtgloielnnakknaaDoor
namespace Go.Proofs.YtgloielnnakknaaDoor
open Go.RowKit
theorem chainOk_T (s : ByteArray) (h : dottedM s = true) : CallsA Tryd.prog 8 [dsr s] [] (Is (.t [.d (.u (strs' (chainM s))), .a [.u (.int .i64 0), .u (.int .i64 0)]])) := by
  have h1 := dotted_T s
  rw [h] at h1
  have hs : s.size ≤ 60 := by simp [dottedM] at h; omega
  have h2 := chain_T s (by omega)
  refine callsA_of_vc (T := tt) Tryd.func8 rfl rfl rfl rfl rfl ?_
  repeat' ((conv => whnf); first | refine Gs.id ?_ | with_reducible refine Brn.F rfl ?_ | (refine CL.mk (Or.inl ?_); (conv => whnf); first | refine Cl.is (h1) rfl (by first | exact fun _ => rfl | fail) ?_ | refine Cl.is (h2) rfl (by first | (intro e; cases e; done) | fail) ?_) | fail)
  all_goals (conv => whnf)
  all_goals exact Ret.is rfl
end Go.Proofs.YtgloielnnakknaaDoor
namespace Go.Proofs.YtgloielnnakknaaDoor
open Go.RowKit
/-- The last c among the first i bytes; -1: none. -/
def lastB (s : ByteArray) (c : UInt8) : Nat → Int
  | 0 => -1
  | i + 1 => if s.data[i]? = some c then i else lastB s c i
theorem lastIdx0_T (s : ByteArray) (c : UInt8) (hs : s.size ≤ 1000000000000) : CallsA Tryd.prog 86 [dsr s, dby c.toNat] [] (Is (di (lastB s c s.size))) := by
  refine callsA_of_vc (T := tt) Tryd.func86 rfl rfl rfl rfl rfl ?_
  repeat' ((conv => whnf); first | refine Gs.id ?_ | (refine Bnd.mk (fun hm => ?_); (try simp only [smT] at hm)) | refine Rng.mk (by (try simp only [smT]); omega) ?_ | fail)
  all_goals (conv => whnf)
  refine ⟨⟨Nat, fun i => i ≤ s.size ∧ lastB s c s.size = lastB s c i, fun i => i, fun i => ⟨[(0, dsr s), (1, dby c.toNat), (5, di ((i : Int) - 1))], []⟩, s.size, ⟨Nat.le_refl _, rfl⟩, ⟨[], ⟨by (try dsimp only); (repeat (refine LeT.cons rfl (by first | exact LeS.d (by first | exact LeD.u rfl | fail) | fail) ?_)); exact LeT.nil, by (try dsimp only); repeat (first | exact LeO.nil | fail)⟩⟩, fun i hi => ?_⟩⟩
  obtain ⟨hi, he⟩ := hi
  dsimp only
  rw [he]
  cases i with
  | zero =>
    rw [lastB]
    repeat' ((conv => whnf); first | refine Gs.id ?_ | with_reducible refine Brn.F rfl ?_ | fail)
    all_goals (conv => whnf)
    all_goals exact Ret.is rfl
  | succ i =>
    have h9 : i < s.size := by omega
    have hget : s.data[i]? = some s[i] := by simp [ByteArray.getElem_eq_getElem_data, h9]
    have hcast : ((i + 1 : Nat) : Int) - 1 = (i : Int) := by omega
    rw [lastB, hget, hcast]
    by_cases hc : s[i] = c
    · rw [if_pos (by rw [hc])]
      have hcn : (s[i].toNat : Int) = (c.toNat : Int) := by rw [hc]
      generalize hx : (s[i].toNat : Int) = x at *
      repeat' ((conv => whnf); first | (refine Sbx.mk ⟨i, h9, rfl, ?_⟩; rw [hx]) | refine Gs.id ?_ | with_reducible refine Brn.T rfl ?_ | refine Brn.T (by (try simp only [smT]); first | rfl | assumption | fail) ?_ | fail)
      all_goals (conv => whnf)
      all_goals exact Ret.is rfl
    · rw [if_neg (by simpa using hc)]
      have hcn : ¬ (s[i].toNat : Int) = (c.toNat : Int) := fun e => hc (UInt8.toNat_inj.1 (by omega))
      generalize hx : (s[i].toNat : Int) = x at *
      repeat' ((conv => whnf); first | (refine Sbx.mk ⟨i, h9, rfl, ?_⟩; rw [hx]) | refine Gs.id ?_ | with_reducible refine Brn.T rfl ?_ | refine Brn.F (by (try simp only [smT]); first | rfl | assumption | fail) ?_ | refine Rng.mk (by (try simp only [smT]); omega) ?_ | fail)
      all_goals (conv => whnf)
      all_goals exact ⟨i, ⟨by omega, by simp [lastB, hget, hc] at he ⊢⟩, by omega, [], ⟨by (try dsimp only); (repeat (refine LeT.cons rfl (by first | exact LeS.d (by first | exact LeD.u rfl | fail) | fail) ?_)); exact LeT.nil, by (try dsimp only); repeat (first | exact LeO.nil | fail)⟩⟩
theorem lastIdx_T (s : ByteArray) (c : UInt8) (hs : s.size ≤ 1000000000000) : CallsA Tryd.prog 81 [dsr s, dby c.toNat] [] (Is (di (lastB s c s.size))) := by
  have h := lastIdx0_T s c hs
  refine callsA_of_vc (T := tt) Tryd.func81 rfl rfl rfl rfl rfl ?_
  repeat' ((conv => whnf); first | refine Gs.id ?_ | (refine CL.mk (Or.inl ?_); (conv => whnf); refine Cl.is (h) rfl (by first | exact fun _ => rfl | fail) ?_) | fail)
  all_goals (conv => whnf)
  all_goals exact Ret.is rfl
theorem indexS_T (s : ByteArray) : CallsA Tryd.prog 68 [dsr s, dsr dot] [] (Is (di (cutI s))) := by
  have h := index0_T s
  have e : (if s = dot then 0 else Go.Lib.indexByte s.data.toList 46) = cutI s := by
    by_cases h : s = dot
    · subst h; decide
    · rw [if_neg h]; rfl
  rw [e] at h
  exact h
end Go.Proofs.YtgloielnnakknaaDoor
namespace Go.Proofs.YtgloielnnakknaaDoor
open Go.RowKit
structure Stp where
  kind : Int
  name : ByteArray
  part : ByteArray
structure Un where
  name : ByteArray
  steps : List Stp
def Stp.row (s : Stp) : List V := [.int .i64 s.kind, .str s.name, .str s.part]
def Un.row (u : Un) : List V := [.str u.name, .sl 3 (u.steps.map Stp.row)]
def emp : ByteArray := ⟨#[]⟩
def simpleM (k : Int) : Bool := decide (k = 1) || decide (k = 2)
def badNameM (s : Stp) : Bool := (simpleM s.kind && !nameB s.name) || ((!simpleM s.kind && !dottedM s.name) || (decide (s.kind = 4) && !nameB s.part))
def stepM (s : Stp) : Int := if s.kind < 1 ∨ 5 < s.kind then 5 else if badNameM s = true then 7 else if s.kind ≠ 4 ∧ s.part ≠ emp then 6 else 0
theorem emp_beq (a : ByteArray) : (a.toList == (⟨#[]⟩ : ByteArray).toList) = decide (a = emp) := toList_beq a emp
theorem step_T (s : Stp) : CallsA Tryd.prog 30 [.a [.u (.int .i64 s.kind), .u (.str s.name), .u (.str s.part)]] [] (Is (di (stepM s))) := by
  obtain ⟨k, n, p⟩ := s
  have h1 := isName_T' n
  have h2 := dotted_T n
  have h3 := isName_T' p
  have h4 := emp_beq p
  dsimp only
  by_cases hk : k < 1 ∨ 5 < k
  · have e : stepM ⟨k, n, p⟩ = 5 := by simp only [stepM]; rw [if_pos hk]
    rw [e]
    refine callsA_of_vc (T := tt) Tryd.func30 rfl rfl rfl rfl rfl ?_
    repeat' ((conv => whnf); first | refine Gs.id ?_ | with_reducible refine Brn.T rfl ?_ | refine Brn.T (by (try simp only [smT]); first | rfl | assumption | omega | fail) ?_ | refine Brn.F (by (try simp only [smT]); first | rfl | assumption | omega | fail) ?_ | (refine Brn.mk (fun hb => ?_) (fun hb => ?_) <;> (try simp only [smT] at hb) <;> (try (exact absurd trivial hb)) <;> (try (exfalso; omega))) | fail)
    all_goals (conv => whnf)
    all_goals first | exact Ret.is rfl | (exfalso; simp_all; omega)
  · by_cases hb0 : badNameM ⟨k, n, p⟩ = true
    · have e : stepM ⟨k, n, p⟩ = 7 := by simp only [stepM]; rw [if_neg hk, if_pos hb0]
      rw [e]
      simp only [badNameM, simpleM] at hb0
      refine callsA_of_vc (T := tt) Tryd.func30 rfl rfl rfl rfl rfl ?_
      repeat' ((conv => whnf); first | refine Gs.id ?_ | with_reducible refine Brn.T rfl ?_ | with_reducible refine Brn.F rfl ?_ | refine Brn.T (by (try simp only [smT]); first | rfl | assumption | omega | fail) ?_ | refine Brn.F (by (try simp only [smT]); first | rfl | assumption | omega | fail) ?_ | (refine Brn.mk (fun hb => ?_) (fun hb => ?_) <;> (try simp only [smT] at hb) <;> (try (exact absurd trivial hb)) <;> (try (exfalso; omega))) | (refine CL.mk (Or.inl ?_); (conv => whnf); first | refine Cl.is (h1) rfl (by first | exact fun _ => rfl | fail) ?_ | refine Cl.is (h2) rfl (by first | exact fun _ => rfl | fail) ?_ | refine Cl.is (h3) rfl (by first | exact fun _ => rfl | fail) ?_) | fail)
      all_goals (conv => whnf)
      all_goals first | exact Ret.is rfl | (exfalso; simp_all; done) | (exfalso; simp_all; omega)
    · have e : stepM ⟨k, n, p⟩ = if k ≠ 4 ∧ p ≠ emp then 6 else 0 := by simp only [stepM]; rw [if_neg hk, if_neg hb0]
      rw [e]
      simp only [badNameM, simpleM] at hb0
      refine callsA_of_vc (T := tt) Tryd.func30 rfl rfl rfl rfl rfl ?_
      repeat' ((conv => whnf); first | refine Gs.id ?_ | with_reducible refine Brn.T rfl ?_ | with_reducible refine Brn.F rfl ?_ | refine Brn.T (by (try simp only [smT]); first | rfl | assumption | omega | fail) ?_ | refine Brn.F (by (try simp only [smT]); first | rfl | assumption | omega | fail) ?_ | (refine Brn.mk (fun hb => ?_) (fun hb => ?_) <;> (try simp only [smT] at hb) <;> (try (exact absurd trivial hb)) <;> (try (exfalso; omega))) | (refine CL.mk (Or.inl ?_); (conv => whnf); first | refine Cl.is (h1) rfl (by first | exact fun _ => rfl | fail) ?_ | refine Cl.is (h2) rfl (by first | exact fun _ => rfl | fail) ?_ | refine Cl.is (h3) rfl (by first | exact fun _ => rfl | fail) ?_) | fail)
      all_goals (conv => whnf)
      all_goals first | (exfalso; simp_all; done) | (exfalso; simp_all; omega) | (refine Ret.is ?_; simp_all; rfl) | (refine Ret.is ?_; simp_all; done)
end Go.Proofs.YtgloielnnakknaaDoor
namespace Go.Proofs.YtgloielnnakknaaDoor
open Go.RowKit
def mainB : ByteArray := ⟨#[109, 97, 105, 110]⟩
theorem main_beq (a : ByteArray) : (a.toList == (⟨#[109, 97, 105, 110]⟩ : ByteArray).toList) = decide (a = mainB) := toList_beq a mainB
/-- Names in a map. -/
def ents (l : List ByteArray) : List (List V × List V) := l.map fun n => ([V.str n], [V.bool true])
def inL (n : ByteArray) (l : List ByteArray) : Bool := l.any fun m => decide (n = m)
def sput (l : List ByteArray) (n : ByteArray) : List ByteArray := if inL n l = true then l else l ++ [n]
theorem ents_ok (l : List ByteArray) : ∀ e ∈ ents l, keyT .sr e.1 = true := by
  intro e he
  simp only [ents, List.mem_map] at he
  obtain ⟨n, _, rfl⟩ := he
  rfl
theorem eqC_str (a b : ByteArray) : eqCs [V.str a] [V.str b] = decide (a = b) := by rw [eqCs_one]; rfl
theorem ents_get (n : ByteArray) : ∀ l, mgetT (ents l) [.str n] [.bool false] = [.bool (inL n l)] ∧ mhasT (ents l) [.str n] = inL n l ∧ mputT (ents l) [.str n] [.bool true] = ents (sput l n)
  | [] => ⟨rfl, rfl, rfl⟩
  | m :: l => by
    obtain ⟨h1, h2, h3⟩ := ents_get n l
    simp only [ents, inL, List.map_cons, mgetT, mhasT, mputT, eqC_str, List.any_cons] at *
    by_cases h : n = m
    · subst h; simp [sput, inL, ents]
    · simp only [h, decide_false, cond_false, Bool.false_or]
      refine ⟨h1, h2, ?_⟩
      rw [h3]
      simp only [sput, inL, List.any_cons, h, decide_false, Bool.false_or]
      split <;> simp_all
def unit0M (u : Un) (i : Nat) (seen : List ByteArray) : Int := if dottedM u.name = false then 7 else if inL u.name seen = true then 8 else if i = 0 ∧ u.name ≠ mainB then 19 else if 30 < (u.steps.length : Int) then 2 else 0
def stepsM : Int → List Stp → Int
  | c, [] => c
  | c, s :: r => stepsM (if c = 0 then stepM s else c) r
def unitM (u : Un) (i : Nat) (seen : List ByteArray) : Int := stepsM (unit0M u i seen) u.steps
def validM : List Un → Nat → List ByteArray → Int × Int
  | [], _, _ => (0, 0)
  | u :: r, i, seen => if unitM u i seen ≠ 0 then (unitM u i seen, i) else validM r (i + 1) (sput seen u.name)
def validateM (l : List Un) : Int × Int := if l.length = 0 then (10, -1) else if 40 < l.length then (2, -1) else validM l 0 []
abbrev uns (l : List Un) : V := .sl 2 (l.map Un.row)
def fd (p : Int × Int) : List D := [.u (.int .i64 p.1), .u (.int .i64 p.2)]
set_option maxHeartbeats 2000000 in
theorem validate_T (l : List Un) : CallsA Tryd.prog 16 [.d (.u (uns l))] [] (Is (.a (fd (validateM l)))) := by
  by_cases h0 : l.length = 0
  · have e : validateM l = (10, -1) := by simp [validateM, h0]
    rw [e]
    refine callsA_of_vc (T := tt) Tryd.func16 rfl rfl rfl rfl rfl ?_
    repeat' ((conv => whnf); first | refine Gs.id ?_ | refine Brn.T (by (try simp only [smT]); first | rfl | omega | fail) ?_ | (refine Bnd.mk (fun hm => ?_); (try simp only [smT] at hm)) | fail)
    all_goals (conv => whnf)
    all_goals first | exact Ret.is rfl | (exfalso; simp_all; omega)
  · by_cases h40 : 40 < l.length
    · have e : validateM l = (2, -1) := by simp [validateM, h0, h40]
      rw [e]
      refine callsA_of_vc (T := tt) Tryd.func16 rfl rfl rfl rfl rfl ?_
      repeat' ((conv => whnf); first | refine Gs.id ?_ | refine Brn.T (by (try simp only [smT]); first | rfl | omega | fail) ?_ | refine Brn.F (by (try simp only [smT]); first | rfl | omega | fail) ?_ | (refine Bnd.mk (fun hm => ?_); (try simp only [smT] at hm)) | fail)
      all_goals (conv => whnf)
      all_goals first | exact Ret.is rfl | (exfalso; simp_all; omega)
    · have e : validateM l = validM l 0 [] := by simp only [validateM]; rw [if_neg h0, if_neg h40]
      rw [e]
      refine callsA_of_vc (T := tt) Tryd.func16 rfl rfl rfl rfl rfl ?_
      repeat' ((conv => whnf); first | refine Gs.id ?_ | refine Brn.F (by (try simp only [smT]); first | rfl | omega | fail) ?_ | (refine Bnd.mk (fun hm => ?_); (try simp only [smT] at hm)) | refine Raw.makeMap (T := tt) rfl rfl rfl rfl rfl rfl (.inl rfl) rfl rfl ?_ | fail)
      all_goals (conv => whnf)
      all_goals first | (exfalso; simp_all; omega) | skip
      refine ⟨⟨Nat × List ByteArray, fun x => x.1 ≤ l.length ∧ validM l 0 [] = validM (l.drop x.1) x.1 x.2, fun x => l.length - x.1, fun x => ⟨[(2, .d (.p 2 0)), (3, .d (.mp 903)), (20, .d (.u (uns l))), (21, di l.length), (22, di x.1)], [(903, .mp false false (ents x.2)), (2, .bx 24 [.u (.int .i64 0), .u (.int .i64 0)])]⟩, (0, []), ⟨by dsimp only; omega, rfl⟩, ⟨[(2, .k 2), (903, .k 19)], ⟨by (try dsimp only); (repeat (refine LeT.cons rfl (by first | exact LeS.d (by first | exact LeD.u rfl | exact LeD.p rfl | exact LeD.u (by simp; done) | exact LeD.mp rfl | fail) | fail) ?_)); exact LeT.nil, by (try dsimp only); repeat (first | exact LeO.nil | refine LeO.bx rfl rfl (by repeat (first | exact LeL.nil | refine LeL.cons (by first | exact LeD.u rfl | fail) ?_)) ?_ | refine LeO.mp rfl rfl (by first | rfl | fail) ?_ | fail)⟩⟩, fun x ⟨hi, he⟩ => ?_⟩⟩
      obtain ⟨i, seen⟩ := x
      dsimp only at *
      by_cases h9 : i < l.length
      · rw [List.drop_eq_getElem_cons h9, validM] at he
        have hrow : ∀ {K : List V → Prop}, K (l[i]).row → Ix (l.map Un.row) (i : Int) K := fun k => Ix.map rfl h9 k
        generalize l[i] = u at *
        obtain ⟨n, st⟩ := u
        have hd := dotted_T n
        obtain ⟨m1, m2, m3⟩ := ents_get n seen
        have hok := ents_ok seen
        have hm := main_beq n
        dsimp only at he
        rw [he]
        generalize hC : unitM ⟨n, st⟩ i seen = C
        rw [unitM] at hC
        simp only [unit0M] at hC
        generalize hV : validM (l.drop (i + 1)) (i + 1) (sput seen n) = W
        refine' cutR (fun c0 : Int => stepsM c0 st = C) (fun c0 => ⟨[(2, .d (.p 2 0)), (3, .d (.mp 903)), (4, di i), (5, .d (.p 5 0)), (6, di c0), (20, .d (.u (uns l))), (21, di l.length), (22, di i)], [(5, .bx 49 [.u (.str n), .u (.sl 3 (st.map Stp.row))]), (903, .mp false false (ents seen)), (2, .bx 24 [.u (.int .i64 0), .u (.int .i64 0)])]⟩) _ (fun hR => ?_) ?_
        rotate_left
        · repeat' ((conv => whnf); first | refine hrow ?_ | refine Mlk.of _ _ (by kernel_rfl) hok m1 m2 ?_ | exact Gs.cut (i := 18) (by assumption) _ [(2, .k 2), (903, .k 903), (5, .k 5)] rfl ⟨by (try dsimp only); (repeat (refine LeT.cons rfl (by first | exact LeS.d (by first | exact LeD.u rfl | exact LeD.p rfl | exact LeD.mp rfl | fail) | fail) ?_)); (first | exact LeT.nil | fail), by (try dsimp only); (repeat (first | exact LeO.nil | refine LeO.bx rfl rfl (by repeat (first | exact LeL.nil | refine LeL.cons (by first | exact LeD.u rfl | fail) ?_)) ?_ | refine LeO.mp rfl rfl (by first | rfl | fail) ?_ | fail)); done⟩ (by clear hR hrow; subst hC; first | (simp_all; done) | (simp_all; rw [if_neg (by omega)])) | refine Gs.id ?_ | with_reducible refine Brn.F rfl ?_ | refine Brn.T (by (try simp only [smT]); first | rfl | assumption | omega | fail) ?_ | refine Brn.F (by (try simp only [smT]); first | rfl | assumption | fail) ?_ | (refine Brn.mk (fun hb => ?_) (fun hb => ?_) <;> (try simp only [smT] at hb) <;> (try (exact absurd trivial hb)) <;> (try (exfalso; omega))) | (refine Bnd.mk (fun hm => ?_); (try simp only [smT] at hm)) | (refine CL.mk (Or.inl ?_); (conv => whnf); refine Cl.is (hd) rfl (by first | exact fun _ => rfl | fail) ?_) | fail)
        · intro c0 hC
          dsimp only
          clear hd m1 m2 hrow hm
          repeat' ((conv => whnf); first | refine Gs.id ?_ | (refine Bnd.mk (fun hm => ?_); (try simp only [smT] at hm)) | refine Raw.mapUpdate (T := tt) (.inl rfl) rfl rfl rfl rfl rfl rfl rfl rfl rfl rfl rfl (by assumption) ?_ | fail)
          all_goals (conv => whnf)
          refine ⟨⟨Nat × Int, fun x => x.1 ≤ st.length ∧ stepsM x.2 (st.drop x.1) = C, fun x => st.length - x.1, fun x => ⟨[(2, .d (.p 2 0)), (3, .d (.mp 903)), (4, di i), (6, di x.2), (20, .d (.u (uns l))), (21, di l.length), (22, di i), (54, .d (.u (.sl 3 (st.map Stp.row)))), (55, di st.length), (56, di x.1)], [(903, .mp false false (ents (sput seen n))), (2, .bx 24 [.u (.int .i64 0), .u (.int .i64 0)])]⟩, (0, c0), ⟨Nat.zero_le _, hC⟩, ⟨[(2, .k 2), (903, .k 903)], ⟨by (try dsimp only); (repeat (refine LeT.cons rfl (by first | exact LeS.d (by first | exact LeD.u rfl | exact LeD.p rfl | exact LeD.u (by simp [m3]; done) | exact LeD.mp rfl | fail) | fail) ?_)); exact LeT.nil, by (try dsimp only); repeat (first | exact LeO.nil | refine LeO.bx rfl rfl (by repeat (first | exact LeL.nil | refine LeL.cons (by first | exact LeD.u rfl | fail) ?_)) ?_ | refine LeO.mp rfl rfl (by first | simp [m3]) ?_ | fail)⟩⟩, fun x ⟨hq, hx⟩ => ?_⟩⟩
          obtain ⟨q, c⟩ := x
          dsimp only at *
          clear hok m3
          by_cases h10 : q < st.length
          · rw [List.drop_eq_getElem_cons h10, stepsM] at hx
            have hrow2 : ∀ {K : List V → Prop}, K (st[q]).row → Ix (st.map Stp.row) (q : Int) K := fun k => Ix.map rfl h10 k
            have hs := step_T st[q]
            generalize st[q] = s at *
            obtain ⟨a1, a2, a3⟩ := s
            dsimp only at hs
            generalize stepM ⟨a1, a2, a3⟩ = cc at *
            repeat' ((conv => whnf); first | refine hrow2 ?_ | refine Gs.id ?_ | refine Brn.T (by (try simp only [smT]); first | rfl | omega | fail) ?_ | (refine Brn.mk (fun hb => ?_) (fun hb => ?_) <;> (try simp only [smT] at hb) <;> (try (exact absurd trivial hb)) <;> (try (exfalso; omega))) | refine Rng.mk (by (try simp only [smT]); omega) ?_ | (refine CL.mk (Or.inl ?_); (conv => whnf); refine Cl.is (hs) rfl (by first | exact fun _ => rfl | fail) ?_) | fail)
            all_goals (conv => whnf)
            · rw [if_pos (by assumption)] at hx
              exact ⟨(q + 1, cc), ⟨by dsimp only; omega, hx⟩, by dsimp only; omega, [(2, .k 2), (903, .k 903)], ⟨by (try dsimp only); (repeat (refine LeT.cons rfl (by first | exact LeS.d (by first | exact LeD.u rfl | exact LeD.p rfl | exact LeD.mp rfl | fail) | fail) ?_)); exact LeT.nil, by (try dsimp only); repeat (first | exact LeO.nil | refine LeO.bx rfl rfl (by repeat (first | exact LeL.nil | refine LeL.cons (by first | exact LeD.u rfl | fail) ?_)) ?_ | refine LeO.mp rfl rfl (by first | rfl | fail) ?_ | fail)⟩⟩
            · rw [if_neg (by simpa using (by assumption))] at hx
              exact ⟨(q + 1, c), ⟨by dsimp only; omega, hx⟩, by dsimp only; omega, [(2, .k 2), (903, .k 903)], ⟨by (try dsimp only); (repeat (refine LeT.cons rfl (by first | exact LeS.d (by first | exact LeD.u rfl | exact LeD.p rfl | exact LeD.mp rfl | fail) | fail) ?_)); exact LeT.nil, by (try dsimp only); repeat (first | exact LeO.nil | refine LeO.bx rfl rfl (by repeat (first | exact LeL.nil | refine LeL.cons (by first | exact LeD.u rfl | fail) ?_)) ?_ | refine LeO.mp rfl rfl (by first | rfl | fail) ?_ | fail)⟩⟩
          · obtain rfl : q = st.length := by omega
            rw [List.drop_length, stepsM] at hx
            subst hx
            repeat' ((conv => whnf); first | refine Gs.id ?_ | refine Brn.F (by (try simp only [smT]); first | rfl | omega | fail) ?_ | (refine Brn.mk (fun hb => ?_) (fun hb => ?_) <;> (try simp only [smT] at hb) <;> (try (exact absurd trivial hb)) <;> (try (exfalso; omega))) | refine Rng.mk (by (try simp only [smT]); omega) ?_ | fail)
            all_goals (conv => whnf)
            · rw [if_pos (by simpa using (by assumption))]; exact Ret.is rfl
            · exact ⟨(i + 1, sput seen n), ⟨by dsimp only; omega, by dsimp only; rw [if_neg (by simpa using (by assumption))]; exact hV.symm⟩, by dsimp only; omega, [(2, .k 2), (903, .k 903)], ⟨by (try dsimp only); (repeat (refine LeT.cons rfl (by first | exact LeS.d (by first | exact LeD.u rfl | exact LeD.p rfl | exact LeD.mp rfl | fail) | fail) ?_)); exact LeT.nil, by (try dsimp only); repeat (first | exact LeO.nil | refine LeO.bx rfl rfl (by repeat (first | exact LeL.nil | refine LeL.cons (by first | exact LeD.u rfl | fail) ?_)) ?_ | refine LeO.mp rfl rfl (by first | rfl | fail) ?_ | fail)⟩⟩
      · obtain rfl : i = l.length := by omega
        rw [List.drop_length, validM] at he
        rw [he]
        repeat' ((conv => whnf); first | refine Gs.id ?_ | refine Brn.F (by (try simp only [smT]); first | rfl | omega | fail) ?_ | fail)
        all_goals (conv => whnf)
        all_goals exact Ret.is rfl
end Go.Proofs.YtgloielnnakknaaDoor
namespace Go.Proofs.YtgloielnnakknaaDoor
open Go.RowKit
/-- An attribute: a module's number, or none. -/
structure At where
  name : ByteArray
  mod : Option Nat
def ptrV : Option Nat → V
  | none => .pn
  | some i => .m 2 i 0
abbrev At.v (a : At) : List V := [.str a.name, ptrV a.mod]
structure Md where
  name : ByteArray
  run : Int
  ats : List At
abbrev Md.row (m : Md) : List E := [.v (.str m.name), .v (.int .i64 m.run), .os 84 2 (m.ats.map At.v)]
structure Ev where
  kind : Int
  name : ByteArray
abbrev Ev.v (e : Ev) : List V := [.int .i64 e.kind, .str e.name]
abbrev uents (us : List Un) : List (List V × List V) := us.map fun u => ([V.str u.name], u.row)
abbrev ptr1 (t : List Nat) : List (List V) := t.map fun i => [V.m 2 i 0]
abbrev ldRow (us : List Un) (table : List Nat) (log : List Ev) (full : Bool) : List E := [.v (.fz true (uents us)), .os 71 1 (ptr1 table), .os 43 2 (log.map Ev.v), .v (.bool full)]
abbrev ldOb (us : List Un) (mods : List Md) (table : List Nat) (log : List Ev) (full : Bool) : List (Nat × Ob) := [(1, .fm 63 [ldRow us table log full]), (2, .fm 82 (mods.map Md.row))]
abbrev ldP : SV := .d (.u (.m 1 0 0))
abbrev mdP (i : Nat) : SV := .d (.u (.m 2 i 0))
def noteFull (log : List Ev) (full : Bool) : Bool := full || decide (log.length = 5000)
def noteLog (log : List Ev) (full : Bool) (k : Int) (n : ByteArray) : List Ev := if noteFull log full = true then log else log ++ [⟨k, n⟩]
theorem note_T (us : List Un) (mods : List Md) (table : List Nat) (log : List Ev) (full : Bool) (k : Int) (n : ByteArray) (hl : log.length ≤ 5000) : CallsA Tryd.prog 48 [ldP, di k, dsr n] (ldOb us mods table log full) (Iso (.t []) (ldOb us mods table (noteLog log full k n) (noteFull log full))) := by
  cases full
  · by_cases h5 : log.length = 5000
    · have e : noteFull log false = true := by simp [noteFull, h5]
      have e2 : noteLog log false k n = log := by simp [noteLog, e]
      rw [e, e2]
      have h5' : (log.length : Int) = 5000 := by omega
      refine callsA_of_vcO (T := tt) Tryd.func48 rfl rfl rfl rfl rfl ?_
      repeat' ((conv => whnf); first | refine Gs.id ?_ | with_reducible refine Brn.F rfl ?_ | refine Brn.F (by (try simp only [smT]); first | rfl | assumption | fail) ?_ | (refine Bnd.mk (fun hm => ?_); (try simp only [smT] at hm)) | refine Rw.lit rfl ?_ | fail)
      all_goals (conv => whnf)
      all_goals exact RetO.mk ⟨[], _, _, .ts .nil, LeO.fm rfl (by simp [h5']) (LeO.fm rfl rfl .nil), rfl, rfl⟩
    · have e : noteFull log false = false := by simp [noteFull, h5]
      have e2 : noteLog log false k n = log ++ [⟨k, n⟩] := by simp [noteLog, e]
      rw [e, e2]
      have h5' : ¬ (log.length : Int) = 5000 := by omega
      refine callsA_of_vcO (T := tt) Tryd.func48 rfl rfl rfl rfl rfl ?_
      repeat' ((conv => whnf); first | refine Gs.id ?_ | with_reducible refine Brn.F rfl ?_ | refine Brn.T (by (try simp only [smT]); first | rfl | assumption | fail) ?_ | (refine Bnd.mk (fun hm => ?_); (try simp only [smT] at hm)) | refine Rw.lit rfl ?_ | refine Len.mk (by first | rfl | fail) ?_ | refine Apd.mk (by first | rfl | fail) (by first | rfl | fail) (by (try simp only [smT]); first | omega | fail) (by unfold maxLen; first | (simp; omega) | fail) ?_ | (refine Raw.appendR (T := tt) ?_; (conv => whnf); first | refine Rw.lit rfl ?_ | fail) | fail)
      all_goals (conv => whnf)
      all_goals exact RetO.mk ⟨[], _, _, .ts .nil, LeO.fm rfl (by simp [h5']) (LeO.fm rfl rfl .nil), rfl, rfl⟩
  · have e : noteFull log true = true := by simp [noteFull]
    have e2 : noteLog log true k n = log := by simp [noteLog, e]
    rw [e, e2]
    refine callsA_of_vcO (T := tt) Tryd.func48 rfl rfl rfl rfl rfl ?_
    repeat' ((conv => whnf); first | refine Gs.id ?_ | with_reducible refine Brn.T rfl ?_ | with_reducible refine Brn.F rfl ?_ | refine Rw.lit rfl ?_ | fail)
    all_goals (conv => whnf)
    all_goals exact RetO.mk ⟨[], _, _, .ts .nil, LeO.fm rfl (by simp) (LeO.fm rfl rfl .nil), rfl, rfl⟩
end Go.Proofs.YtgloielnnakknaaDoor
namespace Go.Proofs.YtgloielnnakknaaDoor
open Go.RowKit
/-- Where the first attribute of a name stands, from i on; -1: nowhere. -/
def aix (n : ByteArray) : List At → Nat → Int
  | [], _ => -1
  | a :: r, i => if a.name = n then i else aix n r (i + 1)
abbrev fnA (n : ByteArray) : V := .cl 70 [[.str n]]
theorem afind1_T (a : At) (n : ByteArray) : CallsA Tryd.prog 70 [.a [.u (.str a.name), .u (ptrV a.mod)], .d (.q [.str n] 0)] [] (Is (db (decide (a.name = n)))) := by
  have e : (a.name.toList == n.toList) = decide (a.name = n) := toList_beq a.name n
  rw [← e]
  refine callsA_of_vc (T := tt) Tryd.func70 rfl rfl rfl rfl rfl ?_
  repeat' ((conv => whnf); first | refine Gs.id ?_ | fail)
  all_goals (conv => whnf)
  · exact Ret.is rfl
end Go.Proofs.YtgloielnnakknaaDoor
namespace Go.Proofs.YtgloielnnakknaaDoor
open Go.RowKit
theorem Rw_md {l : List Md} {n : Nat} {t : Md} {K : List E → Prop} (h : l[n]? = some t) (k : K t.row) : Rw (l.map Md.row) n K := ⟨_, by simp [h], k⟩
abbrev mdOb (mods : List Md) : List (Nat × Ob) := [(2, .fm 82 (mods.map Md.row))]
/-- The slice stays where it is. -/
theorem aindexR_T (mods : List Md) (i0 : Nat) (mn : ByteArray) (mr : Int) (l : List At) (hmd : mods[i0]? = some ⟨mn, mr, l⟩) (n : ByteArray) (hl : l.length ≤ 1000000) (n0 : Nat) (e0 : n0 = l.length) : CallsA Tryd.prog 69 [.d (.r 2 i0 2 2 n0), .d (.u (fnA n))] (mdOb mods) (Iso (di (aix n l 0)) (mdOb mods)) := by
  subst e0
  refine callsA_of_vcO (T := tt) Tryd.func69 rfl rfl rfl rfl rfl ?_
  repeat' ((conv => whnf); first | refine Gs.id ?_ | (refine Bnd.mk (fun hm => ?_); (try simp only [smT] at hm)) | fail)
  all_goals (conv => whnf)
  refine ⟨⟨Nat, fun i => i ≤ l.length ∧ aix n l 0 = aix n (l.drop i) i, fun i => l.length - i, fun i => ⟨[(0, .d (.r 2 i0 2 2 l.length)), (1, .d (.u (fnA n))), (7, di l.length), (8, di i)], mdOb mods⟩, 0, ⟨Nat.zero_le _, rfl⟩, ⟨[(2, .k 2)], ⟨by (try dsimp only); (repeat (refine LeT.cons rfl (by first | exact LeS.d (by first | exact LeD.u rfl | exact LeD.r rfl | fail) | fail) ?_)); exact LeT.nil, by (try dsimp only); repeat (first | exact LeO.nil | refine LeO.fm rfl (by first | rfl | fail) ?_ | fail)⟩⟩, fun i hi => ?_⟩⟩
  obtain ⟨hi, he⟩ := hi
  dsimp only
  rw [he]
  by_cases h9 : i < l.length
  · rw [List.drop_eq_getElem_cons h9, aix]
    obtain ⟨⟨an, am⟩, hji⟩ : ∃ j, l[i] = j := ⟨_, rfl⟩
    have hrow : ∀ {K : List V → Prop}, K (At.v ⟨an, am⟩) → Rw (l.map At.v) i K := fun k => ⟨_, by rw [List.getElem?_map, List.getElem?_eq_getElem h9, hji]; rfl, k⟩
    have hn := afind1_T ⟨an, am⟩ n
    rw [hji]
    dsimp only [At.v] at hn ⊢
    by_cases hx : an = n
    · rw [decide_eq_true hx] at hn
      rw [if_pos hx]
      repeat' ((conv => whnf); first | refine hrow ?_ | refine Rw_md hmd ?_ | refine Gs.id ?_ | with_reducible refine Brn.T rfl ?_ | refine Brn.T (by (try simp only [smT]); first | rfl | omega | fail) ?_ | refine Ixo.mk ⟨_, rfl, (by (try simp only [smT]); omega), ?_⟩ | (refine Raw.callF [] [] rfl rfl rfl rfl rfl rfl rfl rfl (hn) ?_; rintro _ _ ⟨rfl, rfl⟩; refine Bk.mk rfl rfl ?_))
      all_goals (conv => whnf)
      all_goals exact RetO.mk ⟨[], _, _, (by first | exact LeS.d (by first | exact LeD.u rfl | fail) | fail), LeO.fm rfl rfl .nil, rfl, rfl⟩
    · rw [decide_eq_false hx] at hn
      rw [if_neg hx]
      repeat' ((conv => whnf); first | refine hrow ?_ | refine Rw_md hmd ?_ | refine Gs.id ?_ | with_reducible refine Brn.F rfl ?_ | refine Brn.T (by (try simp only [smT]); first | rfl | omega | fail) ?_ | refine Rng.mk (by (try simp only [smT]); omega) ?_ | refine Ixo.mk ⟨_, rfl, (by (try simp only [smT]); omega), ?_⟩ | (refine Raw.callF [] [] rfl rfl rfl rfl rfl rfl rfl rfl (hn) ?_; rintro _ _ ⟨rfl, rfl⟩; refine Bk.mk rfl rfl ?_))
      all_goals (conv => whnf)
      all_goals exact ⟨i + 1, ⟨by omega, rfl⟩, by omega, [(2, .k 2)], ⟨by (try dsimp only); (repeat (refine LeT.cons rfl (by first | exact LeS.d (by first | exact LeD.u rfl | exact LeD.r rfl | fail) | fail) ?_)); exact LeT.nil, by (try dsimp only); repeat (first | exact LeO.nil | refine LeO.fm rfl (by first | rfl | fail) ?_ | fail)⟩⟩
  · obtain rfl : i = l.length := by omega
    rw [List.drop_length, aix]
    repeat' ((conv => whnf); first | refine Gs.id ?_ | refine Brn.F (by (try simp only [smT]); first | rfl | omega | fail) ?_ | fail)
    all_goals (conv => whnf)
    all_goals exact RetO.mk ⟨[], _, _, (by first | exact LeS.d (by first | exact LeD.u rfl | fail) | fail), LeO.fm rfl rfl .nil, rfl, rfl⟩
theorem mfind_T (us : List Un) (mods : List Md) (table : List Nat) (log : List Ev) (full : Bool) (i : Nat) (mn : ByteArray) (mr : Int) (ma : List At) (hmd : mods[i]? = some ⟨mn, mr, ma⟩) (hl : ma.length ≤ 1000000) (n : ByteArray) : CallsA Tryd.prog 60 [mdP i, dsr n] (ldOb us mods table log full) (Iso (di (aix n ma 0)) (ldOb us mods table log full)) := by
  have hx := aindexR_T mods i mn mr ma hmd n hl
  generalize aix n ma 0 = r at *
  refine callsA_of_vcO (T := tt) Tryd.func60 rfl rfl rfl rfl rfl ?_
  repeat' ((conv => whnf); first | refine Rw_md hmd ?_ | refine Gs.go (i := 1) (Ghost.frzB 3 rfl rfl) ?_ | refine Gs.id ?_ | (refine CL.mk (Or.inr (Raw.callI [2] [2] rfl rfl rfl rfl rfl rfl rfl (hx _ (by simp)) ?_)); rintro _ _ ⟨rfl, rfl⟩; refine Bk.mk rfl rfl ?_))
  all_goals (conv => whnf)
  all_goals exact RetO.mk ⟨[], _, _, (by first | exact LeS.d (by first | exact LeD.u rfl | fail) | fail), LeO.fm rfl rfl (LeO.fm rfl rfl .nil), rfl, rfl⟩
def nmOf (mods : List Md) (j : Nat) : Option ByteArray := (mods[j]?).map Md.name
/-- Where the first of these modules stands that has the name, among these numbers. -/
def tix (mods : List Md) (n : ByteArray) : List Nat → Nat → Int
  | [], _ => -1
  | j :: r, i => if nmOf mods j = some n then i else tix mods n r (i + 1)
abbrev fnL (n : ByteArray) : V := .cl 73 [[.str n]]
theorem lfind1_T (mods : List Md) (j : Nat) (mn : ByteArray) (mr : Int) (ma : List At) (hmd : mods[j]? = some ⟨mn, mr, ma⟩) (n : ByteArray) : CallsA Tryd.prog 73 [mdP j, .d (.q [.str n] 0)] (mdOb mods) (Iso (db (decide (mn = n))) (mdOb mods)) := by
  have e : (mn.toList == n.toList) = decide (mn = n) := toList_beq mn n
  rw [← e]
  refine callsA_of_vcO (T := tt) Tryd.func73 rfl rfl rfl rfl rfl ?_
  repeat' ((conv => whnf); first | refine Rw_md hmd ?_ | refine Gs.id ?_ | refine Drw.of (T := tt) (i := 1) [] [] [(0, true), (1, true), (2, true), (3, true), (4, true), (5, true), (6, true)] (by kernel_rfl) ?_)
  all_goals (conv => whnf)
  all_goals exact RetO.mk ⟨[], _, _, (by first | exact LeS.d (by first | exact LeD.u rfl | fail) | fail), LeO.fm rfl rfl .nil, rfl, rfl⟩
theorem lindex_T (us : List Un) (mods : List Md) (table : List Nat) (log : List Ev) (full : Bool) (n : ByteArray) (hl : table.length ≤ 1000000) (ht : ∀ j ∈ table, j < mods.length) : CallsA Tryd.prog 72 [.d (.r 1 0 1 1 table.length), .d (.u (fnL n))] (ldOb us mods table log full) (Iso (di (tix mods n table 0)) (ldOb us mods table log full)) := by
  refine callsA_of_vcO (T := tt) Tryd.func72 rfl rfl rfl rfl rfl ?_
  repeat' ((conv => whnf); first | refine Gs.id ?_ | (refine Bnd.mk (fun hm => ?_); (try simp only [smT] at hm)) | fail)
  all_goals (conv => whnf)
  refine ⟨⟨Nat, fun i => i ≤ table.length ∧ tix mods n table 0 = tix mods n (table.drop i) i, fun i => table.length - i, fun i => ⟨[(0, .d (.r 1 0 1 1 table.length)), (1, .d (.u (fnL n))), (7, di table.length), (8, di i)], ldOb us mods table log full⟩, 0, ⟨Nat.zero_le _, rfl⟩, ⟨[(1, .k 1), (2, .k 2)], ⟨by (try dsimp only); (repeat (refine LeT.cons rfl (by first | exact LeS.d (by first | exact LeD.u rfl | exact LeD.r rfl | fail) | fail) ?_)); exact LeT.nil, by (try dsimp only); repeat (first | exact LeO.nil | refine LeO.fm rfl (by first | rfl | fail) ?_ | fail)⟩⟩, fun i hi => ?_⟩⟩
  obtain ⟨hi, he⟩ := hi
  dsimp only
  rw [he]
  by_cases h9 : i < table.length
  · rw [List.drop_eq_getElem_cons h9, tix]
    obtain ⟨j, hji⟩ : ∃ j, table[i] = j := ⟨_, rfl⟩
    have hrow : ∀ {K : List V → Prop}, K [V.m 2 j 0] → Rw (ptr1 table) i K := fun k => ⟨_, by rw [List.getElem?_map, List.getElem?_eq_getElem h9, hji]; rfl, k⟩
    have hj := ht _ (List.getElem_mem h9)
    rw [hji] at hj ⊢
    obtain ⟨⟨mn, mr, ma⟩, hmd⟩ : ∃ m, mods[j]? = some m := ⟨_, List.getElem?_eq_getElem hj⟩
    have hn := lfind1_T mods j mn mr ma hmd n
    have hnm : nmOf mods j = some mn := by simp [nmOf, hmd]
    by_cases hx : mn = n
    · rw [decide_eq_true hx] at hn
      rw [if_pos (by rw [hnm, hx])]
      repeat' ((conv => whnf); first | refine hrow ?_ | refine Gs.id ?_ | with_reducible refine Brn.T rfl ?_ | refine Brn.T (by (try simp only [smT]); first | rfl | omega | fail) ?_ | refine Ixo.mk ⟨_, rfl, (by (try simp only [smT]); omega), ?_⟩ | refine Rw.lit rfl ?_ | (refine Raw.callF [2] [2] rfl rfl rfl rfl rfl rfl rfl rfl (hn) ?_; rintro _ _ ⟨rfl, rfl⟩; refine Bk.mk rfl rfl ?_))
      all_goals (conv => whnf)
      all_goals exact RetO.mk ⟨[], _, _, (by first | exact LeS.d (by first | exact LeD.u rfl | fail) | fail), LeO.fm rfl rfl (LeO.fm rfl rfl .nil), rfl, rfl⟩
    · rw [decide_eq_false hx] at hn
      rw [if_neg (by rw [hnm]; simpa using hx)]
      repeat' ((conv => whnf); first | refine hrow ?_ | refine Gs.id ?_ | with_reducible refine Brn.F rfl ?_ | refine Brn.T (by (try simp only [smT]); first | rfl | omega | fail) ?_ | refine Rng.mk (by (try simp only [smT]); omega) ?_ | refine Ixo.mk ⟨_, rfl, (by (try simp only [smT]); omega), ?_⟩ | refine Rw.lit rfl ?_ | (refine Raw.callF [2] [2] rfl rfl rfl rfl rfl rfl rfl rfl (hn) ?_; rintro _ _ ⟨rfl, rfl⟩; refine Bk.mk rfl rfl ?_))
      all_goals (conv => whnf)
      all_goals exact ⟨i + 1, ⟨by omega, rfl⟩, by omega, [(1, .k 1), (2, .k 2)], ⟨by (try dsimp only); (repeat (refine LeT.cons rfl (by first | exact LeS.d (by first | exact LeD.u rfl | exact LeD.r rfl | fail) | fail) ?_)); exact LeT.nil, by (try dsimp only); repeat (first | exact LeO.nil | refine LeO.fm rfl (by first | rfl | fail) ?_ | fail)⟩⟩
  · obtain rfl : i = table.length := by omega
    rw [List.drop_length, tix]
    repeat' ((conv => whnf); first | refine Gs.id ?_ | refine Brn.F (by (try simp only [smT]); first | rfl | omega | fail) ?_ | fail)
    all_goals (conv => whnf)
    all_goals exact RetO.mk ⟨[], _, _, (by first | exact LeS.d (by first | exact LeD.u rfl | fail) | fail), LeO.fm rfl rfl (LeO.fm rfl rfl .nil), rfl, rfl⟩
end Go.Proofs.YtgloielnnakknaaDoor
namespace Go.Proofs.YtgloielnnakknaaDoor
open Go.RowKit
def setA : List At → ByteArray → Option Nat → List At
  | [], n, v => [⟨n, v⟩]
  | a :: r, n, v => if a.name = n then ⟨n, v⟩ :: r else a :: setA r n v
def lookA : List At → ByteArray → Option (Option Nat)
  | [], _ => none
  | a :: r, n => if a.name = n then some a.mod else lookA r n
def dropA : List At → ByteArray → List At
  | [], _ => []
  | a :: r, n => if a.name = n then r else a :: dropA r n
theorem aix_cases (n : ByteArray) : ∀ (l : List At) (k : Nat), (aix n l k = -1 ∧ lookA l n = none ∧ dropA l n = l ∧ (∀ v, setA l n v = l ++ [⟨n, v⟩]) ∧ ∀ a ∈ l, ¬ a.name = n) ∨ ∃ (i : Nat) (a : At), l[i]? = some a ∧ aix n l k = ((k + i : Nat) : Int) ∧ a.name = n ∧ lookA l n = some a.mod ∧ dropA l n = l.eraseIdx i ∧ ∀ v, setA l n v = l.set i ⟨n, v⟩
  | [], k => .inl ⟨rfl, rfl, rfl, fun _ => rfl, fun _ h => by cases h⟩
  | a :: r, k => by
    by_cases h : a.name = n
    · exact .inr ⟨0, a, rfl, by simp [aix, h], h, by simp [lookA, h], by simp [dropA, h], fun v => by simp [setA, h]⟩
    · rcases aix_cases n r (k + 1) with ⟨h1, h2, h3, h4, h5⟩ | ⟨i, b, h1, h2, h3, h4, h5, h6⟩
      · exact .inl ⟨by rw [aix, if_neg h, h1], by rw [lookA, if_neg h, h2], by rw [dropA, if_neg h, h3], fun v => by rw [setA, if_neg h, h4]; rfl, fun x hx => by
          rcases List.mem_cons.1 hx with rfl | hx
          · exact h
          · exact h5 x hx⟩
      · exact .inr ⟨i + 1, b, by simpa using h1, by rw [aix, if_neg h, h2]; congr 1; omega, h3, by rw [lookA, if_neg h, h4], by rw [dropA, if_neg h, h5]; rfl, fun v => by rw [setA, if_neg h, h6]; rfl⟩
def tfind (mods : List Md) (n : ByteArray) : List Nat → Option Nat
  | [] => none
  | j :: r => if nmOf mods j = some n then some j else tfind mods n r
theorem tix_cases (mods : List Md) (n : ByteArray) : ∀ (l : List Nat) (k : Nat), (tix mods n l k = -1 ∧ tfind mods n l = none) ∨ ∃ (i j : Nat), l[i]? = some j ∧ tix mods n l k = ((k + i : Nat) : Int) ∧ tfind mods n l = some j ∧ nmOf mods j = some n
  | [], k => .inl ⟨rfl, rfl⟩
  | j :: r, k => by
    by_cases h : nmOf mods j = some n
    · exact .inr ⟨0, j, rfl, by simp [tix, h], by simp [tfind, h], h⟩
    · rcases tix_cases mods n r (k + 1) with ⟨h1, h2⟩ | ⟨i, b, h1, h2, h3, h4⟩
      · exact .inl ⟨by rw [tix, if_neg h, h1], by rw [tfind, if_neg h, h2]⟩
      · exact .inr ⟨i + 1, b, by simpa using h1, by rw [tix, if_neg h, h2]; congr 1; omega, by rw [tfind, if_neg h, h3], h4⟩
theorem Rw_get {l : List Nat} {i j : Nat} {K : List V → Prop} (h : l[i]? = some j) (k : K [V.m 2 j 0]) : Rw (ptr1 l) i K := ⟨_, by simp [h], k⟩
theorem lt_get {α : Type} {l : List α} {n : Nat} {t : α} (h : l[n]? = some t) : n < l.length := (List.getElem?_eq_some_iff.1 h).1
theorem lfind_T (us : List Un) (mods : List Md) (table : List Nat) (log : List Ev) (full : Bool) (n : ByteArray) (hl : table.length ≤ 1000000) (ht : ∀ j ∈ table, j < mods.length) : CallsA Tryd.prog 62 [ldP, dsr n] (ldOb us mods table log full) (Iso (.d (.u (ptrV (tfind mods n table)))) (ldOb us mods table log full)) := by
  have hx : ∀ n0, n0 = table.length → CallsA Tryd.prog 72 [.d (.r 1 0 1 1 n0), .d (.u (fnL n))] (ldOb us mods table log full) (Iso (di (tix mods n table 0)) (ldOb us mods table log full)) := fun n0 e => by
    rw [e]; exact lindex_T us mods table log full n hl ht
  rcases tix_cases mods n table 0 with ⟨h1, h2⟩ | ⟨i, j, h1, h2, h3, _⟩
  · rw [h1] at hx
    rw [h2]
    refine callsA_of_vcO (T := tt) Tryd.func62 rfl rfl rfl rfl rfl ?_
    repeat' ((conv => whnf); first | refine Gs.go (i := 1) (Ghost.frzB 3 rfl rfl) ?_ | refine Gs.id ?_ | with_reducible refine Brn.T rfl ?_ | refine Rw.lit rfl ?_ | (refine CL.mk (Or.inr (Raw.callI [1,2] [1,2] rfl rfl rfl rfl rfl rfl rfl (hx _ (by simp)) ?_)); rintro _ _ ⟨rfl, rfl⟩; refine Bk.mk rfl rfl ?_))
    all_goals (conv => whnf)
    all_goals exact RetO.mk ⟨[], _, _, (by first | exact LeS.d (by first | exact LeD.u rfl | fail) | fail), LeO.fm rfl rfl (LeO.fm rfl rfl .nil), rfl, rfl⟩
  · rw [h2, Nat.zero_add] at hx
    rw [h3]
    have hil := lt_get h1
    refine callsA_of_vcO (T := tt) Tryd.func62 rfl rfl rfl rfl rfl ?_
    repeat' ((conv => whnf); first | refine Rw_get h1 ?_ | refine Gs.go (i := 1) (Ghost.frzB 3 rfl rfl) ?_ | refine Gs.id ?_ | with_reducible refine Brn.F rfl ?_ | refine Ixo.mk ⟨_, rfl, (by (try simp only [smT]); omega), ?_⟩ | refine Rw.lit rfl ?_ | (refine CL.mk (Or.inr (Raw.callI [1,2] [1,2] rfl rfl rfl rfl rfl rfl rfl (hx _ (by simp)) ?_)); rintro _ _ ⟨rfl, rfl⟩; refine Bk.mk rfl rfl ?_))
    all_goals (conv => whnf)
    all_goals exact RetO.mk ⟨[], _, _, (by first | exact LeS.d (by first | exact LeD.u rfl | fail) | fail), LeO.fm rfl rfl (LeO.fm rfl rfl .nil), rfl, rfl⟩
theorem mset_T (us : List Un) (mods : List Md) (table : List Nat) (log : List Ev) (full : Bool) (i : Nat) (mn : ByteArray) (mr : Int) (ma : List At) (hmd : mods[i]? = some ⟨mn, mr, ma⟩) (hl : ma.length ≤ 1000000) (n : ByteArray) (v : Option Nat) : CallsA Tryd.prog 59 [mdP i, dsr n, .d (.u (ptrV v))] (ldOb us mods table log full) (Iso (.t []) (ldOb us (mods.set i ⟨mn, mr, setA ma n v⟩) table log full)) := by
  have hx := mfind_T us mods table log full i mn mr ma hmd hl n
  have hi := lt_get hmd
  rcases aix_cases n ma 0 with ⟨h1, _, _, h4, _⟩ | ⟨k, a, h1, h2, h3, _, _, h6⟩
  · rw [h1] at hx
    rw [h4]
    refine callsA_of_vcO (T := tt) Tryd.func59 rfl rfl rfl rfl rfl ?_
    repeat' ((conv => whnf); first | refine Rw_md hmd ?_ | refine Gs.id ?_ | with_reducible refine Brn.F rfl ?_ | refine Rw.self (by (try simp only [smT]); omega) ?_ | refine Len.mk (by first | rfl | fail) ?_ | refine Apd.mk (by first | rfl | fail) (by first | rfl | fail) (by (try simp only [smT]); first | omega | fail) (by unfold maxLen; first | (simp; omega) | fail) ?_ | (refine Raw.appendR (T := tt) ?_; (conv => whnf); first | refine Rw_md hmd ?_ | fail) | (refine CL.mk (Or.inr (Raw.callI [1,2] [1,2] rfl rfl rfl rfl rfl rfl rfl (hx) ?_)); rintro _ _ ⟨rfl, rfl⟩; refine Bk.mk rfl rfl ?_))
    all_goals (conv => whnf)
    all_goals exact RetO.mk ⟨[], _, _, .ts .nil, LeO.fm rfl rfl (LeO.fm rfl (by simp [List.map_set, Md.row]) .nil), rfl, rfl⟩
  · rw [h2, Nat.zero_add] at hx
    rw [h6]
    have hkl := lt_get h1
    obtain ⟨an, am⟩ := a
    dsimp only at h3
    subst h3
    refine callsA_of_vcO (T := tt) Tryd.func59 rfl rfl rfl rfl rfl ?_
    repeat' ((conv => whnf); first | refine Raw.storeRe (T := tt) (i := ⟨_, 1, _, _⟩) (row := Md.row ⟨mn, mr, ma⟩) (r2 := At.v ⟨an, am⟩) rfl rfl rfl rfl rfl rfl rfl rfl (by rw [List.getElem?_map, hmd]; rfl) rfl (by rw [List.getElem?_map, h1]; rfl) (by simp) ?_ | refine Rw_md hmd ?_ | refine Gs.id ?_ | with_reducible refine Brn.T rfl ?_ | refine Ixo.mk ⟨_, rfl, (by (try simp only [smT]); omega), ?_⟩ | (refine CL.mk (Or.inr (Raw.callI [1,2] [1,2] rfl rfl rfl rfl rfl rfl rfl (hx) ?_)); rintro _ _ ⟨rfl, rfl⟩; refine Bk.mk rfl rfl ?_))
    all_goals (conv => whnf)
    all_goals exact RetO.mk ⟨[], _, _, .ts .nil, LeO.fm rfl rfl (LeO.fm rfl (by simp [List.map_set, Md.row]) .nil), rfl, rfl⟩
end Go.Proofs.YtgloielnnakknaaDoor
namespace Go.Proofs.YtgloielnnakknaaDoor
open Go.RowKit
theorem mdOb_mf (mods : List Md) : MfO (mdOb mods) := by
  intro p hp
  simp only [mdOb, List.mem_singleton] at hp
  subst hp
  refine ⟨_, _, rfl, fun row hr e he => ?_⟩
  obtain ⟨m, _, rfl⟩ := List.mem_map.1 hr
  simp only [Md.row, List.mem_cons, List.not_mem_nil, or_false] at he
  rcases he with rfl | rfl | rfl
  · rfl
  · rfl
  · intro r hr x hx
    obtain ⟨a, _, rfl⟩ := List.mem_map.1 hr
    simp only [At.v, List.mem_cons, List.not_mem_nil, or_false] at hx
    rcases hx with rfl | rfl
    · rfl
    · cases a.mod <;> rfl
abbrev fnK (i : Nat) : V := .cl 83 [[.m 2 i 0]]
theorem mk1_T (mods : List Md) (j i : Nat) (hj : j < mods.length) (hi : i < mods.length) : CallsA Tryd.prog 83 [mdP j, .d (.q [.m 2 i 0] 0)] (mdOb mods) (Iso (db (decide (j = i))) (mdOb mods)) := by
  refine callsA_of_vcO (T := tt) Tryd.func83 rfl rfl rfl rfl rfl ?_
  repeat' ((conv => whnf); first | refine Gs.id ?_ | refine Pm.mk (by first | assumption | (simp; omega)) (by first | assumption | (simp; omega)) ?_ | fail)
  all_goals (conv => whnf)
  all_goals exact RetO.mk ⟨[], _, _, (by first | exact LeS.d (by first | exact LeD.u rfl | fail) | fail), LeO.fm rfl rfl .nil, rfl, rfl⟩
def pix (m : Nat) : List Nat → Nat → Int
  | [], _ => -1
  | j :: r, i => if j = m then i else pix m r (i + 1)
theorem pindex_T (mods : List Md) (l : List Nat) (m : Nat) (hl : l.length ≤ 1000000) (ht : ∀ j ∈ l, j < mods.length) (hmm : m < mods.length) : CallsA Tryd.prog 72 [.d (.u (.sl 1 (ptr1 l))), .d (.u (fnK m))] (mdOb mods) (Iso (di (pix m l 0)) (mdOb mods)) := by
  refine callsA_of_vcO (T := tt) Tryd.func72 rfl rfl rfl rfl rfl ?_
  repeat' ((conv => whnf); first | refine Gs.id ?_ | (refine Bnd.mk (fun hm => ?_); (try simp only [smT] at hm)) | fail)
  all_goals (conv => whnf)
  refine ⟨⟨Nat, fun i => i ≤ l.length ∧ pix m l 0 = pix m (l.drop i) i, fun i => l.length - i, fun i => ⟨[(0, .d (.u (.sl 1 (ptr1 l)))), (1, .d (.u (fnK m))), (7, di l.length), (8, di i)], mdOb mods⟩, 0, ⟨Nat.zero_le _, rfl⟩, ⟨[(2, .k 2)], ⟨by (try dsimp only); (repeat (refine LeT.cons rfl (by first | exact LeS.d (by first | exact LeD.u rfl | exact LeD.u (by simp; done) | fail) | fail) ?_)); exact LeT.nil, by (try dsimp only); repeat (first | exact LeO.nil | refine LeO.fm rfl (by first | rfl | fail) ?_ | fail)⟩⟩, fun i hi => ?_⟩⟩
  obtain ⟨hi, he⟩ := hi
  dsimp only
  rw [he]
  by_cases h9 : i < l.length
  · rw [List.drop_eq_getElem_cons h9, pix]
    obtain ⟨j, hji⟩ : ∃ j, l[i] = j := ⟨_, rfl⟩
    have hrow : ∀ {K : List V → Prop}, K [V.m 2 j 0] → Ix (ptr1 l) (i : Int) K := fun k => Ix.map rfl h9 (by rw [hji]; exact k)
    have hj := ht _ (List.getElem_mem h9)
    rw [hji] at hj ⊢
    have hn := mk1_T mods j m hj hmm
    by_cases hx : j = m
    · rw [decide_eq_true hx] at hn
      rw [if_pos hx]
      repeat' ((conv => whnf); first | refine hrow ?_ | refine Gs.id ?_ | with_reducible refine Brn.T rfl ?_ | refine Brn.T (by (try simp only [smT]); first | rfl | omega | fail) ?_ | (refine Raw.callF [2] [2] rfl rfl rfl rfl rfl rfl rfl rfl (hn) ?_; rintro _ _ ⟨rfl, rfl⟩; refine Bk.mk rfl rfl ?_))
      all_goals (conv => whnf)
      all_goals exact RetO.mk ⟨[], _, _, (by first | exact LeS.d (by first | exact LeD.u rfl | fail) | fail), LeO.fm rfl rfl .nil, rfl, rfl⟩
    · rw [decide_eq_false hx] at hn
      rw [if_neg hx]
      repeat' ((conv => whnf); first | refine hrow ?_ | refine Gs.id ?_ | with_reducible refine Brn.F rfl ?_ | refine Brn.T (by (try simp only [smT]); first | rfl | omega | fail) ?_ | refine Rng.mk (by (try simp only [smT]); omega) ?_ | (refine Raw.callF [2] [2] rfl rfl rfl rfl rfl rfl rfl rfl (hn) ?_; rintro _ _ ⟨rfl, rfl⟩; refine Bk.mk rfl rfl ?_))
      all_goals (conv => whnf)
      all_goals exact ⟨i + 1, ⟨by omega, rfl⟩, by omega, [(2, .k 2)], ⟨by (try dsimp only); (repeat (refine LeT.cons rfl (by first | exact LeS.d (by first | exact LeD.u rfl | fail) | fail) ?_)); exact LeT.nil, by (try dsimp only); repeat (first | exact LeO.nil | refine LeO.fm rfl (by first | rfl | fail) ?_ | fail)⟩⟩
  · obtain rfl : i = l.length := by omega
    rw [List.drop_length, pix]
    repeat' ((conv => whnf); first | refine Gs.id ?_ | refine Brn.F (by (try simp only [smT]); first | rfl | omega | fail) ?_ | fail)
    all_goals (conv => whnf)
    all_goals exact RetO.mk ⟨[], _, _, (by first | exact LeS.d (by first | exact LeD.u rfl | fail) | fail), LeO.fm rfl rfl .nil, rfl, rfl⟩
end Go.Proofs.YtgloielnnakknaaDoor
