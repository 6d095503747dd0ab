/-
  Part 9 of the proofs of stacks_holds: laws and contracts that they need.
-/
import Derived.Test.YtabmcfnefjipbaaGreatDoorR8
import Derived.Shelf.SlSortCmp.NoneTotal
set_option linter.unusedVariables false
set_option linter.unusedSimpArgs false
namespace Go.Proofs.YtabmcfnefjipbaaGreatDoor
open Go.RowKit Go.Sort
theorem lcR_us {z : Fz} : ∀ {xs : List Lc} {us : List Value}, DenVL z (xs.map lcR).flatten us → us = (xs.map lcV).flatten ∧ ∀ x ∈ xs, x.md.size ≤ maxLen
  | [], us, h => ⟨List.eq_nil_of_length_eq_zero (by have := h.len; simpa using this), by simp⟩
  | x :: r, us, h => by
    have hl := h.len
    simp only [List.map_cons, List.flatten_cons, List.length_append, List.length_cons, List.length_nil] at hl
    match us, hl, h with
    | u0 :: u1 :: u2 :: u3 :: us', hl, h =>
      have d0 := h.den 0 _ _ rfl rfl
      have d1 := h.den 1 _ _ rfl rfl
      have d2 := h.den 2 _ _ rfl rfl
      have d3 := h.den 3 _ _ rfl rfl
      have ho := h.one
      simp only [List.all_cons, Bool.and_eq_true] at ho
      have hr : DenVL z (r.map lcR).flatten us' := ⟨by simp at hl ⊢; omega, ho.2.2.2.2, fun j d u h1 h2 => h.den (j + 4) d u (by simpa using h1) (by simpa using h2)⟩
      obtain ⟨e, hm⟩ := lcR_us hr
      cases d1; cases d2; cases d3
      cases d0 with | str s hs =>
      subst e
      exact ⟨rfl, fun y hy => (List.mem_cons.1 hy).elim (fun e => e ▸ hs) (hm y)⟩
    | [], hl, h => exact absurd hl (by simp only [List.length_nil]; omega)
    | [_], hl, h => simp at hl; omega
    | [_, _], hl, h => simp at hl; omega
    | [_, _, _], hl, h => simp at hl; omega
theorem lcR_den {z : Fz} {xs : List Lc} (h : ∀ x ∈ xs, x.md.size ≤ maxLen) : DenVL z (xs.map lcR).flatten (xs.map lcV).flatten := by
  induction xs with
  | nil => exact ⟨rfl, rfl, fun j d u h1 => by simp at h1⟩
  | cons x r ih =>
    have ih := ih fun y hy => h y (by simp [hy])
    have hx := h x (by simp)
    refine ⟨?_, ?_, fun j d u h1 h2 => ?_⟩
    · have := ih.len
      simp only [List.map_cons, List.flatten_cons, List.length_append, lcV, List.length_cons, List.length_nil] at this ⊢
      omega
    · have := ih.one
      simp only [List.map_cons, List.flatten_cons, List.all_append, lcV, List.all_cons, List.all_nil, Value.oneCell', Bool.and_true, Bool.true_and]
      exact this
    · match j with
      | 0 => cases h1; cases h2; exact .str _ hx
      | 1 => cases h1; cases h2; exact .int _ _
      | 2 => cases h1; cases h2; exact .int _ _
      | 3 => cases h1; cases h2; exact .int _ _
      | j + 4 => exact ih.den j d u (by simpa using h1) (by simpa [lcV] using h2)
theorem flatK_lc (xs : List Lc) : (flatK lcV 4 xs.toArray).toList = (xs.map lcV).flatten := by
  apply List.ext_getElem?
  intro t
  have hf : ∀ r ∈ xs.map lcV, r.length = 4 := by
    intro r hr
    obtain ⟨c, _, rfl⟩ := List.mem_map.1 hr
    rfl
  have hlen : (xs.map lcV).flatten.length = xs.length * 4 := by rw [flat_len hf, List.length_map]
  have hl2 : (flatK lcV 4 xs.toArray).size = xs.length * 4 := by simp
  by_cases ht : t < xs.length * 4
  · have h4 : t / 4 < xs.length := by omega
    have hg := get_flatK lcV 4 xs.toArray t (by simpa using ht)
    rw [getElem!_pos _ t (by rw [hl2]; exact ht)] at hg
    rw [Array.getElem?_toList, Array.getElem?_eq_getElem (by rw [hl2]; exact ht), hg]
    have hrow : (xs.map lcV)[t / 4]? = some (lcV xs[t / 4]) := by simp [h4]
    have hx : xs.toArray[t / 4]! = xs[t / 4] := by rw [getElem!_pos _ _ (by simpa using h4)]; simp
    rw [hx]
    have h44 : t % 4 < (lcV xs[t / 4]).length := by simp only [lcV, List.length_cons, List.length_nil]; omega
    have := flat_get hf hrow (t % 4) ((lcV xs[t / 4])[t % 4]!) (by rw [getElem!_pos (lcV xs[t / 4]) (t % 4) h44]; exact List.getElem?_eq_getElem h44)
    rw [show t / 4 * 4 + t % 4 = t by omega] at this
    exact this.symm
  · have a1 : (flatK lcV 4 xs.toArray).toList[t]? = none := List.getElem?_eq_none (by rw [Array.length_toList, hl2]; omega)
    have a2 : (xs.map lcV).flatten[t]? = none := List.getElem?_eq_none (by rw [hlen]; omega)
    rw [a1, a2]
theorem putCells_pre (F : Array Value) (us junk : List Value) (h : us.length = F.size) : putCells id 0 F (us ++ junk).toArray = (F.toList ++ junk).toArray := by
  apply Array.ext_getElem?
  intro k
  unfold putCells
  rw [Array.getElem?_mapIdx, List.getElem?_toArray, List.getElem?_toArray]
  by_cases hk : k < F.size
  · rw [List.getElem?_append_left (by omega), List.getElem?_append_left (by simpa using hk), List.getElem?_eq_getElem (by omega : k < us.length)]
    simp [hk]
  · rw [List.getElem?_append_right (by omega), List.getElem?_append_right (by simpa using hk), h, Array.length_toList]
    cases junk[k - F.size]? with
    | none => rfl
    | some x => simp [hk]
/-- What the world of the sort holds. -/
theorem sortW_get {w : World} {b : Nat} {us junk : List Value} {t : TypeId} {n : Nat} {os : Array Obj} {D : Array Lc} (hb : w.heap[b]? = some (.cells (us ++ junk).toArray t (0, 0))) (hu : us.length = D.size * 4) : (sortWorldK lcV 4 w b 0 n D os).heap[b]? = some (.cells ((D.toList.map lcV).flatten ++ junk).toArray t (0, 0)) ∧ Same (fun k => k < w.heap.size ∧ k ≠ b) w (sortWorldK lcV 4 w b 0 n D os) := by
  have hbl : b < w.heap.size := (Array.getElem?_eq_some_iff.1 hb).1
  have hmod : ∀ j, j < w.heap.size → (sortWorldK lcV 4 w b 0 n D os).heap[j]? = (if b = j then (w.heap[j]?).map (onCells (putCells id 0 (flatK lcV 4 D))) else w.heap[j]?) := by
    intro j hj
    unfold sortWorldK putRowK putRow grow mapBlock Sort.ahead
    dsimp only
    rw [Array.getElem?_append_left (by simpa using hj), Array.getElem?_modify]
  have hF := flatK_lc D.toList
  refine ⟨?_, rfl, rfl, rfl, ?_, fun k hk => ?_⟩
  · rw [hmod b hbl, if_pos rfl, hb]
    simp only [Option.map_some, onCells]
    rw [putCells_pre _ _ _ (by rw [hu, size_flatK])]
    rw [Array.toArray_toList] at hF
    rw [hF]
  · unfold sortWorldK putRowK putRow grow mapBlock Sort.ahead
    simp
  · rw [hmod k hk.1, if_neg (Ne.symm hk.2)]
theorem lcV_len (x : Lc) : (lcV x).length = 4 := rfl
theorem sort_T (xs : List Lc) (hl : xs.length ≤ 1000000) : CallsP Tryz.prog 79 [.d (.ow 901 xs.length), .d (.u (.fn 80))] [(901, .ar 98 4 (xs.map lcR))] [901] (Iso (.t []) [(901, .ar 98 4 ((srtL xs).map lcR))]) := by
  refine ⟨⟨_, _, Tryz.func79, rfl, rfl⟩, fun c ρ hp vs w hw hlen g => ?_⟩
  match vs, hlen with
  | [v0, v1], _ =>
  obtain ⟨v, q1, q2⟩ := g.tm 0 _ rfl
  cases q1
  obtain ⟨v, q3, q4⟩ := g.tm 1 _ rfl
  cases q3
  obtain ⟨X, hp', rfl, ⟨A, c', us, rfl, e2, e3, e4, e5⟩, rfl⟩ := g.ob
  cases q4 with | d q4 => cases q4 with | u q4 => cases q4 with | fn =>
  cases q2 with | d q2 => cases q2 with | ow h1 h2 h3 =>
  rw [e2] at h1
  cases h1
  obtain ⟨hus, hmd⟩ := lcR_us e4
  have hperm := srtL_perm xs
  have hlen2 : (srtL xs).length = xs.length := hperm.length_eq
  have hul := e3.len
  rw [List.length_map] at hul
  rcases e3.form with ⟨rfl, hn, hc⟩ | ⟨gb, rfl⟩
  · obtain rfl : xs = [] := by simpa using hn
    refine (AnyF.slices_SortFunc_none sortLay none _ _ w).mono ?_
    rintro e w' ⟨rfl, rfl⟩
    exact ⟨_, ⟨c.F, c.w, _⟩, .t [], _, ρ, c.G, rfl, hw, ⟨g.fF, g.fw, g.gF, g.gx, g.fm, fun k s hk => by
      simp only [lk] at hk ⊢
      cases hb : Nat.beq k 0 <;> rw [hb] at hk
      · cases hk
      · cases hk; exact ⟨_, rfl, .t (vs := []) rfl fun j s v h => by simp at h⟩, g.ob⟩, ⟨rfl, by rw [show srtL [] = [] from List.Perm.eq_nil (srtL_perm [])]⟩, fun k _ => ⟨rfl, rfl⟩⟩
  · have hblk := hw.blk gb ⟨98, us, .n (c' * 4)⟩ (by simp [hbA])
    obtain ⟨junk, hj1, hj2⟩ := hblk
    dsimp only at hj1 hj2
    have hbl : gb < w.heap.size := (Array.getElem?_eq_some_iff.1 hj1).1
    have hH : HoldsK lcV 4 w gb 0 xs.toArray := by
      intro j hj
      have hj' : j < us.length := by rw [hul]; simpa using hj
      have hg : (flatK lcV 4 xs.toArray)[j]! = us[j] := by
        have h : (flatK lcV 4 xs.toArray).toList[j]? = (xs.map lcV).flatten[j]? := by rw [flatK_lc]
        rw [← hus, Array.getElem?_toList, Array.getElem?_eq_getElem hj, List.getElem?_eq_getElem hj'] at h
        rw [getElem!_pos _ j hj]
        exact Option.some.inj h
      rw [hg]
      simp only [id, Nat.zero_add, World.cell?, World.frozen?, hj1]
      simp [hj', List.getElem?_append_left hj']
    have hcmp : CmpLays Tryz.prog 80 #[] lcV 4 cfL gb 0 xs.toArray.size w := fun m os dk _ x y => cfL_any x y _
    have hsz : xs.toArray.size = xs.length := by simp
    have hcall := AnyQ.slices_SortFunc_eq sortLay 4 (fun w => by kernel_rfl) (fun w => by kernel_rfl) lcV lcV_len (fun x v hv => by
      simp only [lcV, List.mem_cons, List.not_mem_nil, or_false] at hv
      rcases hv with rfl | rfl | rfl | rfl <;> rfl) cfL swoL 80 #[] gb 0 c' xs.toArray w (fun args w => by kernel_rfl) hcmp hH hbl (by rw [hsz]; omega)
    rw [hsz] at hcall
    refine hcall.mono ?_
    rintro e w' ⟨rfl, n, os, rfl⟩
    have hD : (pdq (ltOf cfL) xs.toArray 0 xs.length (Lib.bitLen xs.length) true true).toList = srtL xs := by rw [srtL, hsz]
    have hDs : (pdq (ltOf cfL) xs.toArray 0 xs.length (Lib.bitLen xs.length) true true).size = xs.length := by rw [← Array.length_toList, hD, hlen2]
    generalize pdq (ltOf cfL) xs.toArray 0 xs.length (Lib.bitLen xs.length) true true = D at *
    obtain ⟨w1, w2⟩ := sortW_get (n := n) (os := os) hj1 (D := D) (by rw [hul, hDs])
    rw [hD] at w1
    have hfl : ((srtL xs).map lcV).flatten.length = us.length := by
      rw [flat_len (sz := 4) (by intro r hr; obtain ⟨c, _, rfl⟩ := List.mem_map.1 hr; rfl), List.length_map, hlen2, hul]
    refine ⟨_, ⟨c.F, c.w, [(gb, ⟨98, ((srtL xs).map lcV).flatten, .n (c' * 4)⟩)]⟩, .t [], _, ρ, c.G, rfl, ⟨hw.same.trans (w2.mono fun k hk => ⟨hw.Flt hk, fun e => ?_⟩), hw.inF, fun b x hx => ?_, by simp, fun b x hx => ?_⟩, ⟨g.fF, g.fw, g.gF, g.gx, g.fm, fun k s hk => ?_, ?_⟩, ⟨rfl, rfl⟩, fun k _ => ⟨rfl, rfl⟩⟩
    · subst e; exact hw.out _ ⟨98, us, .n (c' * 4)⟩ (by simp [hbA]) hk
    · simp only [List.mem_cons, List.not_mem_nil, or_false, Prod.mk.injEq] at hx
      obtain ⟨rfl, rfl⟩ := hx
      exact ⟨junk, w1, by dsimp only; rw [hfl]; exact hj2⟩
    · simp only [List.mem_cons, List.not_mem_nil, or_false, Prod.mk.injEq] at hx
      obtain ⟨rfl, rfl⟩ := hx
      exact hw.out _ ⟨98, us, .n (c' * 4)⟩ (by simp [hbA])
    · simp only [lk] at hk ⊢
      cases hb : Nat.beq k 0 <;> rw [hb] at hk
      · cases hk
      · cases hk; exact ⟨_, rfl, .t (vs := []) rfl fun j s v h => by simp at h⟩
    · refine ⟨[(gb, ⟨98, ((srtL xs).map lcV).flatten, .n (c' * 4)⟩)], [], (List.append_nil _).symm, ⟨some ⟨gb, 0, none⟩, c', ((srtL xs).map lcV).flatten, rfl, e2, ⟨.inr ⟨gb, rfl⟩, by rw [hfl, hul, List.length_map, hlen2], ?_, e3.max⟩, lcR_den fun x hx => hmd x (hperm.mem_iff.1 hx), ?_⟩, rfl⟩
      · have := e3.cap
        rw [List.length_map] at this ⊢
        rw [hlen2]; exact this
      · intro r hr
        obtain ⟨c, _, rfl⟩ := List.mem_map.1 hr
        rfl
end Go.Proofs.YtabmcfnefjipbaaGreatDoor
namespace Go.Proofs.YtabmcfnefjipbaaGreatDoor
open Go.RowKit
abbrev lnOb (out : List Lc) : List (Nat × Ob) := [(5, .bx 25 [.u (.int .i64 0), .u (.int .i64 0)]), (7, .bx 148 [.mp 903]), (8, .bx 152 [.fn 78 [7]]), (903, .mp true false (atL out)), (905, .fm 98 (out.map lcE))]
theorem lnOb_mf (out : List Lc) : MfObs (lnOb out) := by
  intro p hp
  simp only [List.mem_cons, List.not_mem_nil, or_false] at hp
  rcases hp with rfl | rfl | rfl | rfl | rfl
  · simp [MfOb, mfD, mfV]
  · simp [MfOb, mfD]
  · simp [MfOb, mfD]
  · intro e he v hv
    obtain ⟨k, c, _, rfl⟩ := atK_mem e he
    simp only [encP, valP, List.mem_append, List.mem_cons, List.not_mem_nil, or_false] at hv
    rcases hv with (rfl | rfl) | rfl <;> rfl
  · intro row hr e he
    obtain ⟨c, _, rfl⟩ := List.mem_map.1 hr
    simp only [lcE, List.mem_cons, List.not_mem_nil, or_false] at he
    rcases he with rfl | rfl | rfl | rfl <;> rfl
def linesM (l : List Ev) (fuel : Int) : List Lc := srtL (linesAt l fuel l.length)
theorem ensL_nd {out : List Lc} (h : (out.map Lc.pl).Nodup) (p : Pl) : ((ensL out p).map Lc.pl).Nodup := by
  unfold ensL ensK
  split
  · exact h
  · rename_i hp
    rw [List.map_append, List.nodup_append]
    refine ⟨h, by simp, fun a ha b hb e => ?_⟩
    simp at hb
    subst hb
    have e' : a = p := e
    subst e'
    exact hp ha
theorem updL_nd {g : Lc → Lc} (hg : ∀ c, (g c).pl = c.pl) {out : List Lc} (h : (out.map Lc.pl).Nodup) (p : Pl) : ((updL g out p).map Lc.pl).Nodup := by
  rw [updK_keys (key := Lc.pl) g hg]; exact h
theorem lines_nd {l : List Ev} {fuel : Int} : ∀ i, ((linesAt l fuel i).map Lc.pl).Nodup
  | 0 => by simp [linesAt]
  | i + 1 => by
    have ih := lines_nd (l := l) (fuel := fuel) i
    rw [linesAt]
    split
    · rename_i e he
      have h1 : ((if e.kind = 1 then updL incL (ensL (linesAt l fuel i) e.pl) e.pl else linesAt l fuel i).map Lc.pl).Nodup := by
        split
        · exact updL_nd (g := incL) (fun _ => rfl) (ensL_nd ih _) _
        · exact ih
      unfold stepN
      dsimp only
      generalize (if e.kind = 1 then updL incL (ensL (linesAt l fuel i) e.pl) e.pl else linesAt l fuel i) = o1 at *
      split
      · exact h1
      · split
        · exact updL_nd (g := addL _) (fun _ => rfl) (ensL_nd h1 _) _
        · exact h1
    · exact ih
/-- The entry of the map for member k. -/
def entL (out : List Lc) (k : Nat) : List V × List V := (encP (out.getD k default).pl, valP k)
theorem atL_ent (out : List Lc) : atL out = (List.range out.length).map (entL out) := by
  apply List.ext_getElem?
  intro k
  rw [atK_get?, List.getElem?_map]
  by_cases hk : k < out.length
  · rw [List.getElem?_range hk, List.getElem?_eq_getElem hk]
    simp [entL, hk]
  · rw [List.getElem?_eq_none (by omega : out.length ≤ k), List.getElem?_eq_none (by simpa using hk)]
    rfl
theorem range_map (out : List Lc) : (List.range out.length).map (fun k => out.getD k default) = out := by
  apply List.ext_getElem?
  intro k
  rw [List.getElem?_map]
  by_cases hk : k < out.length
  · rw [List.getElem?_range hk, List.getElem?_eq_getElem hk]; simp [hk]
  · rw [List.getElem?_eq_none (by omega : out.length ≤ k), List.getElem?_eq_none (by simpa using hk)]; rfl
/-- What holds at the head of the loop over the map. -/
structure LpI (out : List Lc) (ks : List Nat) (res : List Lc) : Prop where
  lt : ∀ k ∈ ks, k < out.length
  pm : (res ++ ks.map fun k => out.getD k default).Perm out
theorem LpI.next {out : List Lc} {ks : List Nat} {res : List Lc} (h : LpI out ks res) {l1 l2 : List (List V × List V)} {e : List V × List V} (he : ks.map (entL out) = l1 ++ e :: l2) : ∃ k1 k k2, ks = k1 ++ k :: k2 ∧ e = entL out k ∧ l1 ++ l2 = (k1 ++ k2).map (entL out) ∧ k < out.length ∧ LpI out (k1 ++ k2) (res ++ [out.getD k default]) := by
  obtain ⟨k1, r, rfl, rfl, h2⟩ := List.map_eq_append_iff.1 he
  obtain ⟨k, k2, rfl, rfl, rfl⟩ := List.map_eq_cons_iff.1 h2
  refine ⟨k1, k, k2, rfl, rfl, by simp, h.lt k (by simp), fun j hj => h.lt j ?_, ?_⟩
  · rcases List.mem_append.1 hj with hj | hj <;> simp [hj]
  · refine List.Perm.trans ?_ h.pm
    simp only [List.map_append, List.map_cons, List.append_assoc, List.singleton_append]
    exact (List.perm_middle.symm).append_left _
set_option maxHeartbeats 4000000 in
theorem lines_ok {l : List Ev} {fuel : Int} (hc : checkM l fuel = (0, 0)) (hx : fuel ≤ 9223372036854775807) : CallsA Tryz.prog 46 [.d (.u (evs l)), di fuel] [(905, .fm 98 [])] (Iso (.t [.d (.ow 901 (linesM l fuel).length), .a [.u (.int .i64 0), .u (.int .i64 0)]]) [(901, .ar 98 4 ((linesM l fuel).map lcR))]) := by
  have t := check_Tr (l := l) (fuel := fuel) (by rw [hc]) hx
  have h1 := check_T l fuel
  rw [hc] at h1
  have h3 := steps0_T l fuel
  refine callsA_of_rfO (T := tt) Tryz.func46 rfl rfl rfl rfl rfl ?_
  repeat' ((conv => whnf); first | refine Gs.id ?_ | with_reducible refine Brn.F rfl ?_ | refine Raw.makeMap (T := tt) rfl rfl rfl rfl rfl rfl (.inl rfl) rfl rfl ?_ | (refine CL.mk (Or.inl ?_); (conv => whnf); first | refine Cl.is (h1) rfl (by first | exact fun _ => rfl | fail) ?_ | refine Cl.is (h3) rfl (by first | (intro e; cases e; done) | fail) ?_) | fail)
  all_goals (conv => whnf)
  refine ⟨⟨Nat, fun i => i ≤ l.length, fun i => i = l.length, fun i ss => ∃ e, l[i]? = some e ∧ ss = [stepSV e (amt l fuel i) (stackAt l (i + 1))], fun i _ => i + 1, fun i => lnOb (linesAt l fuel i), 0, [(5, .d (.p 5 0)), (7, .d (.p 7 0)), (8, .d (.p 8 0)), (26, .d (.u (stepsV l fuel)))], _, [(5, .k 5), (7, .k 7), (8, .k 8), (903, .k 22), (905, .k 905)], _, _, 902, [], Nat.zero_le _, fun _ h => absurd h (by simp), ⟨by (try dsimp only); (repeat (refine LeT.cons rfl (by first | exact LeS.d (by first | exact LeD.u rfl | exact LeD.p rfl | fail) | fail) ?_)); exact LeT.nil, by (try dsimp only); repeat (first | exact LeO.nil | refine LeO.bx rfl rfl (by repeat (first | exact LeL.nil | refine LeL.cons (by first | exact LeD.u rfl | exact LeD.mp rfl | exact LeD.fn (by repeat (first | exact LeN.nil | refine LeN.cons rfl ?_))) ?_)) ?_ | refine LeO.fm rfl (by first | rfl | fail) ?_ | refine LeO.mp rfl rfl (by first | rfl | fail) ?_ | fail)⟩, rfl, rfl, ?_, rfl, fun i _ => (lnOb_mf _).toZ, ?_, ?_, ?_, ?_⟩⟩
  · simp [nmlS, nmlD]
  · rintro i ss hi ⟨e, he, rfl⟩
    have := (List.getElem?_eq_some_iff.1 he).1
    exact ⟨show i + 1 ≤ l.length by omega, rfl, by simp [stepSV_nm]⟩
  · rintro i ss hi ⟨e, he, rfl⟩ us zb
    have hilt := (List.getElem?_eq_some_iff.1 he).1
    have ok := t.vd.ok he
    have hlen := lines_len (l := l) (fuel := fuel) i
    have hL := t.len
    have hof := of_T e
    have hlb := lines_LB t i (by omega)
    have ha0 := t.amt he
    have haE := amt_eq (fuel := fuel) he
    have hcur := t.cur i (by omega)
    have hcur2 := t.cur (i + 1) (by omega)
    have hslen0 := stack_len (l := l) (i + 1)
    dsimp only
    rw [linesAt_succ he]
    generalize hx0 : linesAt l fuel i = out at *
    generalize amt l fuel i = a at *
    generalize curF l fuel i = B at *
    generalize curF l fuel (i + 1) = B2 at *
    generalize stackAt l (i + 1) = s at *
    unfold stepN
    dsimp only
    obtain ⟨out1, ho1⟩ : ∃ o, o = (if e.kind = 1 then updL incL (ensL out e.pl) e.pl else out) := ⟨_, rfl⟩
    rw [← ho1]
    have hA : e.kind = 1 → out1 = updL incL (ensL out e.pl) e.pl := fun h => by rw [ho1, if_pos h]
    have hB : e.kind ≠ 1 → out1 = out := fun h => by rw [ho1, if_neg h]
    have hlb1 : LB (i + 1) B out1 := by
      rw [ho1]
      split
      · exact (hlb.ens (by omega) hcur.1 _).inc _
      · exact hlb.mono (by omega) (Int.le_refl _)
    clear ho1
    refine' cutR (fun _ : Unit => True) (fun _ => ⟨[(9, .d (.p 9 0)), (7, .d (.p 7 0)), (8, .d (.p 8 0))], (902, .ab [.p 5 0, .p 7 0, .p 8 0] us zb (· = [])) :: (9, .bx 81 (e.ds ++ [.u (.int .i64 a), .u (.sl 3 (s.map acR))])) :: lnOb out1⟩) _ (fun hR => ?_) ?_
    rotate_left
    · by_cases hk1 : e.kind = 1
      · obtain ⟨k, c, k1, k2, k3⟩ := kidx_some (l := ensL out e.pl) (f := e.pl) ((mem_ensK (fun _ => rfl)).2 (.inr rfl))
        have hget : ((ensL out e.pl).map lcE)[k]? = some (lcE c) := by simp [k2]
        have hup : updL incL (ensL out e.pl) e.pl = (ensL out e.pl).set k (incL c) := updK_eq incL k1 k2
        have hmap : (updL incL (ensL out e.pl) e.pl).map lcE = ((ensL out e.pl).map lcE).set k (lcE (incL c)) := by rw [hup, List.map_set]
        have hat : atL (updL incL (ensL out e.pl) e.pl) = atL (ensL out e.pl) := atK_keys (updK_keys (key := Lc.pl) incL (fun _ => rfl) (ensL out e.pl) e.pl)
        have hpl : e.pl = (e.md, e.line) := rfl
        rw [hpl] at hmap hat
        have hb := (hlb.ens (by omega) hcur.1 e.pl) c (List.mem_of_getElem? k2)
        have hg := get_T out e.md e.line k k1 _ rfl _ rfl
        repeat' ((conv => whnf); first | refine Rw.get hget ?_ | (exact Gs.cut (i := 10) (by assumption) () [(902, .k 902), (5, .k 5), (7, .k 7), (8, .k 8), (9, .k 9), (903, .k 903), (905, .k 905)] rfl ⟨by (try dsimp only); (repeat (refine LeT.cons rfl (by first | exact LeS.d (by first | exact LeD.p rfl | fail) | fail) ?_)); (first | exact LeT.nil | fail), by (try dsimp only); (repeat (first | exact LeO.nil | refine LeO.bx rfl rfl (by repeat (first | exact LeL.nil | refine LeL.cons (by first | exact LeD.u rfl | exact LeD.mp rfl | exact LeD.fn (by repeat (first | exact LeN.nil | refine LeN.cons rfl ?_)) | fail) ?_)) ?_ | refine LeO.ab rfl rfl (by repeat (first | exact LeL.nil | refine LeL.cons (by first | exact LeD.p rfl | fail) ?_)) (by first | rfl | fail) ?_ | refine LeO.fm rfl (by first | rfl | (simp [hA hk1, hpl, hmap, hat, incL, lcE]; done) | fail) ?_ | refine LeO.mp rfl rfl (by first | (simp [hA hk1, hpl, hmap, hat, incL, lcE]; done) | fail) ?_ | fail)); done⟩ (by trivial)) | refine Gs.id ?_ | refine Brn.T (by (try simp only [smT]); first | rfl | assumption | fail) ?_ | refine Rng.mk (by (try simp only [smT]); omega) ?_ | (refine Raw.callFP [7] [7,903,905] [903,905] rfl rfl rfl rfl rfl rfl rfl rfl rfl (hg) ?_; rintro _ _ ⟨rfl, rfl⟩; refine BkP.mk rfl rfl ?_))
      · repeat' ((conv => whnf); first | (exact Gs.cut (i := 10) (by assumption) () [(902, .k 902), (5, .k 5), (7, .k 7), (8, .k 8), (9, .k 9), (903, .k 903), (905, .k 905)] rfl ⟨by (try dsimp only); (repeat (refine LeT.cons rfl (by first | exact LeS.d (by first | exact LeD.p rfl | fail) | fail) ?_)); (first | exact LeT.nil | fail), by (try dsimp only); (repeat (first | exact LeO.nil | refine LeO.bx rfl rfl (by repeat (first | exact LeL.nil | refine LeL.cons (by first | exact LeD.u rfl | exact LeD.mp rfl | exact LeD.fn (by repeat (first | exact LeN.nil | refine LeN.cons rfl ?_)) | fail) ?_)) ?_ | refine LeO.ab rfl rfl (by repeat (first | exact LeL.nil | refine LeL.cons (by first | exact LeD.p rfl | fail) ?_)) (by first | rfl | fail) ?_ | refine LeO.fm rfl (by first | rfl | (simp [hB hk1]; done) | fail) ?_ | refine LeO.mp rfl rfl (by first | (simp [hB hk1]; done) | fail) ?_ | fail)); done⟩ (by trivial)) | refine Gs.id ?_ | refine Brn.F (by (try simp only [smT]); first | assumption | fail) ?_ | fail)
    · intro _ _
      dsimp only
      clear hA hB hlb
      rcases List.eq_nil_or_concat s with rfl | ⟨L, tp, rfl⟩
      · simp only [List.getLast?_nil]
        repeat' ((conv => whnf); first | refine Gs.id ?_ | with_reducible refine Brn.F rfl ?_ | (refine Bnd.mk (fun hm => ?_); (try simp only [smT] at hm)) | fail)
        all_goals (conv => whnf)
        all_goals exact ⟨[(902, .k 902), (5, .k 5), (7, .k 7), (8, .k 8), (903, .k 903), (905, .k 905)], (by repeat (first | exact LeO.nil | refine LeO.bx rfl rfl (by repeat (first | exact LeL.nil | refine LeL.cons (by first | exact LeD.u rfl | exact LeD.mp rfl | exact LeD.fn (by repeat (first | exact LeN.nil | refine LeN.cons rfl ?_))) ?_)) ?_ | refine LeO.ab rfl rfl (by repeat (first | exact LeL.nil | refine LeL.cons (by first | exact LeD.p rfl | fail) ?_)) (by first | rfl | fail) ?_ | refine LeO.fm rfl (by first | rfl | fail) ?_ | refine LeO.mp rfl rfl (by first | rfl | fail) ?_ | fail))⟩
      · rw [List.concat_eq_append] at *
        have hlast : (L ++ [tp]).getLast? = some tp := by simp
        rw [hlast]
        dsimp only
        have hslt := hslen0
        generalize hs : L ++ [tp] = s at *
        have hslen : ((s.length : Nat) : Int) = (L.length : Int) + 1 := by rw [← hs]; simp
        have hgetS : (s.map acR)[L.length]? = some (acR tp) := by rw [← hs]; simp
        by_cases ha : 0 < a
        · rw [if_pos ha]
          obtain ⟨k, c, k1, k2, k3⟩ := kidx_some (l := ensL out1 tp.pl) (f := tp.pl) ((mem_ensK (fun _ => rfl)).2 (.inr rfl))
          have hget : ((ensL out1 tp.pl).map lcE)[k]? = some (lcE c) := by simp [k2]
          have hup : updL (addL a) (ensL out1 tp.pl) tp.pl = (ensL out1 tp.pl).set k (addL a c) := updK_eq (addL a) k1 k2
          have hmap : (updL (addL a) (ensL out1 tp.pl) tp.pl).map lcE = ((ensL out1 tp.pl).map lcE).set k (lcE (addL a c)) := by rw [hup, List.map_set]
          have hat : atL (updL (addL a) (ensL out1 tp.pl) tp.pl) = atL (ensL out1 tp.pl) := atK_keys (updK_keys (key := Lc.pl) (addL a) (fun _ => rfl) (ensL out1 tp.pl) tp.pl)
          have hb := (hlb1.ens (by omega) hcur.1 tp.pl) c (List.mem_of_getElem? k2)
          have hg := get_T out1 tp.md tp.line k k1 _ rfl _ rfl
          have hpl : tp.pl = (tp.md, tp.line) := rfl
          rw [hpl] at hmap hat
          have hmx := t.mx
          clear hlb1
          repeat' ((conv => whnf); first | refine (Ix.mk ⟨L.length, acR tp, by (first | rfl | (simp; omega)), hgetS, ?_⟩) | refine Rw.get hget ?_ | refine Drw.ghost (i := 13) ((Ghost.frzB 11 rfl rfl).trans (Ghost.frzB 9 rfl rfl)) ?_ | refine Gs.id ?_ | refine Brn.T (by (try simp only [smT]); first | rfl | assumption | omega | fail) ?_ | (refine Bnd.mk (fun hm => ?_); (try simp only [smT] at hm)) | refine Rng.mk (by (try simp only [smT]); omega) ?_ | refine Drw.ofP (T := tt) (i := 13) [0, 6, 7, 8, 9, 12, 13, 14, 15] [1, 2, 3, 4, 5, 10, 11] [1, 2, 3, 4, 5, 10, 11] (OT.alt 0 (OT.alt 6 (OT.alt 7 (OT.alt 8 (OT.alt 9 (OT.alt 12 (OT.alt 13 (OT.alt 14 (OT.alt 15 OT.nil OT.nil) OT.nil) OT.nil) OT.nil) OT.nil) OT.nil) OT.nil) OT.nil) OT.nil) (by kernel_rfl) ?_ | (refine Raw.callFP [7] [7,903,905] [903,905] rfl rfl rfl rfl rfl rfl rfl rfl rfl (hg) ?_; rintro _ _ ⟨rfl, rfl⟩; refine BkP.mk rfl rfl ?_))
          all_goals (conv => whnf)
          all_goals simp only [hpl, lnOb, hat, hmap]
          all_goals exact ⟨[(902, .k 902), (5, .k 5), (7, .k 7), (8, .k 8), (903, .k 903), (905, .k 905)], (by repeat (first | exact LeO.nil | refine LeO.bx rfl rfl (by repeat (first | exact LeL.nil | refine LeL.cons (by first | exact LeD.u rfl | exact LeD.mp rfl | exact LeD.fn (by repeat (first | exact LeN.nil | refine LeN.cons rfl ?_))) ?_)) ?_ | refine LeO.ab rfl rfl (by repeat (first | exact LeL.nil | refine LeL.cons (by first | exact LeD.p rfl | fail) ?_)) (by first | rfl | fail) ?_ | refine LeO.fm rfl (by first | rfl | fail) ?_ | refine LeO.mp rfl rfl (by first | rfl | fail) ?_ | fail))⟩
        · rw [if_neg ha]
          repeat' ((conv => whnf); first | refine Gs.id ?_ | refine Brn.T (by (try simp only [smT]); first | rfl | omega | fail) ?_ | refine Brn.F (by (try simp only [smT]); first | rfl | omega | fail) ?_ | (refine Bnd.mk (fun hm => ?_); (try simp only [smT] at hm)) | fail)
          all_goals (conv => whnf)
          all_goals exact ⟨[(902, .k 902), (5, .k 5), (7, .k 7), (8, .k 8), (903, .k 903), (905, .k 905)], (by repeat (first | exact LeO.nil | refine LeO.bx rfl rfl (by repeat (first | exact LeL.nil | refine LeL.cons (by first | exact LeD.u rfl | exact LeD.mp rfl | exact LeD.fn (by repeat (first | exact LeN.nil | refine LeN.cons rfl ?_))) ?_)) ?_ | refine LeO.ab rfl rfl (by repeat (first | exact LeL.nil | refine LeL.cons (by first | exact LeD.p rfl | fail) ?_)) (by first | rfl | fail) ?_ | refine LeO.fm rfl (by first | rfl | fail) ?_ | refine LeO.mp rfl rfl (by first | rfl | fail) ?_ | fail))⟩
  · intro lp zb φ hY
    exact (steps_T t lp zb φ fun i e he => hY i _ (by have := (List.getElem?_eq_some_iff.1 he).1; omega) ⟨e, he, rfl⟩).mono fun s ob h => ⟨l.length, Nat.le_refl _, rfl, h⟩
  · rintro i hi rfl D
    unfold linesM
    dsimp only
    generalize hO : linesAt l fuel l.length = out
    repeat' ((conv => whnf); first | refine Raw.range (T := tt) rfl rfl rfl rfl rfl fun zb bm bi arr clock hL0 => ?_ | refine Gs.id ?_ | fail)
    all_goals (conv => whnf)
    have hnd := lines_nd (l := l) (fuel := fuel) l.length
    have hlen := lines_len (l := l) (fuel := fuel) l.length
    have hL := t.len
    rw [hO] at hnd hlen
    have hL1 : Left zb true false arr clock #[] (atL out) := hL0
    rw [atL_ent out] at hL1
    refine ⟨⟨Array Nat × List Nat × List Lc, fun q => Left zb true false arr clock q.1 (q.2.1.map (entL out)) ∧ LpI out q.2.1 q.2.2, fun q => q.2.1.length, fun q => ⟨[(5, .d (.p 5 0)), (12, .d (.ow 901 q.2.2.length)), (78, .d (.u (.v (.pointer (some ⟨bi, 0, none⟩)))))], [(5, .bx 25 [.u (.int .i64 0), .u (.int .i64 0)]), (903, itOb zb bm bi arr clock q.1), (905, .fm 98 (out.map lcE)), (901, .ar 98 4 (q.2.2.map lcR))]⟩, (#[], List.range out.length, []), ⟨hL1, ⟨fun k hk => by simpa using hk, by rw [range_map]; exact .refl _⟩⟩, ⟨[(5, .k 5), (903, .k 903), (905, .k 905), (901, .n 4)], ⟨by (try dsimp only); (repeat (refine LeT.cons rfl (by first | exact LeS.d (by first | exact LeD.u rfl | exact LeD.p rfl | exact LeD.no rfl rfl | fail) | fail) ?_)); exact LeT.nil, by (try dsimp only); repeat (first | exact LeO.nil | refine LeO.bx rfl rfl (by repeat (first | exact LeL.nil | refine LeL.cons (by first | exact LeD.u rfl | fail) ?_)) ?_ | refine LeO.ab rfl rfl (by repeat (first | exact LeL.nil | fail)) (by first | rfl | fail) ?_ | refine LeO.fm rfl (by first | rfl | fail) ?_ | refine LeO.no rfl rfl ?_)⟩⟩, fun q hq => ?_⟩⟩
    obtain ⟨seen, ks, res⟩ := q
    obtain ⟨hL, hI⟩ := hq
    dsimp only at hL hI ⊢
    repeat' ((conv => whnf); first | refine Raw.next (k := 903) (bm := bm) hL rfl rfl rfl (fun h0 => ?_) (fun l1 e l2 s he hC hL' => ?_) | refine Gs.id ?_ | fail)
    · obtain rfl : ks = [] := by simpa using h0
      refine ⟨?_⟩
      have hpm : res.Perm out := by simpa using hI.pm
      have hrl : res.length = out.length := hpm.length_eq
      have hso := sort_T res (by omega)
      have hsr : srtL res = srtL out := srtL_congr hpm ((hpm.map Lc.pl).nodup_iff.2 hnd)
      have hsl : (srtL out).length = res.length := by rw [hrl]; exact (srtL_perm out).length_eq
      rw [hsr] at hso
      rw [hsl]
      repeat' ((conv => whnf); first | refine Gs.id ?_ | with_reducible refine Brn.F rfl ?_ | (refine CL.mk (Or.inr (Raw.callFP (x := .func _) [901] [901] [] rfl rfl rfl rfl rfl rfl rfl rfl rfl (hso) ?_)); rintro _ _ ⟨rfl, rfl⟩; refine BkP.mk rfl rfl ?_))
      all_goals (conv => whnf)
      all_goals refine RetO.mk ⟨[(901, .k 901)], _, _, (by exact LeS.ts (by repeat (first | exact LeCs.nil | refine LeCs.cons (by first | exact LeC.d (by first | exact LeD.ow rfl rfl | fail) | exact LeC.a (by repeat (first | exact LeL.nil | refine LeL.cons (by first | exact LeD.u rfl | fail) ?_))) ?_))), (by repeat (first | exact LeO.nil | refine LeO.ar rfl rfl (by first | rfl | fail) ?_ | fail)), rfl, rfl⟩
    · obtain ⟨k1, k, k2, rfl, rfl, hl12, hk, hI'⟩ := hI.next he
      rw [hl12] at hL'
      refine ⟨?_⟩
      have hget : (out.map lcE)[k]? = some (lcE (out.getD k default)) := by simp [hk]
      have hrl : res.length + 1 ≤ 40000 := by have := hI'.pm.length_eq; simp at this; omega
      repeat' ((conv => whnf); first | refine Raw.entry (k := 903) (bm := bm) hL' hC rfl rfl rfl ?_ | refine Rw.get hget ?_ | refine Gs.id ?_ | with_reducible refine Brn.T rfl ?_ | refine Apd.mk (by first | rfl | simp) (by first | rfl | fail) (by (try simp only [smT]); first | omega | fail) (by unfold maxLen; first | (simp; omega) | fail) ?_ | fail)
      all_goals (conv => whnf)
      all_goals exact ⟨(s, k1 ++ k2, res ++ [out.getD k default]), ⟨hL', hI'⟩, by simp, [(5, .k 5), (903, .k 903), (905, .k 905), (901, .k 88)], ⟨by (try dsimp only); (repeat (refine LeT.cons rfl (by first | exact LeS.d (by first | exact LeD.u rfl | exact LeD.p rfl | exact LeD.ow rfl (by simp) | fail) | fail) ?_)); exact LeT.nil, by (try dsimp only); repeat (first | exact LeO.nil | refine LeO.bx rfl rfl (by repeat (first | exact LeL.nil | refine LeL.cons (by first | exact LeD.u rfl | fail) ?_)) ?_ | refine LeO.ar rfl rfl (by first | rfl | simp) ?_ | refine LeO.ab rfl rfl (by repeat (first | exact LeL.nil | fail)) (by first | rfl | fail) ?_ | refine LeO.fm rfl (by first | rfl | fail) ?_ | fail)⟩⟩
end Go.Proofs.YtabmcfnefjipbaaGreatDoor
namespace Go.Proofs.YtabmcfnefjipbaaGreatDoor
open Go.RowKit Go.Sort
theorem interc_snoc (sep x : List UInt8) : ∀ {l : List (List UInt8)}, l ≠ [] → sep.intercalate (l ++ [x]) = sep.intercalate l ++ (sep ++ x)
  | [], h => absurd rfl h
  | [y], _ => by simp [List.intercalate]
  | y :: z :: r, _ => by
    have ih := interc_snoc sep x (l := z :: r) (by simp)
    simp only [List.intercalate, List.cons_append, List.intersperse_cons_cons, List.flatten_cons, List.append_assoc] at ih ⊢
    rw [ih]
theorem joinB_list (l : List ByteArray) (sep : ByteArray) : ∀ n, n ≤ l.length → (joinB l sep n).data.toList = Lib.join ((l.take n).map (·.data.toList)) sep.data.toList
  | 0, _ => rfl
  | n + 1, h => by
    have ih := joinB_list l sep n (by omega)
    have hn : l[n]? = some l[n] := List.getElem?_eq_getElem (by omega)
    rw [joinB, hn, List.take_add_one, hn]
    simp only [Option.getD_some, Option.toList_some, List.map_append, List.map_cons, List.map_nil]
    by_cases h0 : 0 < n
    · rw [if_pos h0]
      simp only [ByteArray.data_append, Array.toList_append, List.append_assoc, ih]
      unfold Lib.join
      rw [interc_snoc _ _ (by intro e; have h1 : ((l.take n).map (·.data.toList)).length = 0 := by {rw [e]; rfl}; rw [List.length_map, List.length_take] at h1; omega)]
    · have : n = 0 := by omega
      subst this
      rw [if_neg (by omega)]
      simp only [ByteArray.data_append, Array.toList_append, ih]
      simp [Lib.join, List.intercalate]
theorem bytes_ext {a b : ByteArray} (h : a.data.toList = b.data.toList) : a = b := by
  obtain ⟨x⟩ := a
  obtain ⟨y⟩ := b
  have : x = y := Array.toList_inj.1 h
  rw [this]
theorem joinB_eq (l : List ByteArray) (sep : ByteArray) : (⟨(Lib.join (l.map (·.data.toList)) sep.data.toList).toArray⟩ : ByteArray) = joinB l sep l.length := by
  refine bytes_ext ?_
  rw [joinB_list l sep l.length (Nat.le_refl _), List.take_length]
theorem strs_flat : ∀ xs : List ByteArray, (strs xs).flatten = xs.map V.str
  | [] => rfl
  | x :: r => by
    have ih := strs_flat r
    unfold strs at ih ⊢
    simp only [List.map_cons, List.flatten_cons, ih]; rfl
theorem sjoin_T (xs : List ByteArray) (sep : ByteArray) (ht : total xs sep xs.length ≤ 100000000000) (hx : xs.length ≤ 100000000000) : CallsA Tryz.prog 42 [.d (.u (.sl 1 (strs xs))), dsr sep] [] (Is (dsr (joinB xs sep xs.length))) := by
  have hsz := joinB_size xs sep xs.length
  refine callsA_flat ⟨_, _, Tryz.func42, rfl, rfl⟩ (u := .string (joinB xs sep xs.length)) (fun _ _ => .d (.u (.str _ (by unfold maxLen; omega)))) fun ρ G w vs ⟨hl, hd, hg⟩ => ?_
  match vs, hl with
  | [v0, v1], _ =>
  have d0 := hd 0 _ _ rfl rfl
  have d1 := hd 1 _ _ rfl rfl
  cases d1 with | d d1 => cases d1 with | u d1 => cases d1 with | str _ hs1 =>
  cases d0 with | d d0 => cases d0 with | u d0 => cases d0 with | @sl _ _ A n c b o us hn hc hm hr hA hlu hu h1 hdd =>
  have hn' : n = xs.length := by rw [← hn]; simp
  subst hn'
  by_cases h0 : xs = []
  · subst h0
    exact (Any.strings_Join_none lays156 Builder_Extra_156 A c sep w).mono fun e w' ⟨he, hw⟩ => ⟨he, hw ▸ Below.refl _ _⟩
  · obtain ⟨rfl, hb⟩ := hA (by simpa using h0)
    rw [strs_flat] at hlu hdd
    have hcells : ∀ (j : Nat) x, xs[j]? = some x → w.cell? ⟨b, o + j, none⟩ = some (.string x) := by
      intro j x hx
      have hj : j < us.length := by rw [hlu, List.length_map]; exact (List.getElem?_eq_some_iff.1 hx).1
      have hu1 : us[j]? = some us[j] := List.getElem?_eq_getElem hj
      have := hdd j (.str x) us[j] (by rw [List.getElem?_map, hx]; rfl) hu1
      rw [hu j _ hu1]
      generalize us[j] = u at this
      cases this
      rfl
    have := Any.strings_Join lays156 Builder_Extra_156 b o c xs sep w hcells (hg b hb) (by omega) hc (by
      have e := joinB_list xs sep xs.length (Nat.le_refl _)
      rw [List.take_length] at e
      rw [← e, Array.length_toList]
      show (joinB xs sep xs.length).size ≤ _
      omega)
    rw [joinB_eq] at this
    exact this
/-- A decimal numeral. -/
def itoaB (n : Int) : ByteArray := ⟨(Lib.itoa n).toArray⟩
theorem decD_len : ∀ (k u : Nat), u < 10 ^ (k + 1) → (Lib.decDigits u).length ≤ k + 1
  | 0, u, h => by rw [Lib.decDigits, dif_pos (by simpa using h)]; simp
  | k + 1, u, h => by
    rw [Lib.decDigits]
    split
    · simp
    · have := decD_len k (u / 10) (by rw [Nat.pow_succ] at h; omega)
      simp; omega
theorem itoaB_size {n : Int} (h0 : -9223372036854775808 ≤ n) (h1 : n ≤ 9223372036854775807) : (itoaB n).size ≤ 21 := by
  show (Lib.itoa n).toArray.size ≤ 21
  rw [List.size_toArray, Lib.itoa]
  split
  · have := decD_len 19 n.natAbs (by omega)
    simp; omega
  · have := decD_len 19 n.toNat (by omega)
    omega
/-- Frozen memory that holds the table of powers of ten. -/
structure Tab (zt : Fz) : Prop where
  out : ∃ g, Tryz.prog.globalNamed "internal/strconv.uint64pow10" = some g ∧ zt.G g ∧ Lib.TabIs Tryz.prog zt.w0 "internal/strconv.uint64pow10" .u64 Lib.pow10Tab
abbrev tbOb (zt : Fz) : Ob := .ab [] [] zt (· = [])
theorem itoa_T (n : Int) (h0 : -9223372036854775808 ≤ n) (h1 : n ≤ 9223372036854775807) (zt : Fz) (ht : Tab zt) : CallsA Tryz.prog 43 [di n] [(907, tbOb zt)] (Iso (dsr (itoaB n)) [(907, tbOb zt)]) := by
  refine ⟨⟨_, _, Tryz.func43, rfl, rfl⟩, fun c ρ hp vs w hw hl g => ?_⟩
  match vs, hl with
  | [v0], _ =>
  obtain ⟨v, q1, q2⟩ := g.tm 0 _ rfl
  cases q1
  cases q2 with | d q2 => cases q2 with | u q2 => cases q2 with | int =>
  obtain ⟨X, hp', rfl, ⟨rfl, hmz, _⟩, rfl⟩ := g.ob
  obtain ⟨gb, g1, g2, g3⟩ := ht.out
  have htab : Lib.TabIs Tryz.prog w "internal/strconv.uint64pow10" .u64 Lib.pow10Tab := by
    unfold Lib.TabIs World.var? at g3 ⊢
    rw [g1] at g3 ⊢
    simp only [Option.bind_some] at g3 ⊢
    have e : w.heap[gb]? = zt.w0.heap[gb]? := (hw.same.block gb (g.gF gb (hmz.g gb g2))).trans (hmz.w gb g2)
    rw [e]
    exact g3
  refine (Any.strconv_Itoa laysM171 n h0 h1 w htab).mono ?_
  rintro e w' ⟨rfl, k, os, rfl⟩
  have hb : Below w.heap.size w (grow (w.drewN k) os) := ⟨rfl, rfl, rfl, by simp [grow, World.drewN], fun j hj => by simp only [grow, World.drewN]; rw [Array.getElem?_append_left hj]⟩
  refine ⟨_, ⟨c.F, c.w, _⟩, dsr (itoaB n), _, ρ, c.G, rfl, hw.below hb, ⟨fun _ h => h, Same.refl _ _, g.gF, fun _ h => .inl h, .refl _, fun k s' hk => ?_, g.ob⟩, rfl, rfl⟩
  simp only [lk] at hk ⊢
  cases hb : Nat.beq k 0 <;> rw [hb] at hk
  · cases hk
  · cases hk
    exact ⟨_, rfl, .d (.u (.str _ (by have := itoaB_size h0 h1; unfold maxLen; omega)))⟩
end Go.Proofs.YtabmcfnefjipbaaGreatDoor
namespace Go.Proofs.YtabmcfnefjipbaaGreatDoor
open Go.RowKit
structure Sk where
  nm : ByteArray
  sm : Int
abbrev skN (c : Sk) : List V := [.str c.nm]
abbrev skS (c : Sk) : List V := [.int .i64 c.sm]
def zeroS (n : ByteArray) : Sk := ⟨n, 0⟩
def addS (a : Int) (c : Sk) : Sk := { c with sm := c.sm + a }
def encS (n : ByteArray) : List V := [.str n]
def valS (k : Nat) : List V := [.int .i64 (k : Int)]
abbrev atS (l : List Sk) : List (List V × List V) := atK Sk.nm encS valS 0 l
theorem encS_eq (a b : ByteArray) : eqCs (encS a) (encS b) = decide (b = a) := by
  simp only [encS, eqCs, eqC]
  by_cases h : a = b
  · subst h; simp
  · simp [h, Ne.symm h]
abbrev colon : ByteArray := ByteArray.mk #[58]
abbrev semi : ByteArray := ByteArray.mk #[59]
abbrev spaceB : ByteArray := ByteArray.mk #[32]
def partB (a : Ac) : ByteArray := a.md ++ colon ++ a.fn
def stackB (s : List Ac) : ByteArray := joinB (s.map partB) semi (s.map partB).length
def stepS (out : List Sk) (a : Int) (s : List Ac) : List Sk := updK Sk.nm (addS a) (ensK Sk.nm zeroS out (stackB s)) (stackB s)
def stacksAt (l : List Ev) (fuel : Int) : Nat → List Sk
  | 0 => [⟨ByteArray.mk #[], beforeM l fuel⟩]
  | i + 1 => stepS (stacksAt l fuel i) (amt l fuel i) (stackAt l (i + 1))
def outS (c : Sk) : ByteArray := c.nm ++ spaceB ++ itoaB c.sm
def stacksM (l : List Ev) (fuel : Int) : List ByteArray := ((stacksAt l fuel l.length).filter fun c => decide (0 < c.sm)).map outS
/-- Bounds. -/
def SB (B : Int) (out : List Sk) : Prop := ∀ c ∈ out, 0 ≤ c.sm ∧ c.sm ≤ B ∧ c.nm.size ≤ 2000000
theorem SB.step {B a : Int} {out : List Sk} {s : List Ac} (h : SB B out) (hB : 0 ≤ B) (ha : 0 ≤ a) (hs : (stackB s).size ≤ 2000000) : SB (B + a) (stepS out a s) := by
  have h1 : SB B (ensK Sk.nm zeroS out (stackB s)) := by
    intro c hc
    unfold ensK at hc
    split at hc
    · exact h c hc
    · rcases List.mem_append.1 hc with hc | hc
      · exact h c hc
      · simp at hc; subst hc; exact ⟨Int.le_refl _, hB, hs⟩
  intro c hc
  rcases mem_updK hc with hc | ⟨c0, h2, _, rfl⟩
  · have := h1 c hc; omega
  · have := h1 c0 h2; simp only [addS]; omega
theorem stepS_len (out : List Sk) (a : Int) (s : List Ac) : (stepS out a s).length ≤ out.length + 1 := by
  have e := congrArg List.length (updK_keys (key := Sk.nm) (addS a) (fun _ => rfl) (ensK Sk.nm zeroS out (stackB s)) (stackB s))
  simp only [List.length_map] at e
  unfold stepS
  rw [e]
  unfold ensK
  split <;> simp
theorem stacks_len {l : List Ev} {fuel : Int} : ∀ i, (stacksAt l fuel i).length ≤ i + 1
  | 0 => by simp [stacksAt]
  | i + 1 => by
    have := stacks_len (l := l) (fuel := fuel) i
    have := stepS_len (stacksAt l fuel i) (amt l fuel i) (stackAt l (i + 1))
    rw [stacksAt]
    omega
/-- A name is short. -/
theorem dotted_size {s : ByteArray} (h : dottedM s = true) : s.size ≤ 60 := by
  unfold dottedM at h
  grind
theorem nameB_size {s : ByteArray} (h : nameB s = true) : s.size ≤ 24 := by
  unfold nameB at h
  simp only [Bool.and_eq_true, decide_eq_true_eq] at h
  omega
theorem stack_ok {l : List Ev} (hv : Vd l) : ∀ i, i ≤ l.length → ∀ a ∈ stackAt l i, a.md.size ≤ 60 ∧ a.fn.size ≤ 24
  | 0, _, a, h => by simp [stackAt] at h
  | i + 1, hi, a, h => by
    have he : l[i]? = some l[i] := List.getElem?_eq_getElem (by omega)
    have ok := hv.ok he
    have ih := stack_ok hv i (by omega)
    rw [stackAt_succ he, stepL] at h
    split at h
    · rcases List.mem_append.1 h with h | h
      · exact ih a h
      · simp at h; subst h; exact ⟨dotted_size ok.name.1, nameB_size ok.name.2⟩
    · split at h
      · unfold setLn at h
        split at h
        · rename_i b hb
          rcases List.mem_append.1 h with h | h
          · exact ih a (List.dropLast_subset _ h)
          · simp at h; subst h; exact ih b (List.mem_of_getLast? hb)
        · exact ih a h
      · exact ih a (List.dropLast_subset _ h)
theorem partB_size {a : Ac} (h : a.md.size ≤ 60 ∧ a.fn.size ≤ 24) : (partB a).size ≤ 85 := by
  have : colon.size = 1 := rfl
  simp only [partB, ByteArray.size_append]; omega
theorem total_le {l : List ByteArray} {sep : ByteArray} {m : Nat} (h : ∀ x ∈ l, x.size ≤ m) : ∀ n, total l sep n ≤ n * (sep.size + m)
  | 0 => by simp [total]
  | n + 1 => by
    have ih := total_le (sep := sep) h n
    have hx : (l[n]?.getD (ByteArray.mk #[])).size ≤ m := by
      cases hn : l[n]? with
      | none => exact Nat.zero_le _
      | some x => exact h x (List.mem_of_getElem? hn)
    rw [total, Nat.add_mul]
    omega
theorem stack_total {l : List Ev} (hv : Vd l) (i : Nat) (hi : i ≤ l.length) (hl : l.length ≤ 20000) : total ((stackAt l i).map partB) semi ((stackAt l i).map partB).length ≤ 1720000 := by
  have hlen := stack_len (l := l) i
  have h := total_le (l := (stackAt l i).map partB) (sep := semi) (m := 85) (fun x hx => by
    obtain ⟨a, ha, rfl⟩ := List.mem_map.1 hx
    exact partB_size (stack_ok hv i hi a ha)) ((stackAt l i).map partB).length
  have : semi.size = 1 := rfl
  rw [List.length_map] at h ⊢
  rw [this] at h
  have h2 := Nat.mul_le_mul_right 86 (show (stackAt l i).length ≤ 20000 by omega)
  omega
theorem stackB_size {l : List Ev} (hv : Vd l) (i : Nat) (hi : i ≤ l.length) (hl : l.length ≤ 20000) : (stackB (stackAt l i)).size ≤ 1720000 :=
  Nat.le_trans (joinB_size _ _ _) (stack_total hv i hi hl)
theorem stacks_SB {l : List Ev} {fuel : Int} (t : Tr l fuel) : ∀ i, i ≤ l.length → SB (curF l fuel i) (stacksAt l fuel i)
  | 0, _ => fun c hc => by
    have h := t.cur 0 (by omega)
    have e : beforeM l fuel = curF l fuel 0 := by cases l <;> rfl
    simp only [stacksAt, List.mem_cons, List.not_mem_nil, or_false] at hc
    subst hc
    exact ⟨by rw [e]; exact h.1, by rw [e]; exact Int.le_refl _, show (ByteArray.mk #[]).size ≤ 2000000 by decide⟩
  | i + 1, hi => by
    have he : l[i]? = some l[i] := List.getElem?_eq_getElem (by omega)
    have ih := stacks_SB t i (by omega)
    have hc := t.cur i (by omega)
    have hz := stackB_size t.vd (i + 1) hi t.len
    rw [stacksAt]
    have := ih.step hc.1 (t.amt he) (s := stackAt l (i + 1)) (by omega)
    rw [amt_eq he] at this ⊢
    rwa [show curF l fuel i + (curF l fuel (i + 1) - curF l fuel i) = curF l fuel (i + 1) by omega] at this
theorem atS_ok {out : List Sk} : ∀ e ∈ atS out, keyT .sr e.1 = true := by
  intro e h
  obtain ⟨k, c, _, rfl⟩ := atK_mem e h
  rfl
end Go.Proofs.YtabmcfnefjipbaaGreatDoor
