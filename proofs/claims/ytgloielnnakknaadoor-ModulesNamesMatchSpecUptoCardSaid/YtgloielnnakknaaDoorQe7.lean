/-
  ModulesNamesMatchSpec, where what it reads is of bulk at most 1048576: for all units the law returns true, and the units read afterwards as they read before. The tables of unicode/utf8 are listed and tied to the library's text.
-/
import Derived.Test.YtgloielnnakknaaDoorQe6
namespace Go.Proofs.YtgloielnnakknaaDoor
open Go.RowKit
theorem validM_fst : ∀ (l : List Un) (i : Nat) (seen : List ByteArray), (validM l i seen).1 = 0 → validM l i seen = (0, 0)
  | [], _, _, _ => rfl
  | u :: r, i, seen, h => by
    rw [validM] at h ⊢
    split
    · rename_i h1
      rw [if_pos h1] at h
      exact absurd h h1
    · rename_i h1
      rw [if_neg h1] at h
      exact validM_fst r _ _ h
theorem validateM_fst {l : List Un} (h : (validateM l).1 = 0) : validateM l = (0, 0) := by
  unfold validateM at h ⊢
  split
  · rename_i h1; rw [if_pos h1] at h; cases h
  · rename_i h1
    rw [if_neg h1] at h
    split
    · rename_i h2; rw [if_pos h2] at h; cases h
    · rename_i h2
      rw [if_neg h2] at h
      exact validM_fst l _ _ h
theorem fin_good {l : List Un} (h : (validateM l).1 = 0) : GoodR l initR (finR l) := runMR_P l 5001 initR 0 (initR_inv h).1 rfl (by simp [initR]) (by simp [initR])
theorem fin_relW {l : List Un} (h : (validateM l).1 = 0) (hf : (finS l).full = false) : RelW (finS l) (finR l) := by
  rcases fin_sim h with q | q
  · have e := q.1
    rw [show (runM l 5001 initS 0).1 = finS l from rfl, hf] at e
    cases e
  · exact q.2.1
theorem fin_tx {l : List Un} (h : (validateM l).1 = 0) (hf : (finS l).full = false) : Tx (finR l).mods := by
  obtain ⟨hU, _⟩ := valid_Uok h
  have g := fin_good h
  have r := fin_relW h hf
  have hI := fin_inv h
  have hlog := hI.log
  have hm1 : (finR l).mods.length ≤ (finR l).log.length + 1 := g.m1
  rw [r.log] at hm1
  refine ⟨by omega, fun m hm => hasU_size hU (g.inv.nm m hm), fun m hm => ⟨?_, g.inv.len m hm⟩, fun m hm n hn => namesA_size hU (g.inv.sub m hm n hn), fun m hm v hv => ?_⟩
  · have h1 := nd_len (g.inv.nd m hm) (g.inv.sub m hm)
    have := namesA_len hU
    omega
  · obtain ⟨i, hi⟩ := List.getElem?_of_mem hm
    rw [r.get] at hi
    cases e : (finS l).mods[i]? with
    | none => rw [e] at hi; cases hi
    | some m0 =>
      rw [e] at hi
      simp only [Option.map_some, Option.some.injEq] at hi
      subst hi
      simp only [toR, List.mem_map] at hv
      obtain ⟨a, ha, rfl⟩ := hv
      have hp := hI.ptr m0 (List.mem_of_getElem? e) a ha
      rw [r.len]
      cases ea : a.mod with
      | none => simp only [pvR]; omega
      | some j => have := hp j ea; simp only [pvR]; omega
theorem srt_none {i : Nat} {l : List Nat} (h : l.contains i = false) : (l.filter fun j => decide (i ≤ j)) = l.filter fun j => decide (i + 1 ≤ j) := by
  apply List.filter_congr
  intro j hj
  have : j ≠ i := fun e => by subst e; simp [hj] at h
  rw [Bool.eq_iff_iff]; simp; omega
theorem srt_cons : ∀ {i : Nat} {l : List Nat}, l.Pairwise (· < ·) → i ∈ l → (l.filter fun j => decide (i ≤ j)) = i :: l.filter fun j => decide (i + 1 ≤ j)
  | i, a :: r, hs, hi => by
    rw [List.pairwise_cons] at hs
    rcases List.mem_cons.1 hi with rfl | hi
    · have h1 : (r.filter fun j => decide (i ≤ j)) = r.filter fun j => decide (i + 1 ≤ j) := by
        apply List.filter_congr
        intro j hj
        have := hs.1 j hj
        rw [Bool.eq_iff_iff]; simp; omega
      rw [List.filter_cons, List.filter_cons, if_pos (by simp), if_neg (by simp), h1]
    · have := hs.1 i hi
      rw [List.filter_cons, List.filter_cons, if_neg (by simp; omega), if_neg (by simp; omega)]
      exact srt_cons hs.2 hi
theorem emp_app (b : ByteArray) : emp ++ b = b := by
  apply ByteArray.ext
  simp [emp]
theorem attR_none (ms : List Rm) (b n : ByteArray) : attR ms b n (-1) = (b ++ spB) ++ n := by rw [attR, if_neg (by decide)]
theorem attR_some (ms : List Rm) (b n : ByteArray) (j : Nat) : attR ms b n (j : Int) = ((b ++ spB) ++ n ++ eqsB) ++ nmI ms (j : Int) := by rw [attR, if_pos (by omega)]
theorem atts_eq {s : Ld} {w : Wd} (r : RelW s w) : ∀ (l : List At) (b : ByteArray), mtxR w.mods b (l.map At.name) (l.map fun a => pvR a.mod) = attsB s.mods b l
  | [], b => by rw [attsB]; rfl
  | a :: q, b => by
    rw [List.map_cons, List.map_cons, mtxR, attsB, atts_eq r q]
    congr 1
    unfold attB
    cases e : a.mod with
    | none => rw [show pvR none = -1 from rfl, attR_none, ByteArray.append_assoc]
    | some j =>
      have hn : nmI w.mods (j : Int) = nameM s.mods j := by
        unfold nmI nameM nmOf
        rw [Int.toNat_natCast, r.get]
        cases s.mods[j]? <;> rfl
      rw [show pvR (some j) = (j : Int) from rfl, attR_some, hn]
      simp only [ByteArray.append_assoc]
theorem texts_eq {s : Ld} {w : Wd} (r : RelW s w) (ht : ∀ j ∈ s.table, j < s.mods.length) : ∀ (n i : Nat) (out : List ByteArray), w.mods.length ≤ i + n → textsR w.mods out (w.mods.drop i) = out ++ (s.table.filter fun j => decide (i ≤ j)).map (mdB s.mods)
  | 0, i, out, h => by
    rw [List.drop_eq_nil_of_le (by omega), textsR]
    have : (s.table.filter fun j => decide (i ≤ j)) = [] := by
      rw [List.filter_eq_nil_iff]
      intro j hj
      have := ht j hj
      have := r.len
      simp; omega
    rw [this, List.map_nil, List.append_nil]
  | n + 1, i, out, h => by
    by_cases hi : i < w.mods.length
    · have hi2 : i < s.mods.length := by rw [← r.len]; exact hi
      have e := List.getElem?_eq_getElem hi2
      have ew := r.at e
      generalize s.mods[i] = m at e ew
      rw [drop_get ew, textsR]
      cases hc : s.table.contains i
      · rw [hc] at ew
        rw [if_pos (by simp [toR]), texts_eq r ht n (i + 1) out (by omega), srt_none hc]
      · rw [hc] at ew
        have hmem : i ∈ s.table := by simpa using hc
        rw [if_neg (by simp [toR]), texts_eq r ht n (i + 1) _ (by omega), srt_cons r.srt hmem, List.map_cons]
        have hM : mtxR w.mods ((toR m (!true)).name ++ colB) (toR m (!true)).nms (toR m (!true)).vals = mdB s.mods i := by
          have h1 : nameM s.mods i = m.name := by simp [nameM, nmOf, e]
          have h2 : atsM s.mods i = m.ats := by simp [atsM, e]
          unfold mdB
          rw [h1, h2, emp_app]
          exact atts_eq r m.ats _
        rw [hM, List.append_assoc]; rfl
    · rw [List.drop_eq_nil_of_le (by omega), textsR]
      have : (s.table.filter fun j => decide (i ≤ j)) = [] := by
        rw [List.filter_eq_nil_iff]
        intro j hj
        have := ht j hj
        have := r.len
        simp; omega
      rw [this, List.map_nil, List.append_nil]
theorem namesW_none {mods : List Md} : ∀ {l : List Nat} {out : List ByteArray}, namesW mods out l = none → ∃ j ∈ l, 4000 < ((mdB mods j).size : Int)
  | j :: r, out, h => by
    rw [namesW] at h
    split at h
    · rename_i h1; exact ⟨j, by simp, h1⟩
    · obtain ⟨k, h1, h2⟩ := namesW_none h
      exact ⟨k, by simp [h1], h2⟩
theorem namesW_some {mods : List Md} : ∀ {l : List Nat} {out res : List ByteArray}, namesW mods out l = some res → res = out ++ l.map (mdB mods) ∧ ∀ j ∈ l, ¬ 4000 < ((mdB mods j).size : Int)
  | [], out, res, h => by
    rw [namesW] at h; injection h with h; subst h; simp
  | j :: r, out, res, h => by
    rw [namesW] at h
    split at h
    · cases h
    · rename_i h1
      obtain ⟨h2, h3⟩ := namesW_some h
      refine ⟨by rw [h2]; simp, fun k hk => ?_⟩
      rcases List.mem_cons.1 hk with rfl | hk
      · exact h1
      · exact h3 k hk
theorem fin_texts {l : List Un} (h : (validateM l).1 = 0) (hf : (finS l).full = false) : textsR (finR l).mods [] (finR l).mods = (finS l).table.map (mdB (finS l).mods) := by
  have := texts_eq (fin_relW h hf) (fin_inv h).tab (finR l).mods.length 0 [] (by omega)
  rw [List.drop_zero] at this
  rw [this, List.filter_eq_self.2 (by simp), List.nil_append]
end Go.Proofs.YtgloielnnakknaaDoor
namespace Go.Proofs.YtgloielnnakknaaDoor
open Go.RowKit
def MfS2 (s : SV) : Prop := (∃ x, s = .d (.u x) ∧ mfV x = true) ∨ ∃ k n, s = .d (.ow k n)
def MfO2 (ob : List (Nat × Ob)) : Prop := ∀ p ∈ ob, ∃ t sz rs, p.2 = .ar t sz rs ∧ ∀ r ∈ rs, ∀ x ∈ r, mfV x = true
theorem DenS.mf2 {ρ : Rho} {z z' : Fz} (hG : z'.G.fam = z.G.fam) {s : SV} {v : Value} (hs : MfS2 s) (h : DenS ρ z s v) : DenS ρ z' s v := by
  rcases hs with ⟨x, rfl, hx⟩ | ⟨k, n, rfl⟩
  · cases h with | d h => cases h with | u h => exact .d (.u (DenV.mf hG hx h))
  · cases h with | d h => cases h with | ow h hA hc => exact .d (.ow h hA hc)
theorem ObsOk.mf2 {ρ : Rho} {z z' : Fz} (hG : z'.G.fam = z.G.fam) (hO : z'.G.own = z.G.own) : ∀ {ob : List (Nat × Ob)} {hp : List (Nat × Hb)}, MfO2 ob → ObsOk ρ z ob hp → ObsOk ρ z' ob hp
  | [], _, _, h => h
  | (k, o) :: r, hp, hf, ⟨X, hp', h1, h2, h3⟩ => by
    refine ⟨X, hp', h1, ?_, ObsOk.mf2 hG hO (fun p hp => hf p (by simp [hp])) h3⟩
    obtain ⟨t, sz, rs, e, q⟩ := hf (k, o) (by simp)
    dsimp only at e
    subst e
    obtain ⟨A, c, us, a1, a2, a3, a4, a5⟩ := h2
    exact ⟨A, c, us, a1, a2, a3, a4.mf hG fun x hx => by
      obtain ⟨r, q1, q2⟩ := List.mem_flatten.1 hx
      exact q r q1 x q2, a5⟩
section
variable {P : Program} {T : List (Nat × Ty)} {nt : Nat} {Q : Exit → Act → World → Prop} {c : Cx} {st : St} {tm : List (Nat × Value)} {h : Hs} {ρ : Rho} {G : FG} {ty : TypeId} {pos : String} {af : Array Edge} {gd : Option (Nat × Bool)} {K : Kt}
theorem callN_vals {f : FuncId} {ss : List SV} {obP obF : List (Nat × Ob)} {tmS tmK : List (Nat × SV)} {ns : List Nat} {QS : SV → List (Nat × Ob) → Prop} {F : Nat → Prop} {w0 : World} {hpP hpF : List (Nat × Hb)} (g : Gd c ⟨tmS, obP ++ obF⟩ tm ⟨F, w0, hpP ++ hpF⟩ ρ G) (oP : ObsOk ρ ⟨G, w0⟩ obP hpP) (oF : ObsOk ρ ⟨G, w0⟩ obF hpF) {vs : List Value} (a2 : vs.length = ss.length) (a3 : ∀ w, Hp ⟨F, w0, hpF⟩ w → ∀ (j : Nat) s v, ss[j]? = some s → vs[j]? = some v → DenS ρ ⟨G.or (Bl hpF), w⟩ s v) (hk : ∀ k s, lk k tmK = some s → lk k tmS = some s)
    (h1 : okTm (fun k => !inN ns k) tmK = true) (h2 : okO (fun k => !inN ns k) obF = true) (h3 : okO (inN ns) obP = true) (hc : CallsA P f ss obP QS) (hmf : ∀ s ob', QS s ob' → MfS2 s ∧ MfO2 ob') :
    ∀ w, Hp ⟨F, w0, hpP ++ hpF⟩ w → Calls P f vs.toArray w fun e w' => ∃ v h' s ob' ρ' G', e = .returned v ∧ Hp h' w' ∧ QS s ob' ∧ (s.okP (inN ns) = true → okO (inN ns) ob' = true → DenS ρ' ⟨G', h'.w0⟩ s v ∧ Gd c ⟨tmK, ob' ++ obF⟩ tm h' ρ' G') := by
  intro w hw
  have hwF : Hp ⟨F, w0, hpF⟩ w := hw.sub (List.sublist_append_right _ _)
  have hnd := hw.nd
  rw [List.map_append, List.nodup_append] at hnd
  have hbF : ∀ b, Bl hpF b → ¬ F b := fun b ⟨x, hx⟩ => hw.out b x (List.mem_append_right _ hx)
  have hPF : ∀ b x, (b, x) ∈ hpP → ¬ Bl hpF b := fun b x hx ⟨y, hy⟩ => hnd.2.2 b (List.mem_map_of_mem (f := Prod.fst) hx) b (List.mem_map_of_mem (f := Prod.fst) hy) rfl
  have hm0 : Mz ⟨G, w0⟩ ⟨⟨fun b => G b ∨ Bl hpF b, G.fam, famIn obP⟩, w⟩ := ⟨fun _ h => .inl h, fun b hb => hw.same.block b (g.gF b hb), fun _ _ _ h => h⟩
  have hm1 : Mz ⟨G.or (Bl hpF), w⟩ ⟨⟨fun b => G b ∨ Bl hpF b, G.fam, famIn obP⟩, w⟩ := ⟨fun _ h => h, fun b hb => rfl, fun _ _ _ h => h⟩
  refine (hc.out ⟨fun b => F b ∨ Bl hpF b, w, ⟨fun b => G b ∨ Bl hpF b, G.fam, famIn obP⟩⟩ ρ hpP vs w ⟨Same.refl _ _, fun b hb => ?_, fun b x hx => hw.blk b x (List.mem_append_left _ hx), hnd.1, fun b x hx hb => ?_⟩ a2 ⟨fun _ h => h, Same.refl _ _, fun b hb => hb.imp (g.gF b) id, fun b hb => .inl hb, .refl _, fun k s hk => ?_, ?_⟩).mono ?_
  · rcases hb with hb | ⟨x, hx⟩
    · exact hw.Flt hb
    · exact (hw.blk b x (List.mem_append_right _ hx)).lt
  · rcases hb with hb | hb
    · exact hw.out b x (List.mem_append_left _ hx) hb
    · exact hPF b x hx hb
  · obtain ⟨q1, q2⟩ := lk_slT hk
    have hlt : k - 0 < vs.length := by rw [a2]; exact (List.getElem?_eq_some_iff.1 q2).1
    exact ⟨vs[k - 0], lk_slots q1 (List.getElem?_eq_getElem hlt), (a3 w hwF _ s _ q2 (List.getElem?_eq_getElem hlt)).mono hm1 .refl⟩
  · refine oP.monoF hm0 .refl fun k o hm => ?_
    refine Fms.of fun t rs e => ?_
    subst e
    exact ⟨rfl, fun _ => ⟨_, _, hm⟩⟩
  · rintro e w' ⟨v, h', s, ob', ρ', G', rfl, hw', g', hq⟩
    obtain ⟨hms, hmo⟩ := hmf s ob' hq
    obtain ⟨v', e1, e2⟩ := g'.tm 0 _ rfl
    simp only [lk, Nat.beq_refl, cond_true, Option.some.injEq] at e1
    subst e1
    have hkeep : ∀ b, F b ∨ Bl hpF b → w'.heap[b]? = w.heap[b]? := fun b hb => (hw'.same.block b (g'.fF b hb)).trans (g'.fw.block b hb)
    let ρ2 : Rho := ⟨fun k => if inN ns k = true then ρ' k else ρ k, fun k => if inN ns k = true then ρ'.os k else ρ.os k⟩
    let GN : FG := ⟨fun b => G' b ∧ ¬ Bl hpF b, G'.fam, G'.own⟩
    let G2 : FG := ⟨fun b => G b ∨ (G' b ∧ ¬ Bl hpF b), G'.fam, G.own⟩
    have hob' : ObsOk ρ' ⟨GN, h'.w0⟩ ob' h'.hp := ObsOk.mf2 (z := ⟨G', h'.w0⟩) (z' := ⟨GN, h'.w0⟩) rfl rfl hmo g'.ob
    have hsv : DenS ρ' ⟨GN, h'.w0⟩ s v := e2.mf2 (z := ⟨G', h'.w0⟩) (z' := ⟨GN, h'.w0⟩) rfl hms
    refine ⟨v, ⟨fun b => h'.F b ∧ ¬ Bl hpF b, h'.w0, h'.hp ++ hpF⟩, _, ob', ρ2, G2, rfl, ⟨hw'.same.mono fun _ hb => hb.1, fun b hb => hw'.inF b hb.1, fun b x hx => ?_, ?_, fun b x hx hb => ?_⟩, hq, fun hs ho => ⟨?_, ?_⟩⟩
    · rcases List.mem_append.1 hx with hx | hx
      · exact hw'.blk b x hx
      · exact (hw.blk b x (List.mem_append_right _ hx)).of_block (hkeep b (.inr ⟨x, hx⟩))
    · rw [List.map_append, List.nodup_append]
      refine ⟨hw'.nd, hnd.2.1, fun a ha b hb hab => ?_⟩
      subst hab
      obtain ⟨⟨_, x⟩, hx, rfl⟩ := List.mem_map.1 ha
      obtain ⟨⟨_, y⟩, hy, hxy⟩ := List.mem_map.1 hb
      dsimp only at hxy
      subst hxy
      exact hw'.out _ x hx (g'.fF _ (.inr ⟨y, hy⟩))
    · rcases List.mem_append.1 hx with hx | hx
      · exact hw'.out b x hx hb.1
      · exact hb.2 ⟨x, hx⟩
    · refine DenS.okP (p := inN ns) (fun k hk => ?_) (fun k hk i o => ?_) hs (DenS.mono (z := ⟨GN, h'.w0⟩) (z' := ⟨G2, h'.w0⟩) ⟨fun _ hb => Or.inr hb, fun _ _ => rfl, fun _ _ _ h => h⟩ .refl hsv)
      · simp only [ρ2, hk, if_true]
      · simp only [ρ2, hk, if_true]
    · have hm : Mz ⟨G, w0⟩ ⟨G2, h'.w0⟩ := ⟨fun _ hb => .inl hb, fun b hb => (g'.fw.block b (.inl (g.gF b hb))).trans (hw.same.block b (g.gF b hb)), fun k i b hb => g'.fm.gr k i b hb⟩
      have hno : ∀ k, (!inN ns k) = true → ¬ inN ns k = true := fun k hk => by simpa using hk
      have ee : ∀ k, (!inN ns k) = true → ρ2 k = ρ k := fun k hk => by show (if inN ns k = true then ρ' k else ρ k) = _; rw [if_neg (hno k hk)]
      have eo : ∀ k, (!inN ns k) = true → ∀ i o, ρ2.os k i o = ρ.os k i o := fun k hk i o => by show (if inN ns k = true then ρ'.os k else ρ.os k) i o = _; rw [if_neg (hno k hk)]
      have hfp : ∀ k, ¬ famIn obP k → G'.fam k = G.fam k := fun k hk => g'.fm.eq k hk
      refine ⟨fun b hb => ⟨g'.fF b (.inl (g.fF b hb)), fun hbl => hbF b hbl (g.fF b hb)⟩, (g.fw.trans (hw.same.mono g.fF)).trans (g'.fw.mono fun b hb => .inl (g.fF b hb)), fun b hb => ?_, fun b hb => ?_, ⟨g.fm.own, fun k hk => ?_, fun k i b hb => g'.fm.gr k i b (g.fm.gr k i b hb)⟩, fun k s0 hk0 => ?_, ObsOk.append ?_ ?_⟩
      · rcases hb with hb | hb
        · exact ⟨g'.fF b (.inl (g.gF b hb)), fun hbl => hbF b hbl (g.gF b hb)⟩
        · exact ⟨g'.gF b hb.1, hb.2⟩
      · rcases hb with hb | hb
        · exact g.gx b hb
        · rcases g'.gx b hb.1 with (q | q) | q
          · exact g.gx b q
          · exact absurd q hb.2
          · exact .inr fun h0 => q (.inl (g.fF b h0))
      · refine (hfp k fun hf => hk ?_).trans (g.fm.eq k hk)
        rw [← g.fm.own]
        exact oP.fam k hf
      · obtain ⟨u, u1, u2⟩ := g.tm k s0 (hk k s0 hk0)
        exact ⟨u, u1, (u2.mono hm .refl).okP ee eo (okTm_get h1 k s0 hk0)⟩
      · refine ObsOk.okP (p := inN ns) (fun k hk => ?_) (fun k hk i o => ?_) ho (ObsOk.monoF (z := ⟨GN, h'.w0⟩) (z' := ⟨G2, h'.w0⟩) ⟨fun _ hb => Or.inr hb, fun _ _ => rfl, fun _ _ _ h => h⟩ .refl (fun k o hm' => ?_) hob')
        · simp only [ρ2, hk, if_true]
        · simp only [ρ2, hk, if_true]
        · cases o <;> simp only [Fms]
          refine ⟨rfl, fun hown => ?_⟩
          have hown' : famIn obP k := by have := hown; rwa [show GN.own = G'.own from rfl, g'.fm.own] at this
          exact oP.fam k hown'
      · refine ObsOk.okP ee eo h2 (oF.monoF hm .refl fun k o hm' => ?_)
        refine Fms.of fun t rs e => ?_
        subst e
        refine ⟨hfp k fun ⟨t, rs, hf⟩ => ?_, id⟩
        have q1 := okO_mem h3 k _ hf
        have q2 := okO_mem h2 k _ hm'
        rw [q1] at q2
        cases q2
/-- A call that reads own arrays; its answer is an own array. -/
theorem Raw.callRN (ns : List Nat) {f : FuncId} {xs : Array Operand} {ts : Array TypeId} {d : Option Tmp} {tmT tmK : List (Nat × SV)} {ob ob0 : List (Nat × Ob)} {ss : List SV} {s0 : SV} (hx : ArgR ob tmT xs.toList ss) (hd : (match d with | some d => Nat.blt d nt | none => true) = true) (hc : CallsA P f ss [] (Iso s0 ob0)) (hms : MfS2 s0) (hmo : MfO2 ob0) (hT : keepTm (fun k => !inN ns k) [] tmT = tmK) (hO : okO (fun k => !inN ns k) ob = true)
    (k : Bk d ns tmK ob K s0 ob0) : Raw P nt ⟨d, .call ⟨.value (.func f), xs, ts⟩, ty, pos, af, gd⟩ tmT ob K := ⟨fun Q c tm h ρ G g => by
  subst hT
  obtain ⟨F, w0, hp⟩ := h
  have oP : ObsOk ρ ⟨G, w0⟩ [] [] := rfl
  obtain ⟨vs, a1, a2, a3⟩ := hx.ev g
  have g2 : Gd c ⟨tmT, [] ++ ob⟩ tm ⟨F, w0, [] ++ hp⟩ ρ G := g
  have hcall := callN_vals (ns := ns) (tmK := keepTm (fun k => !inN ns k) [] tmT) g2 oP g.ob a2 (fun w hw => a3 w hw) (fun k s h => (keepTm_get h).2) keepTm_ok hO rfl hc (fun s ob' ⟨e1, e2⟩ => by subst e1 e2; exact ⟨hms, hmo⟩)
  obtain ⟨fn, cd, f1, f2, f3⟩ := hc.fn
  have hxs : xs = xs.toList.toArray := by simp
  rw [hxs]
  cases d with
  | some d =>
    refine OpS.call (P := P) (nt := nt) (Q := Q) (fun v h2 => Kd c K ((d, v) :: tm) h2) f1 f2 f3 a1 hd (fun w hw => (hcall w hw).mono ?_) fun _ _ hk => hk
    rintro e w' ⟨v, h3, s, ob', ρ', G', rfl, hw3, ⟨rfl, rfl⟩, hg⟩
    obtain ⟨b1, b2, b3⟩ := k
    obtain ⟨q1, q2⟩ := hg b1 b2
    exact ⟨v, h3, rfl, hw3, .of (q2.put q1) b3⟩
  | none =>
    refine OpS.call0 (P := P) (nt := nt) (Q := Q) (fun v h2 => Kd c K tm h2) f1 f2 f3 a1 (fun w hw => (hcall w hw).mono ?_) fun _ _ hk => hk
    rintro e w' ⟨v, h3, s, ob', ρ', G', rfl, hw3, ⟨rfl, rfl⟩, hg⟩
    obtain ⟨b1, b2, b3⟩ := k
    obtain ⟨q1, q2⟩ := hg b1 b2
    exact ⟨v, h3, rfl, hw3, .of q2 b3⟩⟩
end
end Go.Proofs.YtgloielnnakknaaDoor
namespace Go.Proofs.YtgloielnnakknaaDoor
open Go.RowKit
theorem Rw_s2 {l : List ByteArray} {n : Nat} {e : ByteArray} {K : List V → Prop} (h : l[n]? = some e) (k : K [V.str e]) : Rw (strs l) n K := ⟨_, by simp [h], k⟩
theorem mfo_strs (k t : Nat) (l : List ByteArray) : MfO2 [(k, .ar t 1 (strs l))] := fun p hp => by
  simp only [List.mem_singleton] at hp
  subst hp
  refine ⟨_, _, _, rfl, fun r hr x hx => ?_⟩
  obtain ⟨s, _, rfl⟩ := List.mem_map.1 hr
  simp only [List.mem_singleton] at hx
  subst hx
  rfl
set_option maxHeartbeats 2000000 in
theorem names_fltU_T (l : List Un) (hl : UsOk l) (h0 : (validateM l).1 ≠ 0) : CallsA Tryd.prog 5 [.d (.u (uns l))] [] (Is (db true)) := by
  have h1 := names_flt l (validateM l) (.inl ⟨h0, rfl⟩)
  have h2 := units_R l (by have := hl.len; omega) hl.u
  have h3 := strings_R [] []
  rw [decide_eq_true rfl] at h3
  have hi := imported_T
  generalize validateM l = f at *
  obtain ⟨c, i⟩ := f
  dsimp only at h0
  refine callsA_of_vc (T := tt) Tryd.func5 rfl rfl rfl rfl rfl ?_
  repeat' ((conv => whnf); first | refine Gs.id ?_ | refine Brn.F (by (try simp only [smT]); first | rfl | assumption | fail) ?_ | (refine CL.mk (Or.inl ?_); (conv => whnf); first | refine Cl.is (h1) rfl (by first | exact fun _ => rfl | fail) ?_ | refine Cl.is (h2) rfl (by first | exact fun _ => rfl | fail) ?_ | fail) | fail)
  all_goals (conv => whnf)
  refine ⟨⟨Nat, fun x => x = 0, fun x => 0, fun x => ⟨[(3, .d (.u .nl)), (4, .d (.p 4 0)), (5, .d (.p 5 0)), (6, .d (.u .nl)), (9, di x)], [(4, .bx 24 [.u (.int .i64 c), .u (.int .i64 i)]), (5, .bx 24 [.u (.int .i64 c), .u (.int .i64 i)])]⟩, 0, rfl, ⟨[(4, .k 4), (5, .k 5)], ⟨by (try dsimp only); (repeat (refine LeT.cons rfl (by first | exact LeS.d (by first | exact LeD.u rfl | exact LeD.p rfl | fail) | fail) ?_)); exact LeT.nil, by (try dsimp only); repeat (first | exact LeO.nil | refine LeO.bx rfl rfl (by repeat (first | exact LeL.nil | refine LeL.cons (by first | exact LeD.u rfl | fail) ?_)) ?_ | fail)⟩⟩, fun x hx => ?_⟩⟩
  subst hx
  repeat' ((conv => whnf); first | refine Gs.id ?_ | with_reducible refine Brn.T rfl ?_ | with_reducible refine Brn.F rfl ?_ | refine Brn.T (by (try simp only [smT]); first | rfl | (simp [*]; done) | fail) ?_ | refine Eqv.mk (by kernel_rfl) ?_ | (refine CL.mk (Or.inl ?_); (conv => whnf); first | refine Cl.nl (by repeat (first | exact NlSs.nil | exact NlD.u (NlV.nl (by first | rfl | fail)) | refine NlSs.cons ?_ ?_ | refine NlS.d ?_ | fail)) (h3) rfl (by first | exact fun _ => rfl | fail) ?_ | refine Cl.is (hi) rfl (by first | exact fun _ => rfl | fail) ?_) | fail)
  all_goals (conv => whnf)
  all_goals exact Ret.is rfl
set_option maxHeartbeats 2000000 in
theorem names_full_T (l : List Un) (hl : UsOk l) (h0 : (validateM l).1 = 0) (hf : (finS l).full = true) : CallsA Tryd.prog 5 [.d (.u (uns l))] [] (Is (db true)) := by
  have h1 := names_flt l (21, -1) (.inr ⟨h0, hf, rfl⟩)
  have h2 := units_R l (by have := hl.len; omega) hl.u
  have h3 := strings_R [] []
  rw [decide_eq_true rfl] at h3
  have hi := imported_T
  have h5 := at_R 21 (-1)
  obtain ⟨zm, zl, zk, hz⟩ : ∃ zm zl zk, finR l = ⟨zm, zl, zk⟩ := ⟨_, _, _, rfl⟩
  have h4 := loaded_R l h0 zm zl zk hz
  have hlen : 5000 < zl.length := by
    have := fin_sim h0
    rw [hz] at this
    rcases this with h | h
    · exact h.2.1
    · have e := h.1
      rw [show (runM l 5001 initS 0).1 = finS l from rfl, hf] at e
      cases e
  rw [show decide ((zl.length : Int) ≤ 5000) = false by simp; omega] at h4
  rw [validateM_fst h0] at h2
  refine callsA_of_vc (T := tt) Tryd.func5 rfl rfl rfl rfl rfl ?_
  repeat' ((conv => whnf); first | refine Gs.id ?_ | with_reducible refine Brn.T rfl ?_ | (refine CL.mk (Or.inl ?_); (conv => whnf); first | refine Cl.is (h1) rfl (by first | exact fun _ => rfl | fail) ?_ | refine Cl.is (h2) rfl (by first | exact fun _ => rfl | fail) ?_ | refine Cl.is (h5) rfl (by first | exact fun _ => rfl | fail) ?_) | (refine CL.mk (Or.inr (Raw.callI [] [900,901] rfl rfl rfl rfl rfl rfl rfl (h4) ?_)); rintro _ _ ⟨rfl, rfl⟩; refine Bk.mk rfl rfl ?_))
  all_goals (conv => whnf)
  refine ⟨⟨Nat, fun x => x = 0, fun x => 0, fun x => ⟨[(3, .d (.u .nl)), (4, .d (.p 4 0)), (5, .d (.p 5 0)), (6, .d (.u .nl)), (9, di x)], [(4, .bx 24 [.u (.int .i64 21), .u (.int .i64 (-1))]), (5, .bx 24 [.u (.int .i64 21), .u (.int .i64 (-1))])]⟩, 0, rfl, ⟨[(4, .k 4), (5, .k 5)], ⟨by (try dsimp only); (repeat (refine LeT.cons rfl (by first | exact LeS.d (by first | exact LeD.u rfl | exact LeD.p rfl | fail) | fail) ?_)); exact LeT.nil, by (try dsimp only); repeat (first | exact LeO.nil | refine LeO.bx rfl rfl (by repeat (first | exact LeL.nil | refine LeL.cons (by first | exact LeD.u rfl | fail) ?_)) ?_ | fail)⟩⟩, fun x hx => ?_⟩⟩
  subst hx
  repeat' ((conv => whnf); first | refine Gs.id ?_ | with_reducible refine Brn.T rfl ?_ | with_reducible refine Brn.F rfl ?_ | refine Eqv.mk (by kernel_rfl) ?_ | (refine CL.mk (Or.inl ?_); (conv => whnf); first | refine Cl.nl (by repeat (first | exact NlSs.nil | exact NlD.u (NlV.nl (by first | rfl | fail)) | refine NlSs.cons ?_ ?_ | refine NlS.d ?_ | fail)) (h3) rfl (by first | exact fun _ => rfl | fail) ?_ | refine Cl.is (hi) rfl (by first | exact fun _ => rfl | fail) ?_) | fail)
  all_goals (conv => whnf)
  all_goals exact Ret.is rfl
set_option maxHeartbeats 2000000 in
theorem names_ownU_T (l : List Un) (hl : UsOk l) (h0 : (validateM l).1 = 0) (hf : (finS l).full = false) (res : List ByteArray) (hr : namesW (finS l).mods [] (finS l).table = some res) : CallsA Tryd.prog 5 [.d (.u (uns l))] [] (Is (db true)) := by
  have h1 := names_own l h0 hf res hr
  have h2 := units_R l (by have := hl.len; omega) hl.u
  have h3 := strings_R res res
  rw [decide_eq_true rfl] at h3
  have hi := imported_T
  have htx := fin_tx h0 hf
  have hfe := fin_texts h0 hf
  obtain ⟨hre, hno⟩ := namesW_some hr
  obtain ⟨zm, zl, zk, hz⟩ : ∃ zm zl zk, finR l = ⟨zm, zl, zk⟩ := ⟨_, _, _, rfl⟩
  have h4 := loaded_R l h0 zm zl zk hz
  rw [hz] at htx hfe
  have h6 := mtexts_V l zm zl zk htx
  rw [hfe, ← List.nil_append (List.map _ _), ← hre] at h6
  have hlt : (finS l).table.length ≤ 40 := (fin_inv h0).tlen (valid_Uok h0).1
  have hrl : res.length ≤ 40 := by rw [hre]; simpa using hlt
  have hno2 : ∀ x ∈ res, ¬ 4000 < (x.size : Int) := fun x hx => by
    rw [hre, List.nil_append] at hx
    obtain ⟨j, hj, rfl⟩ := List.mem_map.1 hx
    exact hno j hj
  have hle : zl = (finS l).log := by have := (fin_relW h0 hf).log; rw [hz] at this; exact this
  have hlg := (fin_inv h0).log
  rw [← hle] at hlg
  rw [show decide ((zl.length : Int) ≤ 5000) = true by simp; omega] at h4
  rw [validateM_fst h0] at h2
  clear hfe hre hno hr htx hl h0 hf hz hle hlt
  refine callsA_of_vc (T := tt) Tryd.func5 rfl rfl rfl rfl rfl ?_
  repeat' ((conv => whnf); first | refine Gs.id ?_ | with_reducible refine Brn.T rfl ?_ | with_reducible refine Brn.F rfl ?_ | (refine CL.mk (Or.inl ?_); (conv => whnf); first | refine Cl.is (h2) rfl (by first | exact fun _ => rfl | fail) ?_ | fail) | (refine CL.mk (Or.inr (Raw.callI [] [906] rfl rfl rfl rfl rfl rfl rfl (h1) ?_)); rintro _ _ ⟨rfl, rfl⟩; refine Bk.mk rfl rfl ?_) | (refine CL.mk (Or.inr (Raw.callI [] [900,901] rfl rfl rfl rfl rfl rfl rfl (h4) ?_)); rintro _ _ ⟨rfl, rfl⟩; refine Bk.mk rfl rfl ?_) | (refine CL.mk (Or.inr (Raw.callRN [907] (by repeat (first | exact ArgR.nil | refine ArgR.a rfl (by repeat (first | exact BorLR.nil | refine BorLR.cons (by first | exact BorR.u | exact BorR.ar rfl (by first | rfl | (simp; done)) | exact BorR.fa rfl (by first | rfl | (simp; done)) (by exact FrR.map (fun _ => by repeat (first | exact FrL.nil | refine FrL.v ?_ | refine FrL.os ?_))) | fail) ?_)) ?_)) rfl (h6) (.inr ⟨_, _, rfl⟩) (mfo_strs 907 9 res) rfl rfl ?_)); refine Bk.mk rfl rfl ?_))
  all_goals (conv => whnf)
  refine ⟨⟨Nat, fun x => x ≤ res.length, fun x => res.length - x, fun x => ⟨[(3, .d (.ow 906 res.length)), (4, .d (.p 4 0)), (5, .d (.p 5 0)), (6, .d (.ow 907 res.length)), (9, di x)], [(906, .ar 9 1 (strs res)), (907, .ar 9 1 (strs res)), (4, .bx 24 [.u (.int .i64 0), .u (.int .i64 0)]), (5, .bx 24 [.u (.int .i64 0), .u (.int .i64 0)])]⟩, 0, Nat.zero_le _, ⟨[(906, .k 906), (907, .k 907), (4, .k 4), (5, .k 5)], ⟨by (try dsimp only); (repeat (refine LeT.cons rfl (by first | exact LeS.d (by first | exact LeD.u rfl | exact LeD.p rfl | exact LeD.ow rfl rfl | fail) | fail) ?_)); exact LeT.nil, by (try dsimp only); repeat (first | exact LeO.nil | refine LeO.bx rfl rfl (by repeat (first | exact LeL.nil | refine LeL.cons (by first | exact LeD.u rfl | fail) ?_)) ?_ | refine LeO.ar rfl rfl (by first | rfl | fail) ?_ | fail)⟩⟩, fun x hx => ?_⟩⟩
  dsimp only at hx ⊢
  by_cases h9 : x < res.length
  · obtain ⟨s, hs⟩ : ∃ s, res[x]? = some s := ⟨_, List.getElem?_eq_getElem h9⟩
    have hsz := hno2 s (List.mem_of_getElem? hs)
    repeat' ((conv => whnf); first | refine Rw_s2 hs ?_ | refine Gs.id ?_ | refine Brn.T (by (try simp only [smT]); first | rfl | omega | fail) ?_ | refine Brn.F (by (try simp only [smT]); first | rfl | omega | fail) ?_ | (refine Bnd.mk (fun hm => ?_); (try simp only [smT] at hm)) | refine Rng.mk (by (try simp only [smT]); omega) ?_ | refine Ixo.mk ⟨_, rfl, (by (try simp only [smT]); omega), ?_⟩ | fail)
    all_goals (conv => whnf)
    all_goals exact ⟨x + 1, by omega, by omega, [(906, .k 906), (907, .k 907), (4, .k 4), (5, .k 5)], ⟨by (try dsimp only); (repeat (refine LeT.cons rfl (by first | exact LeS.d (by first | exact LeD.u rfl | exact LeD.p rfl | exact LeD.ow rfl rfl | fail) | fail) ?_)); exact LeT.nil, by (try dsimp only); repeat (first | exact LeO.nil | refine LeO.bx rfl rfl (by repeat (first | exact LeL.nil | refine LeL.cons (by first | exact LeD.u rfl | fail) ?_)) ?_ | refine LeO.ar rfl rfl (by first | rfl | fail) ?_ | fail)⟩⟩
  · obtain rfl : x = res.length := by omega
    repeat' ((conv => whnf); first | refine Gs.id ?_ | with_reducible refine Brn.T rfl ?_ | refine Brn.F (by (try simp only [smT]); first | rfl | omega | fail) ?_ | (refine Bnd.mk (fun hm => ?_); (try simp only [smT] at hm)) | refine Eqv.mk (by kernel_rfl) ?_ | (refine CL.mk (Or.inl ?_); (conv => whnf); refine Cl.is (hi) rfl (by first | exact fun _ => rfl | fail) ?_) | (refine CL.mk (Or.inl ?_); (conv => whnf); refine ClO.mk (Or.inl ?_); (repeat ((conv => whnf); refine Len.mk (by first | rfl | (simp; done) | fail) ?_)); (conv => whnf); first | refine Cl.is (h3) rfl (by first | exact fun _ => rfl | fail) ?_ | fail) | fail)
    all_goals (conv => whnf)
    all_goals exact Ret.is rfl
/-- Where the first text that is too large stands. -/
theorem first_big : ∀ (l : List ByteArray), (∃ x ∈ l, 4000 < (x.size : Int)) → ∃ (k : Nat) (y : ByteArray), l[k]? = some y ∧ 4000 < (y.size : Int) ∧ ∀ (i : Nat) z, i < k → l[i]? = some z → ¬ 4000 < (z.size : Int)
  | [], h => by obtain ⟨x, hx, _⟩ := h; cases hx
  | a :: r, h => by
    by_cases ha : 4000 < (a.size : Int)
    · exact ⟨0, a, rfl, ha, fun i z hi => by omega⟩
    · obtain ⟨x, hx, h2⟩ := h
      rcases List.mem_cons.1 hx with rfl | hx
      · exact absurd h2 ha
      · obtain ⟨k, y, q1, q2, q3⟩ := first_big r ⟨x, hx, h2⟩
        refine ⟨k + 1, y, by simpa using q1, q2, fun i z hi hz => ?_⟩
        cases i with
        | zero => simp at hz; subst hz; exact ha
        | succ i => exact q3 i z (by omega) (by simpa using hz)
set_option maxHeartbeats 2000000 in
theorem names_lrgU_T (l : List Un) (hl : UsOk l) (h0 : (validateM l).1 = 0) (hf : (finS l).full = false) (hr : namesW (finS l).mods [] (finS l).table = none) : CallsA Tryd.prog 5 [.d (.u (uns l))] [] (Is (db true)) := by
  have h1 := names_lrg l h0 hf hr
  have h2 := units_R l (by have := hl.len; omega) hl.u
  have h3 := strings_R [] []
  rw [decide_eq_true rfl] at h3
  have hi := imported_T
  have h5 := at_R 14 (-1)
  have htx := fin_tx h0 hf
  have hfe := fin_texts h0 hf
  obtain ⟨zm, zl, zk, hz⟩ : ∃ zm zl zk, finR l = ⟨zm, zl, zk⟩ := ⟨_, _, _, rfl⟩
  have h4 := loaded_R l h0 zm zl zk hz
  rw [hz] at htx hfe
  have h6 := mtexts_V l zm zl zk htx
  rw [hfe] at h6
  have hlt : (finS l).table.length ≤ 40 := (fin_inv h0).tlen (valid_Uok h0).1
  have hbig : ∃ x ∈ (finS l).table.map (mdB (finS l).mods), 4000 < (x.size : Int) := by
    obtain ⟨j, q1, q2⟩ := namesW_none hr
    exact ⟨_, List.mem_map.2 ⟨j, q1, rfl⟩, q2⟩
  obtain ⟨k, y, hky, hyz, hno⟩ := first_big _ hbig
  have hrl : ((finS l).table.map (mdB (finS l).mods)).length ≤ 40 := by simpa using hlt
  generalize (finS l).table.map (mdB (finS l).mods) = res at *
  have hkl := lt_get hky
  have hle : zl = (finS l).log := by have := (fin_relW h0 hf).log; rw [hz] at this; exact this
  have hlg := (fin_inv h0).log
  rw [← hle] at hlg
  rw [show decide ((zl.length : Int) ≤ 5000) = true by simp; omega] at h4
  rw [validateM_fst h0] at h2
  clear hfe hr htx hl h0 hf hz hle hlt hbig
  refine callsA_of_vc (T := tt) Tryd.func5 rfl rfl rfl rfl rfl ?_
  repeat' ((conv => whnf); first | refine Gs.id ?_ | with_reducible refine Brn.T rfl ?_ | with_reducible refine Brn.F rfl ?_ | (refine CL.mk (Or.inl ?_); (conv => whnf); first | refine Cl.is (h1) rfl (by first | exact fun _ => rfl | fail) ?_ | refine Cl.is (h2) rfl (by first | exact fun _ => rfl | fail) ?_ | fail) | (refine CL.mk (Or.inr (Raw.callI [] [900,901] rfl rfl rfl rfl rfl rfl rfl (h4) ?_)); rintro _ _ ⟨rfl, rfl⟩; refine Bk.mk rfl rfl ?_) | (refine CL.mk (Or.inr (Raw.callRN [907] (by repeat (first | exact ArgR.nil | refine ArgR.a rfl (by repeat (first | exact BorLR.nil | refine BorLR.cons (by first | exact BorR.u | exact BorR.ar rfl (by first | rfl | (simp; done)) | exact BorR.fa rfl (by first | rfl | (simp; done)) (by exact FrR.map (fun _ => by repeat (first | exact FrL.nil | refine FrL.v ?_ | refine FrL.os ?_))) | fail) ?_)) ?_)) rfl (h6) (.inr ⟨_, _, rfl⟩) (mfo_strs 907 9 res) rfl rfl ?_)); refine Bk.mk rfl rfl ?_))
  all_goals (conv => whnf)
  refine ⟨⟨Nat × Bool, fun x => if x.2 = true then x.1 = k + 1 else x.1 ≤ k, fun x => k + 1 - x.1, fun x => if x.2 = true then ⟨[(3, .d (.u .nl)), (4, .d (.p 4 0)), (5, .d (.p 5 0)), (6, .d (.u .nl)), (9, di x.1)], [(4, .bx 24 [.u (.int .i64 14), .u (.int .i64 (-1))]), (5, .bx 24 [.u (.int .i64 14), .u (.int .i64 (-1))])]⟩ else ⟨[(3, .d (.u .nl)), (4, .d (.p 4 0)), (5, .d (.p 5 0)), (6, .d (.ow 907 res.length)), (9, di x.1)], [(907, .ar 9 1 (strs res)), (4, .bx 24 [.u (.int .i64 14), .u (.int .i64 (-1))]), (5, .bx 24 [.u (.int .i64 0), .u (.int .i64 0)])]⟩, (0, false), Nat.zero_le _, ⟨[(907, .k 907), (4, .k 4), (5, .k 5)], ⟨by (try dsimp only); (repeat (refine LeT.cons rfl (by first | exact LeS.d (by first | exact LeD.u rfl | exact LeD.p rfl | exact LeD.ow rfl rfl | fail) | fail) ?_)); exact LeT.nil, by (try dsimp only); repeat (first | exact LeO.nil | refine LeO.bx rfl rfl (by repeat (first | exact LeL.nil | refine LeL.cons (by first | exact LeD.u rfl | fail) ?_)) ?_ | refine LeO.ar rfl rfl (by first | rfl | fail) ?_ | fail)⟩⟩, fun x hx => ?_⟩⟩
  obtain ⟨x, b⟩ := x
  cases b
  · dsimp only at hx ⊢
    rw [if_neg (by simp)] at hx
    obtain ⟨s, hs⟩ : ∃ s, res[x]? = some s := ⟨_, List.getElem?_eq_getElem (by omega)⟩
    have hxl := lt_get hs
    have hsn := hno x s
    by_cases hxk : x = k
    · subst hxk
      rw [hky] at hs
      injection hs with hs
      subst hs
      simp only [Bool.false_eq_true, if_false]
      repeat' ((conv => whnf); first | refine Rw_s2 hky ?_ | refine Gs.id ?_ | refine Brn.T (by (try simp only [smT]); first | rfl | assumption | omega | fail) ?_ | (refine Bnd.mk (fun hm => ?_); (try simp only [smT] at hm)) | refine Rng.mk (by (try simp only [smT]); omega) ?_ | refine Ixo.mk ⟨_, rfl, (by (try simp only [smT]); omega), ?_⟩ | (refine CL.mk (Or.inl ?_); (conv => whnf); refine Cl.is (h5) rfl (by first | exact fun _ => rfl | fail) ?_) | fail)
      all_goals (conv => whnf)
      all_goals exact ⟨(x + 1, true), rfl, by dsimp only; omega, [(4, .k 4), (5, .k 5)], ⟨by (try dsimp only); (repeat (refine LeT.cons rfl (by first | exact LeS.d (by first | exact LeD.u rfl | exact LeD.p rfl | fail) | fail) ?_)); exact LeT.nil, by (try dsimp only); repeat (first | exact LeO.nil | refine LeO.bx rfl rfl (by repeat (first | exact LeL.nil | refine LeL.cons (by first | exact LeD.u rfl | fail) ?_)) ?_ | fail)⟩⟩
    · have hsz := hsn (by omega) hs
      simp only [Bool.false_eq_true, if_false]
      repeat' ((conv => whnf); first | refine Rw_s2 hs ?_ | refine Gs.id ?_ | refine Brn.T (by (try simp only [smT]); first | rfl | omega | fail) ?_ | refine Brn.F (by (try simp only [smT]); first | rfl | omega | fail) ?_ | (refine Bnd.mk (fun hm => ?_); (try simp only [smT] at hm)) | refine Rng.mk (by (try simp only [smT]); omega) ?_ | refine Ixo.mk ⟨_, rfl, (by (try simp only [smT]); omega), ?_⟩ | fail)
      all_goals (conv => whnf)
      all_goals exact ⟨(x + 1, false), (by show x + 1 ≤ k; omega), by dsimp only; omega, [(907, .k 907), (4, .k 4), (5, .k 5)], ⟨by (try dsimp only); (repeat (refine LeT.cons rfl (by first | exact LeS.d (by first | exact LeD.u rfl | exact LeD.p rfl | exact LeD.ow rfl rfl | fail) | fail) ?_)); exact LeT.nil, by (try dsimp only); repeat (first | exact LeO.nil | refine LeO.bx rfl rfl (by repeat (first | exact LeL.nil | refine LeL.cons (by first | exact LeD.u rfl | fail) ?_)) ?_ | refine LeO.ar rfl rfl (by first | rfl | fail) ?_ | fail)⟩⟩
  · dsimp only at hx ⊢
    rw [if_pos rfl] at hx
    subst hx
    simp only [if_true]
    repeat' ((conv => whnf); first | refine Gs.id ?_ | with_reducible refine Brn.T rfl ?_ | with_reducible refine Brn.F rfl ?_ | refine Eqv.mk (by kernel_rfl) ?_ | (refine CL.mk (Or.inl ?_); (conv => whnf); first | refine Cl.nl (by repeat (first | exact NlSs.nil | exact NlD.u (NlV.nl (by first | rfl | fail)) | refine NlSs.cons ?_ ?_ | refine NlS.d ?_ | fail)) (h3) rfl (by first | exact fun _ => rfl | fail) ?_ | refine Cl.is (hi) rfl (by first | exact fun _ => rfl | fail) ?_) | fail)
    all_goals (conv => whnf)
    all_goals exact Ret.is rfl
theorem law_names_T (l : List Un) (hl : UsOk l) : CallsA Tryd.prog 5 [.d (.u (uns l))] [] (Is (db true)) := by
  by_cases h1 : (validateM l).1 = 0
  · cases h2 : (finS l).full
    · cases h3 : namesW (finS l).mods [] (finS l).table with
      | none => exact names_lrgU_T l hl h1 h2 h3
      | some res => exact names_ownU_T l hl h1 h2 res h3
    · exact names_full_T l hl h1 h2
  · exact names_fltU_T l hl h1
end Go.Proofs.YtgloielnnakknaaDoor
namespace Go.Proofs.YtgloielnnakknaaDoor
open Go.ChangeShapes Go.WideShapes Go.ChangeAt Go.RowKit
abbrev rhoN : Rho := ⟨fun _ => none, fun _ _ _ => none⟩
set_option maxRecDepth 100000 in
theorem names_lifted (os : Os) (started : os.Started) (H : Type) (enc : TypeId × Value → H) (F : Stop.Interp) :
    ReturnsInHanded {} Tryd.checked os 5 .any ((Rows.OpenSpec.upto Rows.modulesNamesMatchSpecSpec).preRow enc Tryd.prog Tryd.f5 Rows.modulesNamesMatchSpecUptoRow.domain false Rows.modulesNamesMatchSpecUptoRow.laid) (((Rows.OpenSpec.upto Rows.modulesNamesMatchSpecSpec).at F).post enc Tryd.prog Tryd.f5 false true false false) := by
  have hx : ∃ places, DataW.whole enc Tryd.prog ((laidWorld os).forCall (fun _ _ => 0) ⟨#[], #[.slice none 0 0], []⟩).memory Tryd.f5.params.toList Rows.modulesNamesMatchSpecSpec.vars false #[Value.slice none 0 0].toList 8 = some ([.nil], [], places) := ⟨[], by kernel_rfl⟩
  obtain ⟨places, hx⟩ := hx
  refine law_liftedU (C := Tryd.checked) (s := Rows.modulesNamesMatchSpecSpec) (tb := 4) started H enc F own_knob (by kernel_rfl) Tryd.func5
    (witness_row_at (enc := enc) (C := Tryd.checked) false (laidWorld os) #[.slice none 0 0] rfl (by kernel_rfl) (by kernel_rfl) (by kernel_rfl)
      (OpenSpec.preRow_of_cond 8 hx (by kernel_rfl) (fun k hk => by cases hk; kernel_rfl) (by kernel_rfl) (laid_met os _)))
    laid_out (by kernel_rfl) (by kernel_rfl) Tryd.underlying4 rfl ?_ ?_
  · intro ds hl
    match ds, hl with
    | [d], _ => rfl
  · intro W base args ds p hval hA hp hz
    have hval' : ∀ (j : Nat) t v, Tryd.f5.params[j]? = some t → args[j]? = some v → Value.okWide Tryd.prog W .any base t v := hval
    have hA' : DataW.TrodAll enc Tryd.prog W 0 (fun _ => true) true Tryd.f5.params.toList args.toList ds p := hA
    rw [Tryd.params5] at hA' hval'
    obtain ⟨v0, d0, rfl, rfl, h0⟩ := trodAll_one hA'
    obtain ⟨A0, l0, c0, rfl⟩ := okWide_slice Tryd.underlying32 (hval' 0 _ v0 rfl rfl)
    obtain ⟨x, q1, q2⟩ := arg_open (T := tt) shUnits_eq h0 (fun n hn => bulk_weights rfl closed_T hz (by decide +kernel) List.mem_cons_self hn) rfl
    obtain ⟨l, rfl, hok⟩ := units_of q1
    refine calls_of_A (vs := [.slice A0 l0 c0]) (law_names_T l hok.us) ⟨rfl, fun j s v e1 e2 => ?_, fun _ h => h⟩
    match j with
    | 0 => simp at e1 e2; subst e1 e2; exact q2 rhoN
    | j + 1 => simp at e1
theorem names_said : Rows.ModulesNamesMatchSpecUptoSaid :=
  OpenClaim.holds_of_cond 5 Tryd.f5 rfl rfl rfl rfl rfl rfl rfl ⟨rfl, rfl, rfl, rfl, rfl⟩ rfl rfl rfl rfl rfl (by kernel_rfl) Tryd.func5 (by kernel_rfl)
    (of_decide_eq_true (by kernel_rfl)) (by unfold Func.isWrapper; first | (rw [if_pos (by decide +kernel)]; kernel_rfl) | (rw [if_neg (by decide +kernel)]; exact ⟨rfl, rfl⟩))
    (fun os started H enc _ F => by rw [OpenClaim.pre_eq_preRow]; exact names_lifted os started H enc F)
theorem names_plain (f : FuncId) (fn : Func) (hf : Tryd.pinned.checked.prog.funcNamed "brindlewood/brindlewoodlaw6.ModulesNamesMatchSpec" = some f) (hfn : Tryd.pinned.checked.prog.funcs[f]? = some fn) :
    false = Tryd.pinned.checked.prog.looks [] ∧ ∀ (j : Nat) t, fn.params[j]? = some t → Tryd.pinned.checked.prog.wantsStandIn t = false := by
  obtain rfl : f = 5 := Option.some.inj ((show Tryd.prog.funcNamed "brindlewood/brindlewoodlaw6.ModulesNamesMatchSpec" = some 5 by kernel_rfl).symm.trans hf) |>.symm
  obtain rfl : fn = Tryd.f5 := (Option.some.inj (Tryd.func5.symm.trans hfn)).symm
  refine ⟨by kernel_rfl, fun j t ht => ?_⟩
  rw [Tryd.params5] at ht
  obtain rfl : t = 32 := by simpa using Array.mem_of_getElem? ht
  exact (show Tryd.prog.wantsStandIn 32 = false by kernel_rfl)
theorem names_holds : Rows.ModulesNamesMatchSpecUptoCardSaid :=
  Claim7.holds_tied_plain_at .later [] _ _ _ _ names_said (fun _ h => by cases h) (by kernel_rfl) (fun _ h => by cases h) modulesNamesMatchSpecUpto_row_tie rfl ⟨rfl, rfl⟩ (by kernel_rfl) rfl names_plain (by kernel_rfl)
#print axioms names_holds
end Go.Proofs.YtgloielnnakknaaDoor
