/-
  Part 5 of the proof of stay_holds: laws and contracts that it needs.
-/
import Derived.Test.YtgloielnnakknaaDoorQc4
namespace Go.Proofs.YtgloielnnakknaaDoor
open Go.RowKit
theorem nd_len {α : Type} [DecidableEq α] : ∀ {l m : List α}, l.Nodup → (∀ x ∈ l, x ∈ m) → l.length ≤ m.length
  | [], _, _, _ => Nat.zero_le _
  | a :: r, m, h, hs => by
    rw [List.nodup_cons] at h
    have ha := hs a (by simp)
    have := nd_len (m := m.erase a) h.2 fun x hx => (List.mem_erase_of_ne (fun e => h.1 (by rw [← e]; exact hx))).2 (hs x (by simp [hx]))
    rw [List.length_erase_of_mem ha] at this
    have := List.length_pos_of_mem ha
    simp; omega
theorem flat_le {α β : Type} {f : α → List β} {k : Nat} : ∀ {l : List α}, (∀ a ∈ l, (f a).length ≤ k) → (l.flatMap f).length ≤ l.length * k
  | [], _ => by simp
  | a :: r, h => by
    have h1 := h a (by simp)
    have h2 := flat_le (f := f) (k := k) (l := r) fun b hb => h b (by simp [hb])
    simp only [List.flatMap_cons, List.length_append, List.length_cons, Nat.succ_mul]
    omega
theorem namesA_len {us : List Un} (hU : Uok us) : (namesA us).length ≤ 3640 := by
  have h : (namesA us).length ≤ us.length * 91 := flat_le fun u hu => by
    have h1 : (u.steps.flatMap fun t => [t.name, t.part, cutM t.name]).length ≤ u.steps.length * 3 := flat_le fun t _ => by simp
    have h2 := hU.steps u hu
    simp only [List.length_cons]
    omega
  have := hU.len
  omega
theorem Inv.alen {us : List Un} (hU : Uok us) {s : Ld} (h : Inv us s) {m : Md} (hm : m ∈ s.mods) : m.ats.length ≤ 3640 := by
  have h1 := nd_len (h.nd m hm) fun x hx => by
    obtain ⟨a, ha, rfl⟩ := List.mem_map.1 hx
    exact h.sub m hm a ha
  rw [List.length_map] at h1
  exact Nat.le_trans h1 (namesA_len hU)
theorem Inv.tlen {us : List Un} (hU : Uok us) {s : Ld} (h : Inv us s) : s.table.length ≤ 40 := by
  have h1 := nd_len (m := us.map fun u => some u.name) h.tnd fun x hx => by
    obtain ⟨j, hj, rfl⟩ := List.mem_map.1 hx
    have hlt := h.tab j hj
    obtain ⟨u, hu, e⟩ := hasU_mem (h.nm _ (List.getElem_mem hlt))
    simp only [nmOf, List.getElem?_eq_getElem hlt, Option.map_some]
    exact List.mem_map.2 ⟨u, hu, by rw [e]⟩
  rw [List.length_map, List.length_map] at h1
  exact Nat.le_trans h1 hU.len
theorem hasU_size {us : List Un} (hU : Uok us) {n : ByteArray} (h : hasU us n = true) : n.size ≤ 60 := by
  obtain ⟨u, hu, rfl⟩ := hasU_mem h
  exact hU.name u hu
theorem lastB_lt (s : ByteArray) (c : UInt8) : ∀ i : Nat, -1 ≤ lastB s c i ∧ (0 ≤ lastB s c i → (lastB s c i).toNat < i)
  | 0 => by simp [lastB]
  | i + 1 => by
    obtain ⟨h1, h2⟩ := lastB_lt s c i
    rw [lastB]
    split
    · simp
    · exact ⟨h1, fun h => by have := h2 h; omega⟩
theorem dotAt_lt {s : ByteArray} (h : 0 ≤ dotAt s) : (dotAt s).toNat < s.size := (lastB_lt s 46 s.size).2 h
abbrev addM (mods : List Md) (name : ByteArray) : List Md := mods ++ [⟨name, 0, []⟩]
theorem mk_md (n : ByteArray) : mkE [(2, 84, 2)] 0 [V.str n, V.int .i64 0, V.nl] = [E.v (V.str n), E.v (V.int .i64 0), E.os 84 2 []] := rfl
def MakC (us : List Un) (R : Ld → Nat → Ld × Bool) (n : Nat) : Prop := ∀ (mods : List Md) (table : List Nat) (log : List Ev) (full : Bool) (name : ByteArray) (zm : List Md) (zt : List Nat) (zl : List Ev) (zf zk : Bool), Inv us ⟨mods, table, log, full⟩ → RunB ⟨mods, table, log, full⟩ n → left ⟨mods, table, log, full⟩ ≤ n → hasU us name = true → findS ⟨mods, table, log, full⟩ name = none → (0 ≤ dotAt name → ∃ p, parS ⟨mods, table, log, full⟩ name = some p) → makeW R ⟨mods, table, log, full⟩ name = (⟨zm, zt, zl, zf⟩, zk) → CallsA Tryd.prog 74 [ldP, dsr name] (ldOb us mods table log full) (Iso (db zk) (ldOb us zm zt zl zf))
theorem Rw_at {l : List At} {i : Nat} {a : At} {K : List V → Prop} (h : l[i]? = some a) (k : K a.v) : Rw (l.map At.v) i K := ⟨_, by simp [h], k⟩
set_option maxHeartbeats 4000000 in
theorem make_C {us : List Un} (hU : Uok us) {R : Ld → Nat → Ld × Bool} (hP : RP us R) (n : Nat) (hn : n ≤ 6000) (hC : RunC us R n) : MakC us R n := by
  intro mods table log full name rm rt rl rf rk hI hB hL hhas hfind hpar hr
  have hlog := hI.log
  have htl := hI.tlen hU
  have hsz := hasU_size hU hhas
  obtain ⟨a1, a2, a3, a4, a5, a6, a7⟩ := link_P hI hhas hfind
  have hlast : CallsA Tryd.prog 81 [dsr name, dby 46] [] (Is (di (dotAt name))) := lastIdx_T name 46 (by omega)
  have hIp := hI.push hhas hfind
  dsimp only at hlog htl
  refine callsA_of_vcO (T := tt) Tryd.func74 rfl rfl rfl rfl rfl ?_
  refine' cutR (fun _ : Unit => True) (fun _ => ⟨[(0, ldP), (1, dsr name), (4, db false), (5, .d (.p 5 0)), (6, .d (.u .pn)), (7, dsr name)], (5, .bx 71 [.u (.m 2 mods.length 0)]) :: ldOb us (addM mods name) (table ++ [mods.length]) log full⟩) _ (fun hR => ?_) ?_
  rotate_left
  · repeat' ((conv => whnf); first | refine Gs.cut (i := 5) (by assumption) () [(1, .k 1), (2, .k 2), (5, .k 5)] rfl ?_ trivial | refine Gs.id ?_ | refine Rw.lit rfl ?_ | refine Len.mk (by first | rfl | fail) ?_ | refine Apd.mk (by first | rfl | fail) (by first | rfl | fail) (by (try simp only [smT]); first | omega | fail) (by unfold maxLen; first | (simp; omega) | fail) ?_ | (refine Raw.appendR (T := tt) ?_; (conv => whnf); first | refine Rw.lit rfl ?_ | fail) | refine Drw.of (T := tt) (i := 2) [7, 8, 9, 10] [0] [(0, true), (1, true), (2, true), (3, true), (4, true), (5, true), (6, false), (7, false), (8, false), (9, false), (10, false)] (by kernel_rfl) ?_ | refine Spc.mk ⟨[(2,(84,2))], ?_⟩)
    all_goals exact ⟨by (try dsimp only); (repeat (refine LeT.cons rfl (by first | exact LeS.d (by first | exact LeD.u rfl | exact LeD.p rfl | fail) | fail) ?_)); exact LeT.nil, by (try dsimp only); repeat (first | exact LeO.nil | refine LeO.bx rfl rfl (by repeat (first | exact LeL.nil | refine LeL.cons (by first | exact LeD.u (by simp [Md.row, mk_md]; done) | fail) ?_)) ?_ | refine LeO.fm rfl (by first | simp [Md.row, mk_md]) ?_ | fail)⟩
  · intro _ _
    dsimp only
    have hIp1 := hIp.tab
    have hl1 : (addM mods name).length = mods.length + 1 := by simp
    by_cases hd : 0 ≤ dotAt name
    · obtain ⟨p, hp⟩ := hpar hd
      obtain ⟨k, hk⟩ : ∃ k : Nat, dotAt name = k := ⟨(dotAt name).toNat, by omega⟩
      have hkl : k < name.size := by have := dotAt_lt hd; rw [hk] at this; simpa using this
      have hlp : lastP name = name.extract (k + 1) name.size := by rw [lastP, if_pos hd, hk]; rfl
      have hpb : parB name = name.extract 0 k := by rw [parB, hk]; rfl
      have hp2 : tfind (addM mods name) (name.extract 0 k) (table ++ [mods.length]) = some p := by
        have := hp; rw [parS, if_pos hd, hpb] at this; exact this
      have hpl : p < (addM mods name).length := hIp.tab p (tfind_mem hp2).1
      obtain ⟨⟨pn, pr, pa⟩, hpm⟩ : ∃ m, (addM mods name)[p]? = some m := ⟨_, List.getElem?_eq_getElem hpl⟩
      have hlink : linkS ⟨mods, table, log, full⟩ name = ⟨(addM mods name).set p ⟨pn, pr, setA pa (lastP name) (some mods.length)⟩, table ++ [mods.length], log, full⟩ := by
        simp only [linkS, hp, pushS, setS, updS, upd_at hpm]
      have hfindp := lfind_T us (addM mods name) (table ++ [mods.length]) log full (name.extract 0 k) (by simp; omega) hIp.tab
      rw [hp2] at hfindp
      have hal := hIp.alen hU (List.mem_of_getElem? hpm)
      dsimp only at hal
      have hset := mset_T us (addM mods name) (table ++ [mods.length]) log full p pn pr pa hpm (by omega) (name.extract (k + 1) name.size) (some mods.length)
      rw [hlink] at a1 a2
      have hgo := hP _ mods.length a1 (by simp [addM])
      rw [makeW, hlink, hp] at hr
      rw [hlp] at hr hgo a1 a2
      rw [hk] at hlast
      dsimp only at hr hgo
      have hBl := a2.runB hB (by omega)
      have hLl := Nat.le_trans a2.lf hL
      generalize hz : R ⟨(addM mods name).set p ⟨pn, pr, setA pa (name.extract (k + 1) name.size) (some mods.length)⟩, table ++ [mods.length], log, full⟩ mods.length = z at hr hgo
      obtain ⟨⟨zm, zt, zl, zf⟩, zk⟩ := z
      have hrun := hC _ _ _ _ mods.length zm zt zl zf zk _ _ a1 hBl (by simp [addM]) hLl hz rfl rfl
      have hil : mods.length < zm.length := by have := hgo.keep.len; simp [addM] at this; omega
      cases zk
      · rw [if_neg (by simp)] at hr
        injection hr with p1 p2
        subst p2
        have htz := hgo.inv.tlen hU
        dsimp only at htz
        have hdel := pdel_T zm zt mods.length (by omega) hgo.inv.tab hil
        have hpz : p < zm.length := by have h1 := hgo.keep.len; simp [addM] at h1 hpl; omega
        obtain ⟨⟨pn2, pr2, pa2⟩, hz3⟩ : ∃ m, zm[p]? = some m := ⟨_, List.getElem?_eq_getElem hpz⟩
        have hal2 := hgo.inv.alen hU (List.mem_of_getElem? hz3)
        have hptr := hgo.inv.ptr _ (List.mem_of_getElem? hz3)
        have hats : atsS ⟨zm, zt, zl, zf⟩ p = pa2 := by simp [atsS, hz3]
        dsimp only at hal2 hptr
        have hmf := mfind_T us zm (zt.filter fun j => j != mods.length) zl zf p pn2 pr2 pa2 hz3 (by omega) (name.extract (k + 1) name.size)
        simp only [goneS, hats] at p1
        refine' cutR (fun _ : Unit => True) (fun _ => ⟨[(0, ldP), (1, dsr name), (4, db false), (5, .d (.q [.m 2 mods.length 0] 0)), (6, mdP p), (7, dsr (name.extract (k + 1) name.size))], ldOb us zm (zt.filter fun j => j != mods.length) zl zf⟩) _ (fun hR => ?_) ?_
        rotate_left
        · repeat' ((conv => whnf); first | refine Gs.cut (i := 12) (by assumption) () [(1, .k 1), (2, .k 2)] rfl ?_ trivial | refine Gs.go (i := 11) (Ghost.frzB 5 rfl rfl) ?_ | refine Gs.id ?_ | with_reducible refine Brn.T rfl ?_ | with_reducible refine Brn.F rfl ?_ | refine Rng.mk (by (try simp only [smT]); omega) ?_ | refine Rw.lit rfl ?_ | refine Len.mk (by first | rfl | (simp; done) | fail) ?_ | refine Slc.mk ⟨_, _, rfl, rfl, (by (try simp only [smT]); omega), (by (try simp only [smT]); omega), ?_⟩ | refine Drw.ofP (T := tt) (i := 7) [4, 9, 10] [0, 1, 2, 3, 5, 6, 7, 8] [0, 1, 2, 3, 5, 6, 7, 8] (OT.alt 4 (OT.alt 9 (OT.alt 10 OT.nil OT.nil) OT.nil) OT.nil) (by kernel_rfl) ?_ | (refine CL.mk (Or.inl ?_); (conv => whnf); refine Cl.is (hlast) rfl (by first | exact fun _ => rfl | fail) ?_) | (refine CL.mk (Or.inr (Raw.callI [1,2] [1,2] rfl rfl rfl rfl rfl rfl rfl (hfindp) ?_)); rintro _ _ ⟨rfl, rfl⟩; refine Bk.mk rfl rfl ?_) | (refine CL.mk (Or.inr (Raw.callI [1,2] [1,2] rfl rfl rfl rfl rfl rfl rfl (hset) ?_)); rintro _ _ ⟨rfl, rfl⟩; refine Bk.mk rfl rfl ?_) | (refine CL.mk (Or.inr (Raw.callI [1,2] [1,2] rfl rfl rfl rfl rfl rfl rfl (hrun) ?_)); rintro _ _ ⟨rfl, rfl⟩; refine Bk.mk rfl rfl ?_) | (refine CL.mk (Or.inr (Raw.take 900 48 rfl rfl rfl ((by rfl)) rfl rfl rfl (Raw.callI [900,2] [900,2] rfl rfl rfl rfl rfl rfl rfl (hdel _ (by simp)) ?_))); rintro _ _ ⟨rfl, rfl⟩; refine Bk.mk rfl rfl ?_))
          all_goals exact ⟨by (try dsimp only); (repeat (refine LeT.cons rfl (by first | exact LeS.d (by first | exact LeD.u rfl | exact LeD.q rfl | fail) | fail) ?_)); exact LeT.nil, by (try dsimp only); repeat (first | exact LeO.nil | refine LeO.fm rfl (by first | rfl | fail) ?_ | fail)⟩
        · intro _ _
          dsimp only
          rcases aix_cases (name.extract (k + 1) name.size) pa2 0 with ⟨h1, h2, _, _, _⟩ | ⟨kk, a, h1, h2, h3, h4, h5, _⟩
          · rw [h2, if_neg (by simp)] at p1
            injection p1 with p3 p4 p5 p6
            subst p3 p4 p5 p6
            rw [h1] at hmf
            repeat' ((conv => whnf); first | refine Gs.id ?_ | with_reducible refine Brn.T rfl ?_ | with_reducible refine Brn.F rfl ?_ | refine Drw.of (T := tt) (i := 14) [] [] [(0, true), (1, true), (2, true), (3, true), (4, true), (5, true), (6, true), (7, true), (8, true), (9, true), (10, true), (11, true), (12, true), (13, true)] (by kernel_rfl) ?_ | (refine CL.mk (Or.inr (Raw.callI [1,2] [1,2] rfl rfl rfl rfl rfl rfl rfl (hmf) ?_)); rintro _ _ ⟨rfl, rfl⟩; refine Bk.mk rfl rfl ?_))
            all_goals (conv => whnf)
            all_goals exact RetO.mk ⟨[], _, _, (by first | exact LeS.d (by first | exact LeD.u rfl | fail) | fail), LeO.fm rfl rfl (LeO.fm rfl rfl .nil), rfl, rfl⟩
          · rw [h2, Nat.zero_add] at hmf
            have hkl2 := lt_get h1
            have hpa := hptr _ (List.mem_of_getElem? h1)
            obtain ⟨an, am⟩ := a
            dsimp only at h3 h4 hpa
            subst h3
            rcases am with _ | j
            · rw [h4, if_neg (by simp)] at p1
              injection p1 with p3 p4 p5 p6
              subst p3 p4 p5 p6
              repeat' ((conv => whnf); first | refine Rw_md hz3 ?_ | refine Rw_at h1 ?_ | refine Gs.id ?_ | with_reducible refine Brn.T rfl ?_ | with_reducible refine Brn.F rfl ?_ | refine Ixo.mk ⟨_, rfl, (by (try simp only [smT]); omega), ?_⟩ | refine Drw.of (T := tt) (i := 14) [] [] [(0, true), (1, true), (2, true), (3, true), (4, true), (5, true), (6, true), (7, true), (8, true), (9, true), (10, true), (11, true), (12, true), (13, true)] (by kernel_rfl) ?_ | (refine CL.mk (Or.inr (Raw.callI [1,2] [1,2] rfl rfl rfl rfl rfl rfl rfl (hmf) ?_)); rintro _ _ ⟨rfl, rfl⟩; refine Bk.mk rfl rfl ?_))
              all_goals (conv => whnf)
              all_goals exact RetO.mk ⟨[], _, _, (by first | exact LeS.d (by first | exact LeD.u rfl | fail) | fail), LeO.fm rfl rfl (LeO.fm rfl rfl .nil), rfl, rfl⟩
            · have hjl := hpa j rfl
              have hdrop := mdrop_T us zm (zt.filter fun j => j != mods.length) zl zf p pn2 pr2 pa2 hz3 (by omega) kk hkl2
              by_cases hj : j = mods.length
              · rw [h4, hj, if_pos rfl] at p1
                simp only [dropS, updS, upd_at hz3, h5] at p1
                injection p1 with p3 p4 p5 p6
                subst p3 p4 p5 p6
                repeat' ((conv => whnf); first | refine Rw_md hz3 ?_ | refine Rw_at h1 ?_ | refine Gs.id ?_ | with_reducible refine Brn.T rfl ?_ | (refine Brn.mk (fun hb => ?_) (fun hb => ?_) <;> (try simp only [smT] at hb) <;> (try (exact absurd trivial hb)) <;> (try (exfalso; omega))) | refine Ixo.mk ⟨_, rfl, (by (try simp only [smT]); omega), ?_⟩ | refine Pm.mk (by first | assumption | (simp; omega)) (by first | assumption | (simp; omega)) ?_ | refine Drw.of (T := tt) (i := 14) [] [] [(0, true), (1, true), (2, true), (3, true), (4, true), (5, true), (6, true), (7, true), (8, true), (9, true), (10, true), (11, true), (12, true), (13, true)] (by kernel_rfl) ?_ | (refine CL.mk (Or.inr (Raw.callI [1,2] [1,2] rfl rfl rfl rfl rfl rfl rfl (hmf) ?_)); rintro _ _ ⟨rfl, rfl⟩; refine Bk.mk rfl rfl ?_) | (refine CL.mk (Or.inr (Raw.callI [1,2] [1,2] rfl rfl rfl rfl rfl rfl rfl (hdrop) ?_)); rintro _ _ ⟨rfl, rfl⟩; refine Bk.mk rfl rfl ?_))
                all_goals (conv => whnf)
                all_goals first | (exfalso; simp_all [notT]; done) | exact RetO.mk ⟨[], _, _, (by first | exact LeS.d (by first | exact LeD.u rfl | fail) | fail), LeO.fm rfl rfl (LeO.fm rfl rfl .nil), rfl, rfl⟩
              · rw [h4, if_neg (by simpa using hj)] at p1
                injection p1 with p3 p4 p5 p6
                subst p3 p4 p5 p6
                repeat' ((conv => whnf); first | refine Rw_md hz3 ?_ | refine Rw_at h1 ?_ | refine Gs.id ?_ | with_reducible refine Brn.T rfl ?_ | (refine Brn.mk (fun hb => ?_) (fun hb => ?_) <;> (try simp only [smT] at hb) <;> (try (exact absurd trivial hb)) <;> (try (exfalso; omega))) | refine Ixo.mk ⟨_, rfl, (by (try simp only [smT]); omega), ?_⟩ | refine Pm.mk (by first | assumption | (simp; omega)) (by first | assumption | (simp; omega)) ?_ | refine Drw.of (T := tt) (i := 14) [] [] [(0, true), (1, true), (2, true), (3, true), (4, true), (5, true), (6, true), (7, true), (8, true), (9, true), (10, true), (11, true), (12, true), (13, true)] (by kernel_rfl) ?_ | (refine CL.mk (Or.inr (Raw.callI [1,2] [1,2] rfl rfl rfl rfl rfl rfl rfl (hmf) ?_)); rintro _ _ ⟨rfl, rfl⟩; refine Bk.mk rfl rfl ?_) | (refine CL.mk (Or.inr (Raw.callI [1,2] [1,2] rfl rfl rfl rfl rfl rfl rfl (hdrop) ?_)); rintro _ _ ⟨rfl, rfl⟩; refine Bk.mk rfl rfl ?_))
                all_goals (conv => whnf)
                all_goals first | (exfalso; simp_all [notT]; done) | exact RetO.mk ⟨[], _, _, (by first | exact LeS.d (by first | exact LeD.u rfl | fail) | fail), LeO.fm rfl rfl (LeO.fm rfl rfl .nil), rfl, rfl⟩
      · rw [if_pos rfl] at hr
        injection hr with p1 p2
        injection p1 with p3 p4 p5 p6
        subst p2 p3 p4 p5 p6
        repeat' ((conv => whnf); first | refine Gs.id ?_ | with_reducible refine Brn.T rfl ?_ | refine Rng.mk (by (try simp only [smT]); omega) ?_ | refine Slc.mk ⟨_, _, rfl, rfl, (by (try simp only [smT]); omega), (by (try simp only [smT]); omega), ?_⟩ | refine Drw.ofP (T := tt) (i := 7) [4, 9, 10] [0, 1, 2, 3, 5, 6, 7, 8] [0, 1, 2, 3, 5, 6, 7, 8] (OT.alt 4 (OT.alt 9 (OT.alt 10 OT.nil OT.nil) OT.nil) OT.nil) (by kernel_rfl) ?_ | (refine CL.mk (Or.inl ?_); (conv => whnf); refine Cl.is (hlast) rfl (by first | exact fun _ => rfl | fail) ?_) | (refine CL.mk (Or.inr (Raw.callI [1,2] [1,2] rfl rfl rfl rfl rfl rfl rfl (hfindp) ?_)); rintro _ _ ⟨rfl, rfl⟩; refine Bk.mk rfl rfl ?_) | (refine CL.mk (Or.inr (Raw.callI [1,2] [1,2] rfl rfl rfl rfl rfl rfl rfl (hset) ?_)); rintro _ _ ⟨rfl, rfl⟩; refine Bk.mk rfl rfl ?_) | (refine CL.mk (Or.inr (Raw.callI [1,2] [1,2] rfl rfl rfl rfl rfl rfl rfl (hrun) ?_)); rintro _ _ ⟨rfl, rfl⟩; refine Bk.mk rfl rfl ?_))
        all_goals (conv => whnf)
        all_goals exact RetO.mk ⟨[], _, _, (by first | exact LeS.d (by first | exact LeD.u rfl | fail) | fail), LeO.fm rfl rfl (LeO.fm rfl rfl .nil), rfl, rfl⟩
    · have hlink : linkS ⟨mods, table, log, full⟩ name = ⟨addM mods name, table ++ [mods.length], log, full⟩ := by
        simp [linkS, parS, hd, pushS]
      have hps : parS ⟨mods, table, log, full⟩ name = none := by simp [parS, hd]
      rw [hlink] at a1 a2
      have hgo := hP _ mods.length a1 (by dsimp only; omega)
      rw [makeW, hlink, hps] at hr
      dsimp only at hr hgo
      have hBl := a2.runB hB (by omega)
      have hLl : left ⟨addM mods name, table ++ [mods.length], log, full⟩ ≤ n := Nat.le_trans a2.lf hL
      generalize hz : R ⟨addM mods name, table ++ [mods.length], log, full⟩ mods.length = z at hr hgo
      obtain ⟨⟨zm, zt, zl, zf⟩, zk⟩ := z
      have hrun := hC _ _ _ _ mods.length zm zt zl zf zk _ _ a1 hBl (by omega) hLl hz rfl rfl
      have hil : mods.length < zm.length := by have := hgo.keep.len; simp [addM] at this; omega
      cases zk
      · rw [if_neg (by simp)] at hr
        injection hr with p1 p2
        simp only [goneS] at p1
        injection p1 with p3 p4 p5 p6
        subst p2 p3 p4 p5 p6
        have htz := hgo.inv.tlen hU
        dsimp only at htz
        have hdel := pdel_T zm zt mods.length (by omega) hgo.inv.tab hil
        repeat' ((conv => whnf); first | refine Gs.go (i := 11) (Ghost.frzB 5 rfl rfl) ?_ | refine Gs.id ?_ | with_reducible refine Brn.F rfl ?_ | refine Brn.F (by (try simp only [smT]); first | rfl | omega | fail) ?_ | refine Rw.lit rfl ?_ | refine Len.mk (by first | rfl | (simp; done) | fail) ?_ | (refine CL.mk (Or.inl ?_); (conv => whnf); refine Cl.is (hlast) rfl (by first | exact fun _ => rfl | fail) ?_) | (refine CL.mk (Or.inr (Raw.callI [1,2] [1,2] rfl rfl rfl rfl rfl rfl rfl (hrun) ?_)); rintro _ _ ⟨rfl, rfl⟩; refine Bk.mk rfl rfl ?_) | (refine CL.mk (Or.inr (Raw.take 900 48 rfl rfl rfl ((by rfl)) rfl rfl rfl (Raw.callI [900,2] [900,2] rfl rfl rfl rfl rfl rfl rfl (hdel _ (by simp)) ?_))); rintro _ _ ⟨rfl, rfl⟩; refine Bk.mk rfl rfl ?_))
        all_goals (conv => whnf)
        all_goals exact RetO.mk ⟨[], _, _, (by first | exact LeS.d (by first | exact LeD.u rfl | fail) | fail), LeO.fm rfl rfl (LeO.fm rfl rfl .nil), rfl, rfl⟩
      · rw [if_pos rfl] at hr
        injection hr with p1 p2
        injection p1 with p3 p4 p5 p6
        subst p2 p3 p4 p5 p6
        repeat' ((conv => whnf); first | refine Gs.id ?_ | with_reducible refine Brn.T rfl ?_ | refine Brn.F (by (try simp only [smT]); first | rfl | omega | fail) ?_ | (refine CL.mk (Or.inl ?_); (conv => whnf); refine Cl.is (hlast) rfl (by first | exact fun _ => rfl | fail) ?_) | (refine CL.mk (Or.inr (Raw.callI [1,2] [1,2] rfl rfl rfl rfl rfl rfl rfl (hrun) ?_)); rintro _ _ ⟨rfl, rfl⟩; refine Bk.mk rfl rfl ?_))
        all_goals (conv => whnf)
        all_goals exact RetO.mk ⟨[], _, _, (by first | exact LeS.d (by first | exact LeD.u rfl | fail) | fail), LeO.fm rfl rfl (LeO.fm rfl rfl .nil), rfl, rfl⟩
end Go.Proofs.YtgloielnnakknaaDoor
namespace Go.Proofs.YtgloielnnakknaaDoor
open Go.RowKit
theorem ext_get (s : ByteArray) (i j : Nat) (hj : j < i) : (s.extract 0 i).data[j]? = s.data[j]? := by
  rw [ByteArray.data_extract, Array.getElem?_extract]
  by_cases h : j < s.data.size
  · have : j < min i s.data.size - 0 := by omega
    simp only [this, if_true, Nat.zero_add]
  · have : ¬ j < min i s.data.size - 0 := by omega
    simp only [this, if_false]
    rw [Array.getElem?_eq_none (by omega)]
theorem ext_ext (s : ByteArray) (i k : Nat) (h : k ≤ i) : (s.extract 0 i).extract 0 k = s.extract 0 k := by
  apply ByteArray.ext
  rw [ByteArray.data_extract, ByteArray.data_extract, ByteArray.data_extract]
  apply Array.ext'
  simp [Array.toList_extract, List.extract_eq_take_drop, List.take_take, Nat.min_eq_left h]
theorem lastB_ext (s : ByteArray) (i : Nat) : ∀ j, j ≤ i → lastB (s.extract 0 i) 46 j = lastB s 46 j
  | 0, _ => rfl
  | j + 1, h => by rw [lastB, lastB, ext_get s i j (by omega), lastB_ext s i j (by omega)]
theorem heads_last (s : ByteArray) : ∀ i, (lastB s 46 i = -1 ∧ headsB s i = []) ∨ ∃ k : Nat, lastB s 46 i = k ∧ k < i ∧ headsB s i = headsB s k ++ [s.extract 0 k]
  | 0 => .inl ⟨rfl, rfl⟩
  | i + 1 => by
    rw [lastB, headsB]
    split
    · exact .inr ⟨i, rfl, by omega, rfl⟩
    · rcases heads_last s i with h | ⟨k, h1, h2, h3⟩
      · exact .inl h
      · exact .inr ⟨k, h1, by omega, h3⟩
/-- Each name is the parent of the next one. -/
def Chn (l : List ByteArray) : Prop := ∀ (q : Nat) x, l[q]? = some x → (dotAt x < 0 ∧ q = 0) ∨ (0 ≤ dotAt x ∧ ∃ p, q = p + 1 ∧ l[p]? = some (parB x))
theorem dotAt_ext (s : ByteArray) (i : Nat) (h : i ≤ s.size) : dotAt (s.extract 0 i) = lastB s 46 i := by
  have e : (s.extract 0 i).size = i := by simp; omega
  rw [dotAt, e]
  exact lastB_ext s i i (Nat.le_refl _)
theorem chn_heads (s : ByteArray) : ∀ (n i : Nat), i ≤ n → i ≤ s.size → Chn (headsB s i ++ [s.extract 0 i])
  | n, i, hn, hi => by
    have hd := dotAt_ext s i hi
    rcases heads_last s i with ⟨h1, h2⟩ | ⟨k, h1, h2, h3⟩
    · intro q x hq
      rw [h2] at hq
      have hq0 : q = 0 := by have := lt_get hq; simpa using this
      subst hq0
      simp at hq
      subst hq
      exact .inl ⟨by rw [hd, h1]; omega, rfl⟩
    · cases n with
      | zero => omega
      | succ n =>
        have ih := chn_heads s n k (by omega) (by omega)
        rw [← h3] at ih
        intro q x hq
        by_cases hlt : q < (headsB s i).length
        · rw [List.getElem?_append_left hlt] at hq
          rcases ih q x hq with h | ⟨h4, p, h5, h6⟩
          · exact .inl h
          · exact .inr ⟨h4, p, h5, by rw [List.getElem?_append_left (by omega)]; exact h6⟩
        · have hq0 : q = (headsB s i).length := by have := lt_get hq; simp at this; omega
          subst hq0
          rw [List.getElem?_append_right (Nat.le_refl _)] at hq
          simp at hq
          subst hq
          refine .inr ⟨by rw [hd, h1]; omega, (headsB s k).length, by rw [h3]; simp, ?_⟩
          rw [h3, List.getElem?_append_left (by simp), List.getElem?_append_right (Nat.le_refl _), parB, hd, h1]
          simp only [Nat.sub_self, List.getElem?_cons_zero, Int.toNat_natCast]
          rw [ext_ext s i k (by omega)]
theorem ext_all (s : ByteArray) : s.extract 0 s.size = s := by
  apply ByteArray.ext
  rw [ByteArray.data_extract]
  simp
theorem chn_chain (s : ByteArray) : Chn (chainM s) := by
  have := chn_heads s s.size s.size (Nat.le_refl _) (Nat.le_refl _)
  rwa [ext_all] at this
theorem chain_size (s : ByteArray) : ∀ x ∈ chainM s, x.size ≤ s.size := by
  have h : ∀ i, ∀ x ∈ headsB s i, x.size ≤ s.size := by
    intro i
    induction i with
    | zero => intro x hx; cases hx
    | succ i ih =>
      intro x hx
      rw [headsB] at hx
      split at hx
      · rcases List.mem_append.1 hx with hx | hx
        · exact ih x hx
        · simp at hx; subst hx; simp; omega
      · exact ih x hx
  intro x hx
  rcases List.mem_append.1 hx with hx | hx
  · exact h _ x hx
  · simp at hx; subst hx; exact Nat.le_refl _
theorem chain_len (s : ByteArray) : (chainM s).length ≤ s.size + 1 := by
  have := headsB_le s s.size
  simp [chainM]; omega
theorem tfind_push {mods : List Md} {n p : ByteArray} : ∀ {l : List Nat} {j : Nat}, (∀ k ∈ l, k < mods.length) → tfind mods p l = some j → tfind (mods ++ [⟨n, 0, []⟩]) p (l ++ [mods.length]) = some j
  | k :: r, j, hl, h => by
    have hk : nmOf (mods ++ [⟨n, 0, []⟩]) k = nmOf mods k := by simp [nmOf, List.getElem?_append_left (hl k (by simp))]
    simp only [List.cons_append, tfind, hk] at h ⊢
    split
    · rename_i e; rw [if_pos e] at h; exact h
    · rename_i e; rw [if_neg e] at h; exact tfind_push (fun x hx => hl x (by simp [hx])) h
  | [], _, _, h => by cases h
theorem par_push {us : List Un} {s : Ld} (h : Inv us s) {n : ByteArray} (hd : 0 ≤ dotAt n) {j : Nat} (hf : findS s (parB n) = some j) : parS s n = some j := by
  rw [parS, if_pos hd]
  exact tfind_push h.tab hf
end Go.Proofs.YtgloielnnakknaaDoor
namespace Go.Proofs.YtgloielnnakknaaDoor
open Go.RowKit
theorem uents_no (n : ByteArray) (z : List V) : ∀ us : List Un, hasU us n = false → mgetT (uents us) [.str n] z = z
  | [], _ => rfl
  | u :: r, h => by
    simp only [uents, List.map_cons, mgetT, eqC_sd, hasU] at *
    by_cases h' : n = u.name
    · rw [if_pos h'] at h; cases h
    · rw [if_neg h'] at h
      simp only [h', decide_false, cond_false]
      exact uents_no n z r h
def LoaC (us : List Un) (R : Ld → Nat → Ld × Bool) (n : Nat) : Prop := ∀ (mods : List Md) (table : List Nat) (log : List Ev) (full : Bool) (name : ByteArray) (zm : List Md) (zt : List Nat) (zl : List Ev) (zf zk : Bool), Inv us ⟨mods, table, log, full⟩ → RunB ⟨mods, table, log, full⟩ n → left ⟨mods, table, log, full⟩ ≤ n → name.size ≤ 1000 → loadW R us ⟨mods, table, log, full⟩ (chainM name) = (⟨zm, zt, zl, zf⟩, zk) → CallsA Tryd.prog 63 [ldP, dsr name] (ldOb us mods table log full) (Iso (db zk) (ldOb us zm zt zl zf))
theorem loadW_next {R : Ld → Nat → Ld × Bool} {us : List Un} {s : Ld} {l : List ByteArray} {q : Nat} {x : ByteArray} (h : l[q]? = some x) : loadW R us s (l.drop q) = match findS s x with
    | some j => loadW R us (noteS s (if 0 < runOf s j then 5 else 4) x) (l.drop (q + 1))
    | none => if hasU us x = true then (if (makeW R s x).2 = true then loadW R us (makeW R s x).1 (l.drop (q + 1)) else ((makeW R s x).1, false)) else (noteS s 6 x, false) := by
  have hq := lt_get h
  have e : l[q] = x := (List.getElem?_eq_some_iff.1 h).2
  rw [List.drop_eq_getElem_cons hq, loadW, e]
  cases findS s x <;> rfl
set_option maxHeartbeats 4000000 in
theorem load_C {us : List Un} (hU : Uok us) {R : Ld → Nat → Ld × Bool} (hP : RP us R) (n : Nat) (hn : n ≤ 6000) (hM : MakC us R n) : LoaC us R n := by
  intro mods table log full name rm rt rl rf rk hI hB hL hsz hr
  have hch := chain_T name (by omega)
  have hchn := chn_chain name
  have hxs := chain_size name
  have hcl := chain_len name
  generalize hl : chainM name = l at *
  refine callsA_of_vcO (T := tt) Tryd.func63 rfl rfl rfl rfl rfl ?_
  repeat' ((conv => whnf); first | refine Gs.id ?_ | (refine Bnd.mk (fun hm => ?_); (try simp only [smT] at hm)) | (refine CL.mk (Or.inl ?_); (conv => whnf); refine Cl.is (hch) rfl (by first | (intro e; cases e; done) | fail) ?_) | fail)
  all_goals (conv => whnf)
  refine ⟨⟨Ld × Nat, fun x => x.2 ≤ l.length ∧ loadW R us ⟨mods, table, log, full⟩ l = loadW R us x.1 (l.drop x.2) ∧ Inv us x.1 ∧ Keep ⟨mods, table, log, full⟩ x.1 ∧ (∀ p, x.2 = p + 1 → ∀ y, l[p]? = some y → ∃ j, findS x.1 y = some j), fun x => l.length - x.2, fun x => ⟨[(0, ldP), (4, db false), (12, .d (.u (strs' l))), (13, di l.length), (14, di x.2)], ldOb us x.1.mods x.1.table x.1.log x.1.full⟩, (⟨mods, table, log, full⟩, 0), ⟨Nat.zero_le _, rfl, hI, .refl _, fun p e => by cases e⟩, ⟨[(1, .k 1), (2, .k 2)], ⟨by (try dsimp only); (repeat (refine LeT.cons rfl (by first | exact LeS.d (by first | exact LeD.u rfl | exact LeD.u (by simp; done) | fail) | fail) ?_)); exact LeT.nil, by (try dsimp only); repeat (first | exact LeO.nil | refine LeO.fm rfl (by first | rfl | fail) ?_ | fail)⟩⟩, fun x hx => ?_⟩⟩
  obtain ⟨⟨m3, t3, l3, f3⟩, q⟩ := x
  obtain ⟨hq, he, hI3, hK3, hpv⟩ := hx
  dsimp only at hq he hI3 hK3 hpv ⊢
  rw [hr] at he
  have htl := hI3.tlen hU
  have hl5 := hI3.log
  have hB3 := hK3.runB hB (by omega)
  have hL3 := Nat.le_trans hK3.lf hL
  dsimp only at htl hl5
  by_cases h9 : q < l.length
  · obtain ⟨x, hx⟩ : ∃ x, l[q]? = some x := ⟨_, List.getElem?_eq_getElem h9⟩
    rw [loadW_next hx] at he
    have hrow : ∀ {K : List V → Prop}, K [V.str x] → Ix (strs l) (q : Int) K := fun k => Ix.map rfl h9 (by rw [(List.getElem?_eq_some_iff.1 hx).2]; exact k)
    have hxz := hxs x (List.mem_of_getElem? hx)
    have hfind := lfind_T us m3 t3 l3 f3 x (by omega) hI3.tab
    have hdot := hchn q x hx
    have hff : findS ⟨m3, t3, l3, f3⟩ x = tfind m3 x t3 := rfl
    have hget := (uents_get x [.str ⟨#[]⟩, .nl] us).1
    have hno := uents_no x [.str ⟨#[]⟩, .nl] us
    have hhs := (uents_get x [.str ⟨#[]⟩, .nl] us).2
    have huok := uents_ok us
    rcases hf : tfind m3 x t3 with _ | j
    · rw [hf] at hfind hff
      rw [hff] at he
      simp only at he
      cases hh : hasU us x
      · rw [hh] at he hhs
        rw [if_neg (by simp)] at he
        have hno := hno hh
        have hnz := note_T us m3 t3 l3 f3 6 x hl5
        injection he with p1 p2
        injection p1 with p3 p4 p5 p6
        subst p2 p3 p4 p5 p6
        repeat' ((conv => whnf); first | refine hrow ?_ | refine Mlk.of _ _ (by kernel_rfl) huok hno hhs ?_ | refine Gs.id ?_ | with_reducible refine Brn.T rfl ?_ | with_reducible refine Brn.F rfl ?_ | refine Brn.T (by (try simp only [smT]); first | rfl | omega | fail) ?_ | refine Rw.lit rfl ?_ | (refine CL.mk (Or.inr (Raw.callI [1,2] [1,2] rfl rfl rfl rfl rfl rfl rfl (hfind) ?_)); rintro _ _ ⟨rfl, rfl⟩; refine Bk.mk rfl rfl ?_) | (refine CL.mk (Or.inr (Raw.callI [1,2] [1,2] rfl rfl rfl rfl rfl rfl rfl (hnz) ?_)); rintro _ _ ⟨rfl, rfl⟩; refine Bk.mk rfl rfl ?_))
        all_goals (conv => whnf)
        all_goals exact RetO.mk ⟨[], _, _, (by first | exact LeS.d (by first | exact LeD.u rfl | fail) | fail), LeO.fm rfl rfl (LeO.fm rfl rfl .nil), rfl, rfl⟩
      · rw [hh] at hhs
        rw [hh, if_pos rfl] at he
        have hget := hget hh
        have hgo := makeW_P hP hI3 hh hff
        have hpar : 0 ≤ dotAt x → ∃ p, parS ⟨m3, t3, l3, f3⟩ x = some p := fun hd => by
          rcases hdot with ⟨h1, _⟩ | ⟨_, p, h2, h3⟩
          · omega
          · obtain ⟨j, hj⟩ := hpv p h2 _ h3
            exact ⟨j, par_push hI3 hd hj⟩
        generalize hz : makeW R ⟨m3, t3, l3, f3⟩ x = z at he hgo
        obtain ⟨⟨zm, zt, zl, zf⟩, zk⟩ := z
        have hmk := hM _ _ _ _ _ zm zt zl zf zk hI3 hB3 hL3 hh hff hpar hz
        obtain ⟨hg3, hfz⟩ := hgo
        dsimp only at hfz he
        cases zk
        · rw [if_neg (by simp)] at he
          injection he with p1 p2
          injection p1 with p3 p4 p5 p6
          subst p2 p3 p4 p5 p6
          repeat' ((conv => whnf); first | refine hrow ?_ | refine Mlk.of _ _ (by kernel_rfl) huok hget hhs ?_ | refine Gs.id ?_ | with_reducible refine Brn.T rfl ?_ | with_reducible refine Brn.F rfl ?_ | refine Brn.T (by (try simp only [smT]); first | rfl | omega | fail) ?_ | refine Rw.lit rfl ?_ | (refine CL.mk (Or.inr (Raw.callI [1,2] [1,2] rfl rfl rfl rfl rfl rfl rfl (hfind) ?_)); rintro _ _ ⟨rfl, rfl⟩; refine Bk.mk rfl rfl ?_) | (refine CL.mk (Or.inr (Raw.callI [1,2] [1,2] rfl rfl rfl rfl rfl rfl rfl (hmk) ?_)); rintro _ _ ⟨rfl, rfl⟩; refine Bk.mk rfl rfl ?_))
          all_goals (conv => whnf)
          all_goals exact RetO.mk ⟨[], _, _, (by first | exact LeS.d (by first | exact LeD.u rfl | fail) | fail), LeO.fm rfl rfl (LeO.fm rfl rfl .nil), rfl, rfl⟩
        · rw [if_pos rfl] at he
          repeat' ((conv => whnf); first | refine hrow ?_ | refine Mlk.of _ _ (by kernel_rfl) huok hget hhs ?_ | refine Gs.id ?_ | with_reducible refine Brn.F rfl ?_ | refine Brn.T (by (try simp only [smT]); first | rfl | omega | fail) ?_ | refine Rng.mk (by (try simp only [smT]); omega) ?_ | refine Rw.lit rfl ?_ | (refine CL.mk (Or.inr (Raw.callI [1,2] [1,2] rfl rfl rfl rfl rfl rfl rfl (hfind) ?_)); rintro _ _ ⟨rfl, rfl⟩; refine Bk.mk rfl rfl ?_) | (refine CL.mk (Or.inr (Raw.callI [1,2] [1,2] rfl rfl rfl rfl rfl rfl rfl (hmk) ?_)); rintro _ _ ⟨rfl, rfl⟩; refine Bk.mk rfl rfl ?_))
          all_goals (conv => whnf)
          all_goals exact ⟨(⟨zm, zt, zl, zf⟩, q + 1), ⟨by dsimp only; omega, by rw [hr]; exact he, hg3.inv, hK3.trans hg3.keep, fun p e y hy => by
            obtain rfl : q = p := by dsimp only at e; omega
            rw [hx] at hy; injection hy with hy; subst hy; exact hfz rfl⟩, by dsimp only; omega, [(1, .k 1), (2, .k 2)], ⟨by (try dsimp only); (repeat (refine LeT.cons rfl (by first | exact LeS.d (by first | exact LeD.u rfl | fail) | fail) ?_)); exact LeT.nil, by (try dsimp only); repeat (first | exact LeO.nil | refine LeO.fm rfl (by first | rfl | fail) ?_ | fail)⟩⟩
    · rw [hf] at hfind hff
      rw [hff] at he
      simp only at he
      have hjl := hI3.find j hff
      dsimp only at hjl
      obtain ⟨⟨jn, jr, ja⟩, hjm⟩ : ∃ m, m3[j]? = some m := ⟨_, List.getElem?_eq_getElem hjl⟩
      have hro : runOf ⟨m3, t3, l3, f3⟩ j = jr := by simp [runOf, hjm]
      rw [hro] at he
      have hfz : ∀ k : Int, ∃ j, findS (noteS ⟨m3, t3, l3, f3⟩ k x) x = some j := fun k => ⟨j, hff⟩
      by_cases hrun : 0 < jr
      · rw [if_pos hrun] at he
        have hnz := note_T us m3 t3 l3 f3 5 x hl5
        repeat' ((conv => whnf); first | refine hrow ?_ | refine Rw_md hjm ?_ | refine Gs.id ?_ | with_reducible refine Brn.T rfl ?_ | refine Brn.T (by (try simp only [smT]); first | rfl | assumption | omega | fail) ?_ | refine Rng.mk (by (try simp only [smT]); omega) ?_ | (refine CL.mk (Or.inr (Raw.callI [1,2] [1,2] rfl rfl rfl rfl rfl rfl rfl (hfind) ?_)); rintro _ _ ⟨rfl, rfl⟩; refine Bk.mk rfl rfl ?_) | (refine CL.mk (Or.inr (Raw.callI [1,2] [1,2] rfl rfl rfl rfl rfl rfl rfl (hnz) ?_)); rintro _ _ ⟨rfl, rfl⟩; refine Bk.mk rfl rfl ?_))
        all_goals (conv => whnf)
        all_goals exact ⟨(noteS ⟨m3, t3, l3, f3⟩ 5 x, q + 1), ⟨by dsimp only; omega, by rw [hr]; exact he, hI3.note _ _, hK3.trans (.note _ _ _ hl5), fun p e y hy => by
          obtain rfl : q = p := by dsimp only at e; omega
          rw [hx] at hy; injection hy with hy; subst hy; exact hfz _⟩, by dsimp only; omega, [(1, .k 1), (2, .k 2)], ⟨by (try dsimp only); (repeat (refine LeT.cons rfl (by first | exact LeS.d (by first | exact LeD.u rfl | fail) | fail) ?_)); exact LeT.nil, by (try dsimp only); repeat (first | exact LeO.nil | refine LeO.fm rfl (by first | rfl | fail) ?_ | fail)⟩⟩
      · rw [if_neg hrun] at he
        have hnz := note_T us m3 t3 l3 f3 4 x hl5
        repeat' ((conv => whnf); first | refine hrow ?_ | refine Rw_md hjm ?_ | refine Gs.id ?_ | with_reducible refine Brn.T rfl ?_ | refine Brn.T (by (try simp only [smT]); first | rfl | omega | fail) ?_ | refine Brn.F (by (try simp only [smT]); first | rfl | omega | fail) ?_ | refine Rng.mk (by (try simp only [smT]); omega) ?_ | (refine CL.mk (Or.inr (Raw.callI [1,2] [1,2] rfl rfl rfl rfl rfl rfl rfl (hfind) ?_)); rintro _ _ ⟨rfl, rfl⟩; refine Bk.mk rfl rfl ?_) | (refine CL.mk (Or.inr (Raw.callI [1,2] [1,2] rfl rfl rfl rfl rfl rfl rfl (hnz) ?_)); rintro _ _ ⟨rfl, rfl⟩; refine Bk.mk rfl rfl ?_))
        all_goals (conv => whnf)
        all_goals exact ⟨(noteS ⟨m3, t3, l3, f3⟩ 4 x, q + 1), ⟨by dsimp only; omega, by rw [hr]; exact he, hI3.note _ _, hK3.trans (.note _ _ _ hl5), fun p e y hy => by
          obtain rfl : q = p := by dsimp only at e; omega
          rw [hx] at hy; injection hy with hy; subst hy; exact hfz _⟩, by dsimp only; omega, [(1, .k 1), (2, .k 2)], ⟨by (try dsimp only); (repeat (refine LeT.cons rfl (by first | exact LeS.d (by first | exact LeD.u rfl | fail) | fail) ?_)); exact LeT.nil, by (try dsimp only); repeat (first | exact LeO.nil | refine LeO.fm rfl (by first | rfl | fail) ?_ | fail)⟩⟩
  · obtain rfl : q = l.length := by omega
    rw [List.drop_length, loadW] at he
    injection he with p1 p2
    injection p1 with p3 p4 p5 p6
    subst p2 p3 p4 p5 p6
    repeat' ((conv => whnf); first | refine Gs.id ?_ | refine Brn.F (by (try simp only [smT]); first | rfl | omega | fail) ?_ | fail)
    all_goals (conv => whnf)
    all_goals exact RetO.mk ⟨[], _, _, (by first | exact LeS.d (by first | exact LeD.u rfl | fail) | fail), LeO.fm rfl rfl (LeO.fm rfl rfl .nil), rfl, rfl⟩
end Go.Proofs.YtgloielnnakknaaDoor
namespace Go.Proofs.YtgloielnnakknaaDoor
open Go.RowKit
set_option maxHeartbeats 4000000 in
theorem stepA_C {us : List Un} (hU : Uok us) {R : Ld → Nat → Ld × Bool} (n : Nat) (hC : RunC us R n) (mods : List Md) (table : List Nat) (log : List Ev) (full : Bool) (i : Nat) (tk : Int) (tn tp : ByteArray) (rm : List Md) (rt : List Nat) (rl : List Ev) (rf rk : Bool) (hI : Inv us ⟨mods, table, log, full⟩) (hB : RunB ⟨mods, table, log, full⟩ n) (hi : i < mods.length) (hL : left ⟨mods, table, log, full⟩ ≤ n) (hk : tk = 1 ∨ tk = 2 ∨ tk = 5)
    (hr : stepW R us ⟨mods, table, log, full⟩ i ⟨tk, tn, tp⟩ = (⟨rm, rt, rl, rf⟩, rk)) : CallsA Tryd.prog 49 [ldP, mdP i, .a [.u (.int .i64 tk), .u (.str tn), .u (.str tp)]] (ldOb us mods table log full) (Iso (db rk) (ldOb us rm rt rl rf)) := by
  obtain ⟨⟨mn, mr, ma⟩, hmd⟩ : ∃ m, mods[i]? = some m := ⟨_, List.getElem?_eq_getElem hi⟩
  have hal := hI.alen hU (List.mem_of_getElem? hmd)
  have htl := hI.tlen hU
  dsimp only at hal htl
  have hats : atsS ⟨mods, table, log, full⟩ i = ma := by simp [atsS, hmd]
  unfold stepW at hr
  dsimp only at hr
  rcases hk with rfl | rfl | rfl
  · rw [if_pos rfl] at hr
    simp only [setS, updS, upd_at hmd] at hr
    injection hr with p1 p2
    injection p1 with p3 p4 p5 p6
    subst p2 p3 p4 p5 p6
    have hset := mset_T us mods table log full i mn mr ma hmd (by omega) tn none
    refine callsA_of_vcO (T := tt) Tryd.func49 rfl rfl rfl rfl rfl ?_
    repeat' ((conv => whnf); first | refine Gs.id ?_ | with_reducible refine Brn.T rfl ?_ | (refine CL.mk (Or.inr (Raw.callI [1,2] [1,2] rfl rfl rfl rfl rfl rfl rfl (hset) ?_)); rintro _ _ ⟨rfl, rfl⟩; refine Bk.mk rfl rfl ?_))
    all_goals (conv => whnf)
    all_goals exact RetO.mk ⟨[], _, _, (by first | exact LeS.d (by first | exact LeD.u rfl | fail) | fail), LeO.fm rfl rfl (LeO.fm rfl rfl .nil), rfl, rfl⟩
  · rw [if_neg (by decide), if_pos rfl, hats] at hr
    have hf := mfind_T us mods table log full i mn mr ma hmd (by omega) tn
    rcases aix_cases tn ma 0 with ⟨h1, h2, _, _, _⟩ | ⟨kk, a, h1, h2, _, h4, h5, _⟩
    · rw [h2, if_neg (by simp)] at hr
      rw [h1] at hf
      injection hr with p1 p2
      injection p1 with p3 p4 p5 p6
      subst p2 p3 p4 p5 p6
      refine callsA_of_vcO (T := tt) Tryd.func49 rfl rfl rfl rfl rfl ?_
      repeat' ((conv => whnf); first | refine Gs.id ?_ | with_reducible refine Brn.T rfl ?_ | with_reducible refine Brn.F rfl ?_ | (refine CL.mk (Or.inr (Raw.callI [1,2] [1,2] rfl rfl rfl rfl rfl rfl rfl (hf) ?_)); rintro _ _ ⟨rfl, rfl⟩; refine Bk.mk rfl rfl ?_))
      all_goals (conv => whnf)
      all_goals exact RetO.mk ⟨[], _, _, (by first | exact LeS.d (by first | exact LeD.u rfl | fail) | fail), LeO.fm rfl rfl (LeO.fm rfl rfl .nil), rfl, rfl⟩
    · rw [h4] at hr
      simp only [Option.isSome_some, if_true, dropS, updS, upd_at hmd, h5] at hr
      rw [h2, Nat.zero_add] at hf
      have hdrop := mdrop_T us mods table log full i mn mr ma hmd (by omega) kk (lt_get h1)
      injection hr with p1 p2
      injection p1 with p3 p4 p5 p6
      subst p2 p3 p4 p5 p6
      refine callsA_of_vcO (T := tt) Tryd.func49 rfl rfl rfl rfl rfl ?_
      repeat' ((conv => whnf); first | refine Gs.id ?_ | with_reducible refine Brn.T rfl ?_ | with_reducible refine Brn.F rfl ?_ | (refine CL.mk (Or.inr (Raw.callI [1,2] [1,2] rfl rfl rfl rfl rfl rfl rfl (hf) ?_)); rintro _ _ ⟨rfl, rfl⟩; refine Bk.mk rfl rfl ?_) | (refine CL.mk (Or.inr (Raw.callI [1,2] [1,2] rfl rfl rfl rfl rfl rfl rfl (hdrop) ?_)); rintro _ _ ⟨rfl, rfl⟩; refine Bk.mk rfl rfl ?_))
      all_goals (conv => whnf)
      all_goals exact RetO.mk ⟨[], _, _, .d (LeD.u (by simp)), LeO.fm rfl rfl (LeO.fm rfl rfl .nil), rfl, rfl⟩
  · rw [if_neg (by decide), if_neg (by decide), if_pos rfl] at hr
    have hfind := lfind_T us mods table log full tn (by omega) hI.tab
    have hff : findS ⟨mods, table, log, full⟩ tn = tfind mods tn table := rfl
    rcases hf : tfind mods tn table with _ | j
    · rw [hf] at hfind hff
      rw [hff] at hr
      simp only at hr
      injection hr with p1 p2
      injection p1 with p3 p4 p5 p6
      subst p2 p3 p4 p5 p6
      refine callsA_of_vcO (T := tt) Tryd.func49 rfl rfl rfl rfl rfl ?_
      repeat' ((conv => whnf); first | refine Gs.id ?_ | with_reducible refine Brn.T rfl ?_ | with_reducible refine Brn.F rfl ?_ | (refine CL.mk (Or.inr (Raw.callI [1,2] [1,2] rfl rfl rfl rfl rfl rfl rfl (hfind) ?_)); rintro _ _ ⟨rfl, rfl⟩; refine Bk.mk rfl rfl ?_))
      all_goals (conv => whnf)
      all_goals exact RetO.mk ⟨[], _, _, (by first | exact LeS.d (by first | exact LeD.u rfl | fail) | fail), LeO.fm rfl rfl (LeO.fm rfl rfl .nil), rfl, rfl⟩
    · rw [hf] at hfind hff
      rw [hff] at hr
      simp only at hr
      have hrun := hC _ _ _ _ j rm rt rl rf rk _ _ hI hB (hI.find j hff) hL hr rfl rfl
      refine callsA_of_vcO (T := tt) Tryd.func49 rfl rfl rfl rfl rfl ?_
      repeat' ((conv => whnf); first | refine Gs.id ?_ | with_reducible refine Brn.T rfl ?_ | with_reducible refine Brn.F rfl ?_ | (refine CL.mk (Or.inr (Raw.callI [1,2] [1,2] rfl rfl rfl rfl rfl rfl rfl (hfind) ?_)); rintro _ _ ⟨rfl, rfl⟩; refine Bk.mk rfl rfl ?_) | (refine CL.mk (Or.inr (Raw.callI [1,2] [1,2] rfl rfl rfl rfl rfl rfl rfl (hrun) ?_)); rintro _ _ ⟨rfl, rfl⟩; refine Bk.mk rfl rfl ?_))
      all_goals (conv => whnf)
      all_goals exact RetO.mk ⟨[], _, _, (by first | exact LeS.d (by first | exact LeD.u rfl | fail) | fail), LeO.fm rfl rfl (LeO.fm rfl rfl .nil), rfl, rfl⟩
set_option maxHeartbeats 4000000 in
theorem stepB_C {us : List Un} (hU : Uok us) {R : Ld → Nat → Ld × Bool} (hP : RP us R) (n : Nat) (hn : n ≤ 6000) (hC : LoaC us R n) (mods : List Md) (table : List Nat) (log : List Ev) (full : Bool) (i : Nat) (tk : Int) (tn tp : ByteArray) (rm : List Md) (rt : List Nat) (rl : List Ev) (rf rk : Bool) (hI : Inv us ⟨mods, table, log, full⟩) (hB : RunB ⟨mods, table, log, full⟩ n) (hi : i < mods.length) (hL : left ⟨mods, table, log, full⟩ ≤ n) (hk1 : ¬ tk = 1) (hk2 : ¬ tk = 2) (hk5 : ¬ tk = 5) (ht : tn.size ≤ 60 ∧ tp.size ≤ 60)
    (hr : stepW R us ⟨mods, table, log, full⟩ i ⟨tk, tn, tp⟩ = (⟨rm, rt, rl, rf⟩, rk)) : CallsA Tryd.prog 49 [ldP, mdP i, .a [.u (.int .i64 tk), .u (.str tn), .u (.str tp)]] (ldOb us mods table log full) (Iso (db rk) (ldOb us rm rt rl rf)) := by
  obtain ⟨ht1, ht2⟩ := ht
  unfold stepW at hr
  dsimp only at hr
  rw [if_neg hk1, if_neg hk2, if_neg hk5] at hr
  have hgo := loadW_P hP (chainM tn) _ hI
  have hcut := cut_T tn (by omega)
  generalize hz : loadW R us ⟨mods, table, log, full⟩ (chainM tn) = z at hr hgo
  obtain ⟨⟨zm, zt, zl, zf⟩, zk⟩ := z
  have hload := hC _ _ _ _ _ zm zt zl zf zk hI hB hL (by omega) hz
  dsimp only at hr
  cases zk
  · rw [if_neg (by simp)] at hr
    injection hr with p1 p2
    injection p1 with p3 p4 p5 p6
    subst p2 p3 p4 p5 p6
    refine callsA_of_vcO (T := tt) Tryd.func49 rfl rfl rfl rfl rfl ?_
    repeat' ((conv => whnf); first | refine Gs.id ?_ | with_reducible refine Brn.T rfl ?_ | refine Brn.F (by (try simp only [smT]); first | rfl | assumption | fail) ?_ | (refine CL.mk (Or.inr (Raw.callI [1,2] [1,2] rfl rfl rfl rfl rfl rfl rfl (hload) ?_)); rintro _ _ ⟨rfl, rfl⟩; refine Bk.mk rfl rfl ?_))
    all_goals (conv => whnf)
    all_goals exact RetO.mk ⟨[], _, _, (by first | exact LeS.d (by first | exact LeD.u rfl | fail) | fail), LeO.fm rfl rfl (LeO.fm rfl rfl .nil), rfl, rfl⟩
  · rw [if_pos rfl] at hr
    have hI1 := hgo.inv
    have hiz : i < zm.length := Nat.lt_of_lt_of_le hi hgo.keep.len
    obtain ⟨⟨mn, mr, ma⟩, hmd⟩ : ∃ m, zm[i]? = some m := ⟨_, List.getElem?_eq_getElem hiz⟩
    have hal := hI1.alen hU (List.mem_of_getElem? hmd)
    have htl := hI1.tlen hU
    dsimp only at hal htl
    by_cases hk3 : tk = 3
    · subst hk3
      rw [if_pos rfl] at hr
      simp only [setS, updS, upd_at hmd, findS] at hr
      injection hr with p1 p2
      injection p1 with p3 p4 p5 p6
      have hfind := lfind_T us zm zt zl zf (cutM tn) (by omega) hI1.tab
      have hset := mset_T us zm zt zl zf i mn mr ma hmd (by omega) (cutM tn) (tfind zm (cutM tn) zt)
      subst p2 p3 p4 p5 p6
      refine callsA_of_vcO (T := tt) Tryd.func49 rfl rfl rfl rfl rfl ?_
      repeat' ((conv => whnf); first | refine Gs.id ?_ | with_reducible refine Brn.T rfl ?_ | with_reducible refine Brn.F rfl ?_ | (refine CL.mk (Or.inl ?_); (conv => whnf); refine Cl.is (hcut) rfl (by first | exact fun _ => rfl | fail) ?_) | (refine CL.mk (Or.inr (Raw.callI [1,2] [1,2] rfl rfl rfl rfl rfl rfl rfl (hload) ?_)); rintro _ _ ⟨rfl, rfl⟩; refine Bk.mk rfl rfl ?_) | (refine CL.mk (Or.inr (Raw.callI [1,2] [1,2] rfl rfl rfl rfl rfl rfl rfl (hfind) ?_)); rintro _ _ ⟨rfl, rfl⟩; refine Bk.mk rfl rfl ?_) | (refine CL.mk (Or.inr (Raw.callI [1,2] [1,2] rfl rfl rfl rfl rfl rfl rfl (hset) ?_)); rintro _ _ ⟨rfl, rfl⟩; refine Bk.mk rfl rfl ?_))
      all_goals (conv => whnf)
      all_goals exact RetO.mk ⟨[], _, _, (by first | exact LeS.d (by first | exact LeD.u rfl | fail) | fail), LeO.fm rfl rfl (LeO.fm rfl rfl .nil), rfl, rfl⟩
    · rw [if_neg hk3] at hr
      have hfrom := lfind_T us zm zt zl zf tn (by omega) hI1.tab
      have hff : findS ⟨zm, zt, zl, zf⟩ tn = tfind zm tn zt := rfl
      unfold partW at hr
      dsimp only at hr
      rcases hf : tfind zm tn zt with _ | j
      · rw [hf] at hfrom hff
        rw [hff] at hr
        simp only at hr
        injection hr with p1 p2
        injection p1 with p3 p4 p5 p6
        subst p2 p3 p4 p5 p6
        refine callsA_of_vcO (T := tt) Tryd.func49 rfl rfl rfl rfl rfl ?_
        repeat' ((conv => whnf); first | refine Gs.id ?_ | with_reducible refine Brn.T rfl ?_ | with_reducible refine Brn.F rfl ?_ | refine Brn.F (by (try simp only [smT]); first | rfl | assumption | fail) ?_ | (refine CL.mk (Or.inr (Raw.callI [1,2] [1,2] rfl rfl rfl rfl rfl rfl rfl (hload) ?_)); rintro _ _ ⟨rfl, rfl⟩; refine Bk.mk rfl rfl ?_) | (refine CL.mk (Or.inr (Raw.callI [1,2] [1,2] rfl rfl rfl rfl rfl rfl rfl (hfrom) ?_)); rintro _ _ ⟨rfl, rfl⟩; refine Bk.mk rfl rfl ?_))
        all_goals (conv => whnf)
        all_goals exact RetO.mk ⟨[], _, _, (by first | exact LeS.d (by first | exact LeD.u rfl | fail) | fail), LeO.fm rfl rfl (LeO.fm rfl rfl .nil), rfl, rfl⟩
      · rw [hf] at hfrom hff
        rw [hff] at hr
        simp only at hr
        have hjz := hI1.find j hff
        dsimp only at hjz
        obtain ⟨⟨jn, jr, ja⟩, hjm⟩ : ∃ m, zm[j]? = some m := ⟨_, List.getElem?_eq_getElem hjz⟩
        have hjl := hI1.alen hU (List.mem_of_getElem? hjm)
        dsimp only at hjl
        have hats : atsS ⟨zm, zt, zl, zf⟩ j = ja := by simp [atsS, hjm]
        rw [hats] at hr
        have hpf := mfind_T us zm zt zl zf j jn jr ja hjm (by omega) tp
        rcases aix_cases tp ja 0 with ⟨h1, h2, _, _, _⟩ | ⟨kk, a, h1, h2, _, h4, _, _⟩
        · rw [h2] at hr
          rw [h1] at hpf
          simp only at hr
          have hd1 : dot.size = 1 := rfl
          have hws : (wholeB ⟨tk, tn, tp⟩).size ≤ 121 := by simp only [wholeB, ByteArray.size_append, hd1]; omega
          have hwe : wholeB ⟨tk, tn, tp⟩ = tn ++ dot ++ tp := rfl
          have hget := (uents_get (tn ++ dot ++ tp) [.str ⟨#[]⟩, .nl] us).1
          have hno := uents_no (tn ++ dot ++ tp) [.str ⟨#[]⟩, .nl] us
          have hhs := (uents_get (tn ++ dot ++ tp) [.str ⟨#[]⟩, .nl] us).2
          have huok := uents_ok us
          rw [hwe] at hr hws
          have hcat : (tn ++ dot).size ≤ 61 := by simp only [ByteArray.size_append, hd1]; omega
          cases hh : hasU us (tn ++ dot ++ tp)
          · rw [hh] at hr hhs
            have hno := hno hh
            rw [if_neg (by simp)] at hr
            injection hr with p1 p2
            injection p1 with p3 p4 p5 p6
            subst p2 p3 p4 p5 p6
            refine callsA_of_vcO (T := tt) Tryd.func49 rfl rfl rfl rfl rfl ?_
            repeat' ((conv => whnf); first | refine Cat.mk (by have hd2 : (⟨#[46]⟩ : ByteArray).size = 1 := rfl; unfold maxLen; simp only [ByteArray.size_append, hd2]; omega) ?_ | refine Mlk.of _ _ (by kernel_rfl) huok hno hhs ?_ | refine Gs.id ?_ | with_reducible refine Brn.T rfl ?_ | with_reducible refine Brn.F rfl ?_ | refine Brn.F (by (try simp only [smT]); first | rfl | assumption | fail) ?_ | refine Rw.lit rfl ?_ | (refine CL.mk (Or.inr (Raw.callI [1,2] [1,2] rfl rfl rfl rfl rfl rfl rfl (hload) ?_)); rintro _ _ ⟨rfl, rfl⟩; refine Bk.mk rfl rfl ?_) | (refine CL.mk (Or.inr (Raw.callI [1,2] [1,2] rfl rfl rfl rfl rfl rfl rfl (hfrom) ?_)); rintro _ _ ⟨rfl, rfl⟩; refine Bk.mk rfl rfl ?_) | (refine CL.mk (Or.inr (Raw.callI [1,2] [1,2] rfl rfl rfl rfl rfl rfl rfl (hpf) ?_)); rintro _ _ ⟨rfl, rfl⟩; refine Bk.mk rfl rfl ?_))
            all_goals (conv => whnf)
            all_goals exact RetO.mk ⟨[], _, _, (by first | exact LeS.d (by first | exact LeD.u rfl | fail) | fail), LeO.fm rfl rfl (LeO.fm rfl rfl .nil), rfl, rfl⟩
          · rw [hh] at hhs
            have hget := hget hh
            rw [hh, if_pos rfl] at hr
            have hB1 := hgo.keep.runB hB (by omega)
            have hL1 := Nat.le_trans hgo.keep.lf hL
            have hg2 := loadW_P hP (chainM (tn ++ dot ++ tp)) _ hI1
            generalize hz2 : loadW R us ⟨zm, zt, zl, zf⟩ (chainM (tn ++ dot ++ tp)) = z2 at hr hg2
            obtain ⟨⟨ym, yt, yl, yf⟩, yk⟩ := z2
            have hload2 := hC _ _ _ _ _ ym yt yl yf yk hI1 hB1 hL1 (by omega) hz2
            dsimp only at hr
            cases yk
            · rw [if_neg (by simp)] at hr
              injection hr with p1 p2
              injection p1 with p3 p4 p5 p6
              subst p2 p3 p4 p5 p6
              refine callsA_of_vcO (T := tt) Tryd.func49 rfl rfl rfl rfl rfl ?_
              repeat' ((conv => whnf); first | refine Cat.mk (by have hd2 : (⟨#[46]⟩ : ByteArray).size = 1 := rfl; unfold maxLen; simp only [ByteArray.size_append, hd2]; omega) ?_ | refine Mlk.of _ _ (by kernel_rfl) huok hget hhs ?_ | refine Gs.id ?_ | with_reducible refine Brn.T rfl ?_ | with_reducible refine Brn.F rfl ?_ | refine Brn.F (by (try simp only [smT]); first | rfl | assumption | fail) ?_ | refine Rw.lit rfl ?_ | (refine CL.mk (Or.inr (Raw.callI [1,2] [1,2] rfl rfl rfl rfl rfl rfl rfl (hload) ?_)); rintro _ _ ⟨rfl, rfl⟩; refine Bk.mk rfl rfl ?_) | (refine CL.mk (Or.inr (Raw.callI [1,2] [1,2] rfl rfl rfl rfl rfl rfl rfl (hfrom) ?_)); rintro _ _ ⟨rfl, rfl⟩; refine Bk.mk rfl rfl ?_) | (refine CL.mk (Or.inr (Raw.callI [1,2] [1,2] rfl rfl rfl rfl rfl rfl rfl (hpf) ?_)); rintro _ _ ⟨rfl, rfl⟩; refine Bk.mk rfl rfl ?_) | (refine CL.mk (Or.inr (Raw.callI [1,2] [1,2] rfl rfl rfl rfl rfl rfl rfl (hload2) ?_)); rintro _ _ ⟨rfl, rfl⟩; refine Bk.mk rfl rfl ?_))
              all_goals (conv => whnf)
              all_goals exact RetO.mk ⟨[], _, _, (by first | exact LeS.d (by first | exact LeD.u rfl | fail) | fail), LeO.fm rfl rfl (LeO.fm rfl rfl .nil), rfl, rfl⟩
            · rw [if_pos rfl] at hr
              have hiy : i < ym.length := Nat.lt_of_lt_of_le hiz hg2.keep.len
              obtain ⟨⟨mn2, mr2, ma2⟩, hmd2⟩ : ∃ m, ym[i]? = some m := ⟨_, List.getElem?_eq_getElem hiy⟩
              have hal2 := hg2.inv.alen hU (List.mem_of_getElem? hmd2)
              have htl2 := hg2.inv.tlen hU
              dsimp only at hal2 htl2
              simp only [setS, updS, upd_at hmd2, findS] at hr
              injection hr with p1 p2
              injection p1 with p3 p4 p5 p6
              have hfind2 := lfind_T us ym yt yl yf (tn ++ dot ++ tp) (by omega) hg2.inv.tab
              have hset2 := mset_T us ym yt yl yf i mn2 mr2 ma2 hmd2 (by omega) tp (tfind ym (tn ++ dot ++ tp) yt)
              subst p2 p3 p4 p5 p6
              refine callsA_of_vcO (T := tt) Tryd.func49 rfl rfl rfl rfl rfl ?_
              repeat' ((conv => whnf); first | refine Cat.mk (by have hd2 : (⟨#[46]⟩ : ByteArray).size = 1 := rfl; unfold maxLen; simp only [ByteArray.size_append, hd2]; omega) ?_ | refine Mlk.of _ _ (by kernel_rfl) huok hget hhs ?_ | refine Drw.ghost (i := 30) (Ghost.frzB 5 rfl rfl) ?_ | refine Gs.id ?_ | with_reducible refine Brn.F rfl ?_ | refine Brn.F (by (try simp only [smT]); first | rfl | assumption | fail) ?_ | refine Rw.lit rfl ?_ | refine Drw.ofP (T := tt) (i := 30) [5, 6] [0, 1, 2, 3, 4] [0, 1, 2, 3, 4] (OT.alt 5 (OT.alt 6 OT.nil OT.nil) OT.nil) (by kernel_rfl) ?_ | (refine CL.mk (Or.inr (Raw.callI [1,2] [1,2] rfl rfl rfl rfl rfl rfl rfl (hload) ?_)); rintro _ _ ⟨rfl, rfl⟩; refine Bk.mk rfl rfl ?_) | (refine CL.mk (Or.inr (Raw.callI [1,2] [1,2] rfl rfl rfl rfl rfl rfl rfl (hfrom) ?_)); rintro _ _ ⟨rfl, rfl⟩; refine Bk.mk rfl rfl ?_) | (refine CL.mk (Or.inr (Raw.callI [1,2] [1,2] rfl rfl rfl rfl rfl rfl rfl (hpf) ?_)); rintro _ _ ⟨rfl, rfl⟩; refine Bk.mk rfl rfl ?_) | (refine CL.mk (Or.inr (Raw.callI [1,2] [1,2] rfl rfl rfl rfl rfl rfl rfl (hload2) ?_)); rintro _ _ ⟨rfl, rfl⟩; refine Bk.mk rfl rfl ?_) | (refine CL.mk (Or.inr (Raw.callI [1,2] [1,2] rfl rfl rfl rfl rfl rfl rfl (hfind2) ?_)); rintro _ _ ⟨rfl, rfl⟩; refine Bk.mk rfl rfl ?_) | (refine CL.mk (Or.inr (Raw.callI [1,2] [1,2] rfl rfl rfl rfl rfl rfl rfl (hset2) ?_)); rintro _ _ ⟨rfl, rfl⟩; refine Bk.mk rfl rfl ?_))
              all_goals (conv => whnf)
              all_goals exact RetO.mk ⟨[], _, _, (by first | exact LeS.d (by first | exact LeD.u rfl | fail) | fail), LeO.fm rfl rfl (LeO.fm rfl rfl .nil), rfl, rfl⟩
        · obtain ⟨an, am⟩ := a
          dsimp only at h4
          rw [h4] at hr
          rw [h2, Nat.zero_add] at hpf
          have hkl := lt_get h1
          simp only [setS, updS, upd_at hmd] at hr
          injection hr with p1 p2
          injection p1 with p3 p4 p5 p6
          have hset := mset_T us zm zt zl zf i mn mr ma hmd (by omega) tp am
          subst p2 p3 p4 p5 p6
          refine callsA_of_vcO (T := tt) Tryd.func49 rfl rfl rfl rfl rfl ?_
          repeat' ((conv => whnf); first | refine Rw_md hjm ?_ | refine Rw_at h1 ?_ | refine Drw.ghost (i := 24) (Ghost.frzB 5 rfl rfl) ?_ | refine Gs.id ?_ | with_reducible refine Brn.T rfl ?_ | with_reducible refine Brn.F rfl ?_ | refine Brn.F (by (try simp only [smT]); first | rfl | assumption | fail) ?_ | refine Ixo.mk ⟨_, rfl, (by (try simp only [smT]); omega), ?_⟩ | refine Drw.ofP (T := tt) (i := 24) [6, 8, 9, 10, 11] [0, 1, 2, 3, 4, 5, 7] [0, 1, 2, 3, 4, 5, 7] (OT.alt 6 (OT.alt 8 (OT.alt 9 (OT.alt 10 (OT.alt 11 OT.nil OT.nil) OT.nil) OT.nil) OT.nil) OT.nil) (by kernel_rfl) ?_ | (refine CL.mk (Or.inr (Raw.callI [1,2] [1,2] rfl rfl rfl rfl rfl rfl rfl (hload) ?_)); rintro _ _ ⟨rfl, rfl⟩; refine Bk.mk rfl rfl ?_) | (refine CL.mk (Or.inr (Raw.callI [1,2] [1,2] rfl rfl rfl rfl rfl rfl rfl (hfrom) ?_)); rintro _ _ ⟨rfl, rfl⟩; refine Bk.mk rfl rfl ?_) | (refine CL.mk (Or.inr (Raw.callI [1,2] [1,2] rfl rfl rfl rfl rfl rfl rfl (hpf) ?_)); rintro _ _ ⟨rfl, rfl⟩; refine Bk.mk rfl rfl ?_) | (refine CL.mk (Or.inr (Raw.callI [1,2] [1,2] rfl rfl rfl rfl rfl rfl rfl (hset) ?_)); rintro _ _ ⟨rfl, rfl⟩; refine Bk.mk rfl rfl ?_))
          all_goals (conv => whnf)
          all_goals exact RetO.mk ⟨[], _, _, (by first | exact LeS.d (by first | exact LeD.u rfl | fail) | fail), LeO.fm rfl rfl (LeO.fm rfl rfl .nil), rfl, rfl⟩
end Go.Proofs.YtgloielnnakknaaDoor
namespace Go.Proofs.YtgloielnnakknaaDoor
open Go.RowKit
theorem step_C {us : List Un} (hU : Uok us) {R : Ld → Nat → Ld × Bool} (hP : RP us R) (n : Nat) (hn : n ≤ 6000) (hC : RunC us R n) : SteC us (stepW R us) n := by
  intro mods table log full i t zm zt zl zf zk hI hB hi ht hL hz
  obtain ⟨u, hu, htu⟩ := ht
  have hs := hU.step u hu t htu
  obtain ⟨tk, tn, tp⟩ := t
  by_cases hk : tk = 1 ∨ tk = 2 ∨ tk = 5
  · exact stepA_C hU n hC mods table log full i tk tn tp zm zt zl zf zk hI hB hi hL hk hz
  · exact stepB_C hU hP n hn (load_C hU hP n hn (make_C hU hP n hn hC)) mods table log full i tk tn tp zm zt zl zf zk hI hB hi hL (fun e => hk (.inl e)) (fun e => hk (.inr (.inl e))) (fun e => hk (.inr (.inr e))) hs hz
theorem runM_C {us : List Un} (hU : Uok us) : ∀ n, n ≤ 6000 → RunC us (runM us n) n
  | 0, hn => run_C hU (fun s i t h _ _ => ⟨h, .refl s, fun e => by cases e⟩) 0 0 hn hn (fun s h => by omega) (.inr rfl)
  | n + 1, hn => run_C hU (stepW_P (runM_P us n)) (n + 1) n hn (by omega) (fun _ _ => step_C hU (runM_P us n) n (by omega) (runM_C hU n (by omega))) (.inl rfl)
end Go.Proofs.YtgloielnnakknaaDoor
namespace Go.Proofs.YtgloielnnakknaaDoor
open Go.RowKit
theorem stepsM_zero : ∀ {l : List Stp} {c : Int}, stepsM c l = 0 → c = 0 ∧ ∀ s ∈ l, stepM s = 0
  | [], c, h => ⟨h, fun _ h => by cases h⟩
  | s :: r, c, h => by
    rw [stepsM] at h
    obtain ⟨h1, h2⟩ := stepsM_zero h
    by_cases hc : c = 0
    · rw [if_pos hc] at h1
      refine ⟨hc, fun x hx => ?_⟩
      rcases List.mem_cons.1 hx with rfl | hx
      · exact h1
      · exact h2 x hx
    · rw [if_neg hc] at h1; exact absurd h1 hc
theorem inL_sput (x n : ByteArray) (l : List ByteArray) : inL x (sput l n) = (decide (x = n) || inL x l) := by
  unfold sput
  split
  · rename_i h
    by_cases e : x = n
    · subst e; simp [h]
    · simp [e]
  · simp [inL, Bool.or_comm]
theorem validM_ok : ∀ {l : List Un} {i : Nat} {seen : List ByteArray}, (validM l i seen).1 = 0 → (∀ u ∈ l, dottedM u.name = true ∧ u.steps.length ≤ 30 ∧ ∀ t ∈ u.steps, stepM t = 0) ∧ (l.map Un.name).Nodup ∧ (∀ u ∈ l, inL u.name seen = false) ∧ (i = 0 → ∀ u, l[0]? = some u → u.name = mainB)
  | [], _, _, _ => ⟨fun _ h => (by cases h), by simp, fun _ h => (by cases h), fun _ _ h => (by cases h)⟩
  | u :: r, i, seen, h => by
    rw [validM] at h
    split at h
    · rename_i hne; exact absurd h hne
    · rename_i h0
      have h0 : unitM u i seen = 0 := by simpa using h0
      obtain ⟨h1, h2, h3, _⟩ := validM_ok h
      rw [unitM] at h0
      obtain ⟨g1, g2⟩ := stepsM_zero h0
      rw [unit0M] at g1
      split at g1
      · cases g1
      rename_i q1
      split at g1
      · cases g1
      rename_i q2
      split at g1
      · cases g1
      rename_i q3
      split at g1
      · cases g1
      rename_i q4
      have q1 : dottedM u.name = true := by simpa using q1
      have q2 : inL u.name seen = false := by simpa using q2
      refine ⟨fun v hv => ?_, ?_, fun v hv => ?_, fun hi v hv => ?_⟩
      · rcases List.mem_cons.1 hv with rfl | hv
        · exact ⟨q1, by omega, g2⟩
        · exact h1 v hv
      · simp only [List.map_cons, List.nodup_cons]
        refine ⟨fun hm => ?_, h2⟩
        obtain ⟨v, hv, e⟩ := List.mem_map.1 hm
        have := h3 v hv
        rw [inL_sput, e] at this
        simp at this
      · rcases List.mem_cons.1 hv with rfl | hv
        · exact q2
        · have := h3 v hv
          rw [inL_sput] at this
          simp only [Bool.or_eq_false_iff] at this
          exact this.2
      · simp at hv
        subst hv
        by_cases e : u.name = mainB
        · exact e
        · exact absurd ⟨hi, e⟩ q3
theorem nameB_size {s : ByteArray} (h : nameB s = true) : s.size ≤ 60 := by
  unfold nameB at h
  simp at h
  omega
theorem dottedM_size {s : ByteArray} (h : dottedM s = true) : s.size ≤ 60 := by
  unfold dottedM at h
  simp at h
  omega
theorem stepM_size {t : Stp} (h : stepM t = 0) : t.name.size ≤ 60 ∧ t.part.size ≤ 60 := by
  unfold stepM at h
  split at h
  · cases h
  split at h
  · cases h
  rename_i h1 h2
  split at h
  · cases h
  rename_i h3
  simp only [badNameM, simpleM] at h2
  have hp : t.part.size ≤ 60 := by
    by_cases h4 : t.kind = 4
    · have : nameB t.part = true := by
        cases hb : nameB t.part
        · exfalso; simp_all
        · rfl
      exact nameB_size this
    · have : t.part = emp := by
        by_cases e : t.part = emp
        · exact e
        · exact absurd ⟨h4, e⟩ h3
      rw [this]; decide
  refine ⟨?_, hp⟩
  cases hb : nameB t.name
  · have : dottedM t.name = true := by
      cases hd : dottedM t.name
      · exfalso; simp_all
      · rfl
    exact dottedM_size this
  · exact nameB_size hb
theorem valid_Uok {l : List Un} (h : (validateM l).1 = 0) : Uok l ∧ (l.map Un.name).Nodup ∧ 0 < l.length ∧ (∀ u, l[0]? = some u → u.name = mainB) ∧ (∀ u ∈ l, dottedM u.name = true ∧ u.steps.length ≤ 30 ∧ ∀ t ∈ u.steps, stepM t = 0) := by
  unfold validateM at h
  split at h
  · cases h
  split at h
  · cases h
  rename_i h1 h2
  obtain ⟨g1, g2, _, g4⟩ := validM_ok h
  exact ⟨⟨by omega, fun u hu => dottedM_size (g1 u hu).1, fun u hu => (g1 u hu).2.1, fun u hu t ht => stepM_size ((g1 u hu).2.2 t ht)⟩, g2, by omega, g4 rfl, g1⟩
theorem mput_new (n : ByteArray) (row : List V) : ∀ l : List Un, n ∉ l.map Un.name → mputT (uents l) [.str n] row = uents l ++ [([.str n], row)]
  | [], _ => rfl
  | u :: r, h => by
    have h1 : ¬ n = u.name := fun e => h (by simp [e])
    have h2 := mput_new n row r fun e => h (by simp at e ⊢; exact .inr e)
    simp only [uents, List.map_cons, mputT, eqC_sd, h1, decide_false, cond_false] at h2 ⊢
    rw [h2]; rfl
/-- Ahead of the run of main. -/
def initS : Ld := ⟨[⟨mainB, 0, []⟩], [0], [], false⟩
theorem hasU_of {l : List Un} {u : Un} (h : u ∈ l) : hasU l u.name = true := by
  induction l with
  | nil => cases h
  | cons a r ih =>
    rw [hasU]
    split
    · rfl
    · rename_i hne
      rcases List.mem_cons.1 h with rfl | h
      · exact absurd rfl hne
      · exact ih h
theorem init_inv {l : List Un} (h : (validateM l).1 = 0) : Inv l initS ∧ RunB initS 5001 ∧ left initS ≤ 5001 := by
  obtain ⟨_, _, h3, h4, _⟩ := valid_Uok h
  have h0 := h4 _ (List.getElem?_eq_getElem h3)
  have hm := hasU_of (List.getElem_mem h3)
  rw [h0] at hm
  refine ⟨⟨by simp [initS], by simp [initS], by simp [initS], fun m hm' => ?_, fun m hm' => ?_, fun m hm' => ?_, fun m hm' => ?_⟩, fun m hm' => ?_, by simp [left, initS]⟩
  all_goals
    simp [initS] at hm'
    subst hm'
  · exact hm
  · simp
  · intro a ha; cases ha
  · intro a ha; cases ha
  · simp
end Go.Proofs.YtgloielnnakknaaDoor
namespace Go.Proofs.YtgloielnnakknaaDoor
open Go.RowKit
abbrev noOb : List (Nat × Ob) := [(1, .fm 0 []), (2, .fm 82 [])]
def finS (l : List Un) : Ld := (runM l 5001 initS 0).1
theorem loaded_bad (l : List Un) (h : (validateM l).1 ≠ 0) : CallsA Tryd.prog 27 [.d (.u (uns l))] noOb (Iso (.t [.d (.u .pn), .a (fd (validateM l))]) noOb) := by
  have hv := validate_T l
  generalize validateM l = f at *
  obtain ⟨c, i⟩ := f
  dsimp only at h
  refine callsA_of_vcO (T := tt) Tryd.func27 rfl rfl rfl rfl rfl ?_
  repeat' ((conv => whnf); first | refine Gs.id ?_ | refine Brn.T (by (try simp only [smT]); first | rfl | assumption | fail) ?_ | refine Drw.of (T := tt) (i := 3) [2] [] [(0, true), (1, true), (2, false)] (by kernel_rfl) ?_ | (refine CL.mk (Or.inl ?_); (conv => whnf); refine Cl.is (hv) rfl (by first | exact fun _ => rfl | fail) ?_) | fail)
  all_goals (conv => whnf)
  all_goals exact RetO.mk ⟨[], _, _, (by exact LeS.ts (by repeat (first | exact LeCs.nil | refine LeCs.cons (by first | exact LeC.d (by first | exact LeD.u rfl | fail) | exact LeC.a (by repeat (first | exact LeL.nil | refine LeL.cons (by first | exact LeD.u rfl | fail) ?_))) ?_))), LeO.fm rfl rfl (LeO.fm rfl rfl .nil), rfl, rfl⟩
/-- The units that are in the map. -/
def uentsT (l : List Un) (i : Nat) : List (List V × List V) := uents (l.take i)
theorem uentsT_zero (l : List Un) : uentsT l 0 = [] := by simp [uentsT, uents]
theorem uentsT_all (l : List Un) : uentsT l l.length = uents l := by simp [uentsT]
theorem uentsT_ok (l : List Un) (i : Nat) : ∀ e ∈ uentsT l i, keyT .sr e.1 = true := uents_ok _
theorem uentsT_put {l : List Un} (hnd : (l.map Un.name).Nodup) {i : Nat} {n : ByteArray} {st : List Stp} (h : l[i]? = some ⟨n, st⟩) : mputT (uentsT l i) [.str n] [.str n, .sl 3 (st.map Stp.row)] = uentsT l (i + 1) := by
  have hi := lt_get h
  have e : l.take (i + 1) = l.take i ++ [⟨n, st⟩] := by rw [List.take_add_one, h]; rfl
  have hn : n ∉ (l.take i).map Un.name := fun hm => by
    have h2 : ((l.take (i + 1)).map Un.name).Nodup := hnd.sublist ((List.take_sublist _ _).map _)
    rw [e, List.map_append, List.nodup_append] at h2
    exact h2.2.2 _ hm n (by simp) rfl
  rw [uentsT, mput_new n _ _ hn, uentsT, e]
  simp [uents, Un.row]
theorem mk_ld (es : List (List V × List V)) : mkE [(1, 71, 1), (2, 43, 2)] 0 [V.fz true es, V.nl, V.nl, V.bool false] = [E.v (V.fz true es), E.os 71 1 [], E.os 43 2 [], E.v (V.bool false)] := rfl
set_option maxHeartbeats 4000000 in
theorem loaded_T (l : List Un) (h : (validateM l).1 = 0) (zm : List Md) (zt : List Nat) (zl : List Ev) (zf : Bool) (hz : finS l = ⟨zm, zt, zl, zf⟩) : CallsA Tryd.prog 27 [.d (.u (uns l))] noOb (Iso (.t [.d (.u (if zf = true then .pn else .m 1 0 0)), .a (if zf = true then fd (21, -1) else fd (0, 0))]) (ldOb l zm zt zl zf)) := by
  have hv := validate_T l
  obtain ⟨hU, hnd, hlen, hmain, _⟩ := valid_Uok h
  obtain ⟨hI, hB, hL⟩ := init_inv h
  have hfv : ∃ i, validateM l = (0, i) := ⟨(validateM l).2, by rw [← h]⟩
  obtain ⟨i0, hfv⟩ := hfv
  rw [hfv] at hv
  have hl40 := hU.len
  obtain ⟨zk, hrk⟩ : ∃ zk, runM l 5001 initS 0 = (⟨zm, zt, zl, zf⟩, zk) := ⟨(runM l 5001 initS 0).2, by rw [← hz]; rfl⟩
  have hrun := runM_C hU 5001 (by omega) _ _ _ _ 0 zm zt zl zf zk _ _ hI hB (by simp [initS]) hL hrk rfl rfl
  refine callsA_of_vcO (T := tt) Tryd.func27 rfl rfl rfl rfl rfl ?_
  repeat' ((conv => whnf); first | refine Gs.id ?_ | with_reducible refine Brn.F rfl ?_ | (refine Bnd.mk (fun hm => ?_); (try simp only [smT] at hm)) | refine Raw.makeMap (T := tt) rfl rfl rfl rfl rfl rfl (.inl rfl) rfl rfl ?_ | (refine CL.mk (Or.inl ?_); (conv => whnf); refine Cl.is (hv) rfl (by first | exact fun _ => rfl | fail) ?_) | fail)
  all_goals (conv => whnf)
  refine ⟨⟨Nat, fun i => i ≤ l.length, fun i => l.length - i, fun i => ⟨[(3, .d (.p 3 0)), (5, .d (.p 17 0)), (18, .d (.u (uns l))), (19, di l.length), (20, di i)], [(3, .bx 24 [.u (.int .i64 0), .u (.int .i64 0)]), (17, .bx 63 [.mp 903, .u .nl, .u .nl, .u (.bool false)]), (903, .mp false true (uentsT l i)), (1, .fm 0 []), (2, .fm 82 [])]⟩, 0, Nat.zero_le _, ⟨[(3, .k 3), (17, .k 17), (903, .k 15), (1, .k 1), (2, .k 2)], ⟨by (try dsimp only); (repeat (refine LeT.cons rfl (by first | exact LeS.d (by first | exact LeD.u rfl | exact LeD.p rfl | exact LeD.u (by simp [uentsT_zero]; done) | fail) | fail) ?_)); exact LeT.nil, by (try dsimp only); repeat (first | exact LeO.nil | refine LeO.bx rfl rfl (by repeat (first | exact LeL.nil | refine LeL.cons (by first | exact LeD.u rfl | exact LeD.mp rfl | fail) ?_)) ?_ | refine LeO.fm rfl (by first | rfl | fail) ?_ | refine LeO.mp rfl rfl (by first | rfl | fail) ?_ | fail)⟩⟩, fun i hi => ?_⟩⟩
  dsimp only at hi ⊢
  by_cases h9 : i < l.length
  · obtain ⟨⟨un, ust⟩, hu⟩ : ∃ u, l[i]? = some u := ⟨_, List.getElem?_eq_getElem h9⟩
    have hrow : ∀ {K : List V → Prop}, K (Un.row ⟨un, ust⟩) → Ix (l.map Un.row) (i : Int) K := fun k => Ix.map rfl h9 (by rw [(List.getElem?_eq_some_iff.1 hu).2]; exact k)
    have hput := uentsT_put hnd hu
    have hok := uentsT_ok l i
    repeat' ((conv => whnf); first | refine hrow ?_ | refine Drw.ghost (i := 8) (Ghost.frzB 7 rfl rfl) ?_ | refine Gs.id ?_ | refine Brn.T (by (try simp only [smT]); first | rfl | omega | fail) ?_ | refine Rng.mk (by (try simp only [smT]); omega) ?_ | refine Raw.mapUpdate (T := tt) (.inl rfl) rfl rfl rfl rfl rfl rfl rfl rfl rfl rfl rfl (by assumption) ?_ | refine Drw.ofP (T := tt) (i := 8) [3, 7] [0, 1, 2, 4, 5, 6] [0, 1, 2, 4, 5, 6] (OT.alt 3 (OT.alt 7 OT.nil OT.nil) OT.nil) (by kernel_rfl) ?_ | fail)
    all_goals (conv => whnf)
    all_goals exact ⟨i + 1, by omega, by omega, [(3, .k 3), (17, .k 17), (903, .k 903), (1, .k 1), (2, .k 2)], ⟨by (try dsimp only); (repeat (refine LeT.cons rfl (by first | exact LeS.d (by first | exact LeD.u rfl | exact LeD.p rfl | fail) | fail) ?_)); exact LeT.nil, by (try dsimp only); repeat (first | exact LeO.nil | refine LeO.bx rfl rfl (by repeat (first | exact LeL.nil | refine LeL.cons (by first | exact LeD.u rfl | exact LeD.mp rfl | fail) ?_)) ?_ | refine LeO.fm rfl (by first | rfl | fail) ?_ | refine LeO.mp rfl rfl (by first | simp [hput]) ?_ | fail)⟩⟩
  · obtain rfl : i = l.length := by omega
    refine' cutR (fun _ : Unit => True) (fun _ => ⟨[(3, .d (.p 3 0)), (5, ldP), (8, mdP 0)], (3, .bx 24 [.u (.int .i64 0), .u (.int .i64 0)]) :: ldOb l [⟨mainB, 0, []⟩] [0] [] false⟩) _ (fun hR => ?_) ?_
    rotate_left
    · repeat' ((conv => whnf); first | refine Gs.cut (i := 12) (by assumption) () [(1, .k 1), (2, .k 2), (3, .k 3)] rfl ?_ trivial | refine Gs.go (i := 10) ((Ghost.frzM 903 rfl).trans (Ghost.toFam 17 5 1 [(1, (71, 1)), (2, (43, 2))] rfl rfl rfl rfl rfl rfl)) ?_ | refine Gs.id ?_ | refine Brn.F (by (try simp only [smT]); first | rfl | omega | fail) ?_ | refine Rw.lit rfl ?_ | refine Len.mk (by first | rfl | fail) ?_ | refine Apd.mk (by first | rfl | fail) (by first | rfl | fail) (by (try simp only [smT]); first | omega | fail) (by unfold maxLen; first | (simp; done) | fail) ?_ | (refine Raw.appendR (T := tt) ?_; (conv => whnf); first | refine Rw.lit rfl ?_ | fail) | refine Spc.mk ⟨[(2,(84,2))], ?_⟩)
      all_goals exact ⟨by (try dsimp only); (repeat (refine LeT.cons rfl (by first | exact LeS.d (by first | exact LeD.u rfl | exact LeD.p rfl | fail) | fail) ?_)); exact LeT.nil, by (try dsimp only); repeat (first | exact LeO.nil | refine LeO.bx rfl rfl (by repeat (first | exact LeL.nil | refine LeL.cons (by first | exact LeD.u rfl | fail) ?_)) ?_ | refine LeO.fm rfl (by first | rfl | simp [Md.row, mk_md, uentsT_all, mk_ld, ldRow]) ?_ | fail)⟩
    · intro _ _
      dsimp only
      cases zf
      · rw [if_neg (by simp), if_neg (by simp)]
        repeat' ((conv => whnf); first | refine Gs.id ?_ | with_reducible refine Brn.F rfl ?_ | refine Rw.lit rfl ?_ | (refine CL.mk (Or.inr (Raw.callI [1,2] [1,2] rfl rfl rfl rfl rfl rfl rfl (hrun) ?_)); rintro _ _ ⟨rfl, rfl⟩; refine Bk.mk rfl rfl ?_))
        all_goals (conv => whnf)
        all_goals exact RetO.mk ⟨[], _, _, (by exact LeS.ts (by repeat (first | exact LeCs.nil | refine LeCs.cons (by first | exact LeC.d (by first | exact LeD.u rfl | fail) | exact LeC.a (by repeat (first | exact LeL.nil | refine LeL.cons (by first | exact LeD.u rfl | fail) ?_))) ?_))), LeO.fm rfl rfl (LeO.fm rfl rfl .nil), rfl, rfl⟩
      · rw [if_pos rfl, if_pos rfl]
        repeat' ((conv => whnf); first | refine Gs.id ?_ | with_reducible refine Brn.T rfl ?_ | refine Rw.lit rfl ?_ | (refine CL.mk (Or.inr (Raw.callI [1,2] [1,2] rfl rfl rfl rfl rfl rfl rfl (hrun) ?_)); rintro _ _ ⟨rfl, rfl⟩; refine Bk.mk rfl rfl ?_))
        all_goals (conv => whnf)
        all_goals exact RetO.mk ⟨[], _, _, (by exact LeS.ts (by repeat (first | exact LeCs.nil | refine LeCs.cons (by first | exact LeC.d (by first | exact LeD.u rfl | fail) | exact LeC.a (by repeat (first | exact LeL.nil | refine LeL.cons (by first | exact LeD.u rfl | fail) ?_))) ?_))), LeO.fm rfl rfl (LeO.fm rfl rfl .nil), rfl, rfl⟩
/-- What Load returns: the events, or a fault. -/
theorem load_bad (l : List Un) (f : Int × Int) (hf : ((validateM l).1 ≠ 0 ∧ f = validateM l) ∨ ((validateM l).1 = 0 ∧ (finS l).full = true ∧ f = (21, -1))) : CallsA Tryd.prog 14 [.d (.u (uns l))] noOb (Iso (.t [.d (.u .nl), .a (fd f)]) []) := by
  obtain ⟨c, i⟩ := f
  rcases hf with ⟨h1, h2⟩ | ⟨h1, h2, h3⟩
  · have hl := loaded_bad l h1
    rw [← h2] at hl h1
    dsimp only at h1
    refine callsA_of_vcO (T := tt) Tryd.func14 rfl rfl rfl rfl rfl ?_
    repeat' ((conv => whnf); first | refine Gs.id ?_ | refine Brn.T (by (try simp only [smT]); first | rfl | assumption | fail) ?_ | refine Drw.of (T := tt) (i := 3) [2] [] [(0, true), (1, true), (2, false)] (by kernel_rfl) ?_ | (refine CL.mk (Or.inr (Raw.callI [1,2] [1,2] rfl rfl rfl rfl rfl rfl rfl (hl) ?_)); rintro _ _ ⟨rfl, rfl⟩; refine Bk.mk rfl rfl ?_))
    all_goals (conv => whnf)
    all_goals exact RetO.mk ⟨[], _, _, (by exact LeS.ts (by repeat (first | exact LeCs.nil | refine LeCs.cons (by first | exact LeC.d (by first | exact LeD.u rfl | fail) | exact LeC.a (by repeat (first | exact LeL.nil | refine LeL.cons (by first | exact LeD.u rfl | fail) ?_))) ?_))), .nil, rfl, rfl⟩
  · injection h3 with e1 e2
    subst e1 e2
    generalize hz : finS l = z at h2
    obtain ⟨zm, zt, zl, zf⟩ := z
    dsimp only at h2
    subst h2
    have hl := loaded_T l h1 zm zt zl true hz
    rw [if_pos rfl, if_pos rfl] at hl
    refine callsA_of_vcO (T := tt) Tryd.func14 rfl rfl rfl rfl rfl ?_
    repeat' ((conv => whnf); first | refine Gs.id ?_ | with_reducible refine Brn.T rfl ?_ | refine Drw.of (T := tt) (i := 3) [2] [] [(0, true), (1, true), (2, false)] (by kernel_rfl) ?_ | (refine CL.mk (Or.inr (Raw.callI [1,2] [1,2] rfl rfl rfl rfl rfl rfl rfl (hl) ?_)); rintro _ _ ⟨rfl, rfl⟩; refine Bk.mk rfl rfl ?_))
    all_goals (conv => whnf)
    all_goals exact RetO.mk ⟨[], _, _, (by exact LeS.ts (by repeat (first | exact LeCs.nil | refine LeCs.cons (by first | exact LeC.d (by first | exact LeD.u rfl | fail) | exact LeC.a (by repeat (first | exact LeL.nil | refine LeL.cons (by first | exact LeD.u rfl | fail) ?_))) ?_))), .nil, rfl, rfl⟩
theorem load_ok (l : List Un) (h1 : (validateM l).1 = 0) (h2 : (finS l).full = false) : CallsA Tryd.prog 14 [.d (.u (uns l))] noOb (Iso (.t [.d (.ow 905 (finS l).log.length), .a (fd (0, 0))]) [(905, .ar 43 2 ((finS l).log.map Ev.v))]) := by
  generalize hz : finS l = z at h2 ⊢
  obtain ⟨zm, zt, zl, zf⟩ := z
  dsimp only at h2 ⊢
  subst h2
  have hl := loaded_T l h1 zm zt zl false hz
  rw [if_neg (by simp), if_neg (by simp)] at hl
  refine callsA_of_vcO (T := tt) Tryd.func14 rfl rfl rfl rfl rfl ?_
  repeat' ((conv => whnf); first | refine Gs.go (i := 1000) (Ghost.take 905 2 rfl rfl rfl rfl rfl (by simp) rfl) ?_ | refine Gs.id ?_ | with_reducible refine Brn.F rfl ?_ | refine Rw.lit rfl ?_ | (refine CL.mk (Or.inr (Raw.callI [1,2] [1,2] rfl rfl rfl rfl rfl rfl rfl (hl) ?_)); rintro _ _ ⟨rfl, rfl⟩; refine Bk.mk rfl rfl ?_))
  all_goals (conv => whnf)
  all_goals exact RetO.mk ⟨[(905, .k 905)], _, _, (by exact LeS.ts (by repeat (first | exact LeCs.nil | refine LeCs.cons (by first | exact LeC.d (by first | exact LeD.ow rfl (by simp) | fail) | exact LeC.a (by repeat (first | exact LeL.nil | refine LeL.cons (by first | exact LeD.u rfl | fail) ?_))) ?_))), (by repeat (first | exact LeO.nil | refine LeO.ar rfl rfl (by first | rfl | fail) ?_ | fail)), rfl, rfl⟩
end Go.Proofs.YtgloielnnakknaaDoor
namespace Go.Proofs.YtgloielnnakknaaDoor
open Go.RowKit
/-- The bytes of a string as rows. -/
def bwR (s : ByteArray) : List (List V) := s.data.toList.map fun b => [V.int .u8 (b.toNat : Int)]
theorem bwR_app (a b : ByteArray) : bwR (a ++ b) = bwR a ++ bwR b := by simp [bwR, ByteArray.data_append]
theorem bwR_len (s : ByteArray) : (bwR s).length = s.size := by simp [bwR]
theorem bwR_flat (s : ByteArray) : (bwR s).flatten = s.data.toList.map fun b => V.int .u8 (b.toNat : Int) := bytes_flat _
theorem bwR_den {z : Fz} (s : ByteArray) : DenVL z (bwR s).flatten (Go.Lib.strCells s) := by
  rw [bwR_flat]
  refine ⟨by simp [Go.Lib.strCells], List.all_eq_true.2 fun v hv => Go.Lib.strCells_oneCell s v hv, fun j d u e1 e2 => ?_⟩
  simp only [Go.Lib.strCells, List.getElem?_map] at e1 e2
  cases hb : s.data.toList[j]? with
  | none => rw [hb] at e1; cases e1
  | some b =>
    rw [hb] at e1 e2
    simp only [Option.map_some, Option.some.injEq] at e1 e2
    subst e1 e2
    exact .int _ _
/-- A row's cells tell its bytes. -/
theorem bwR_cells {z : Fz} {s : ByteArray} {us : List Value} (h : DenVL z (bwR s).flatten us) : us = Go.Lib.strCells s := by
  rw [bwR_flat] at h
  apply List.ext_getElem?
  intro j
  have hl := h.len
  simp only [List.length_map] at hl
  by_cases hj : j < us.length
  · have hb : s.data.toList[j]? = some s.data.toList[j] := List.getElem?_eq_getElem (by omega)
    obtain ⟨u, hu⟩ : ∃ u, us[j]? = some u := ⟨_, List.getElem?_eq_getElem hj⟩
    have := h.den j (.int .u8 ((s.data.toList[j]).toNat : Int)) u (by rw [List.getElem?_map, hb]; rfl) hu
    cases this
    rw [hu, Go.Lib.strCells, List.getElem?_map, hb]
    rfl
  · rw [List.getElem?_eq_none (by omega), List.getElem?_eq_none (by simp [Go.Lib.strCells]; simp at hl; omega)]
theorem run_app_str {P : Program} {w : World} {t u ty e : TypeId} {i : TypeInfo} (ht : P.underlying t = some (.slice e)) (hu : P.underlying u = some .string) (hi : P.info? e = some i) (hz : i.zero = some (.int .u8 0)) (hs1 : i.size = 1) (hb1 : i.bytes = 1) {A : Option Addr} {n c : Nat} {xs : List Value} (hown : w.ownsRow 0 e 1 (.slice A n c) n xs) (s : ByteArray) (hmx : n + s.size ≤ 140737488355328) :
    ∃ A' c' w', (Builtin.append_ #[t, u] ty #[.slice A n c, .string s]).run P w = .ok (.slice A' (n + s.size) c') w' ∧ w'.ownsRow 0 e 1 (.slice A' (n + s.size) c') (n + s.size) (xs ++ Go.Lib.strCells s) ∧ w.grownBy w' (Value.slice A n c).ownBlock ∧ ((Value.slice A' (n + s.size) c').ownBlock = (Value.slice A n c).ownBlock ∨ (Value.slice A' (n + s.size) c').ownBlock = some w.heap.size) := by
  obtain ⟨v', w', hrun, h2, h3, h4⟩ := Go.Lib.run_append_own_string (P := P) w 0 t u ty e i ht hu hi hz hs1 hb1 _ n xs hown s (by unfold maxLen; omega) hmx (Nat.zero_le _)
  obtain ⟨A', c', rfl, _⟩ := own_form h2
  refine ⟨A', c', w', hrun, h2, h3, ?_⟩
  have hl : xs.length = n := by simpa using hown.1
  rcases hown.2 with ⟨hv, hx⟩ | ⟨g, cap, cur, hv, _, hg, hnc, hcm, hcs, htake⟩
  · injection hv with q1 q2 q3
    subst q1 q2 q3
    by_cases hs : s.size = 0
    · have := h4.2 ⟨rfl, hs⟩
      injection this with q1 _ _
      subst q1
      exact .inl rfl
    · have hr := run_append_nil_string (P := P) (w := w) (ty := ty) t u e i _ ht hu hi hz s (by omega) (by omega) (by rw [hb1]; omega)
      simp only [Nat.zero_add] at hrun ⊢
      rw [hr] at hrun
      injection hrun with q1 _
      injection q1 with q1 _ _
      subst q1
      exact .inr rfl
  · injection hv with q1 q2 q3
    subst q1 q3
    by_cases hroom : n + s.size ≤ c
    · have hr := Go.Lib.run_append_room_string (P := P) (w := w) (ty := ty) t u e i ht hu hi hs1 g n c cur hg s hroom (by have h9 : cur.size = c := (by simpa using hcs); omega)
      rw [hr] at hrun
      injection hrun with q1 _
      injection q1 with q1 _ _
      subst q1
      exact .inl rfl
    · have holds : ∀ (j : Nat) u, xs[j]? = some u → w.cell? ((⟨g, 0, none⟩ : Addr).add j) = some u := hown.cells (g := g) rfl
      have hr := Go.Lib.run_append_grow_string (P := P) (w := w) (ty := ty) t u e i _ ht hu hi hz ⟨g, 0, none⟩ n c xs (by rw [hs1]; simpa using hl) holds s (by omega) (by omega) (by rw [hb1]; exact growslice_fits (by omega) (by omega))
      rw [hr] at hrun
      injection hrun with q1 _
      injection q1 with q1 _ _
      subst q1
      exact .inr rfl
section
variable {P : Program} {T : List (Nat × Ty)} [hT : Tys P T] {nt : Nat} {ty : TypeId} {pos : String} {af : Array Edge} {gd : Option (Nat × Bool)} {K : Kt}
/-- A string is appended to bytes. -/
theorem Raw.appendStr {x y : Operand} {t t' e d n : Nat} {s : ByteArray} {sx : SV} {rs : List (List V)} {kx : Option Nat} {i i' : Ty} {jk : Tk} {jz : List Value} {tmT : List (Nat × SV)} {ob : List (Nat × Ob)} (hx : evT tmT x = some sx) (hne : ∀ z r, sx ≠ .d (.u (.sl z r))) (hrx : rowsT ob sx = some (rs, n, kx)) (h2 : tyT ob e sx = true) (h3 : szT ob 1 sx = true) (hn : rs.length = n) (hy : evT tmT y = some (.d (.u (.str s))))
    (ht : lk t T = some i) (hk : i.k = .sl e) (ht' : lk t' T = some i') (hk' : i'.k = .sr) (he : lk e T = some ⟨jk, 1, 1, jz⟩) (hz : (P.info? e).bind (fun f => f.zero) = some (.int .u8 0)) (hmx : n + s.size ≤ 140737488355328) (hd : Nat.blt d nt = true) (h6 : newN d tmT ob = true) (k : K ((d, .d (.ow d (rs ++ bwR s).length)) :: tmT) ((d, .ar e 1 (rs ++ bwR s)) :: obx kx ob)) : Raw P nt ⟨some d, .call ⟨.builtin .append, #[x, y], #[t, t']⟩, ty, pos, af, gd⟩ tmT ob K := ⟨fun Q c tm h ρ G g => by
  obtain ⟨vx, q1, q2⟩ := g.ev hx
  obtain ⟨vy, r1, r2⟩ := g.ev hy
  cases r2 with | d r2 => cases r2 with | u r2 => cases r2 with | str _ hs =>
  obtain ⟨A, cc, us, f, rfl, b1, b2, b3, b4, b5⟩ := base_den g (e := e) (fun z r e' => hne z r e') hrx h3 h2 hn q2
  obtain ⟨F, w0, hp⟩ := h
  have ku := (hT.ok t i ht).kind
  rw [hk] at ku
  have ku : P.underlying t = some (.slice e) := ku
  have ku' := (hT.ok t' i' ht').kind
  rw [hk'] at ku'
  have ku' : P.underlying t' = some .string := ku'
  obtain ⟨fi, zv, hf1, hf2, hf3, hf4, hf5⟩ := (hT.ok e _ he).info
  rw [hf1] at hz
  have hz : fi.zero = some (.int .u8 0) := hz
  have hsl := bwR_len s
  have key : ∀ A' c', OkA A' (us ++ Go.Lib.strCells s) (n + s.size) c' 1 → Kd c K ((d, .slice A' (n + s.size) c') :: tm) ⟨F, w0, f (hbA A' e (us ++ Go.Lib.strCells s) c' 1)⟩ := fun A' c' hA' => by
    have hlen : (rs ++ bwR s).length = n + s.size := by rw [List.length_append, hn, hsl]
    have ho : ObOk (upd ρ d ⟨A', c', 1⟩) ⟨G, w0⟩ d (.ar e 1 (rs ++ bwR s)) (hbA A' e (us ++ Go.Lib.strCells s) c' 1) :=
      ⟨A', c', us ++ Go.Lib.strCells s, rfl, upd_self, by rw [hlen]; exact hA', by rw [List.flatten_append]; exact b3.app (bwR_den s), fun r hr => by
        rcases List.mem_append.1 hr with hr | hr
        · exact b4 r hr
        · obtain ⟨b, _, rfl⟩ := List.mem_map.1 hr; rfl⟩
    have g0 : Gd c ⟨tmT, obx kx ob⟩ tm ⟨F, w0, f []⟩ ρ G := ⟨g.fF, g.fw, g.gF, g.gx, g.fm, g.tm, b5⟩
    have hnew : newN d tmT (obx kx ob) = true := by
      obtain ⟨n1, n2⟩ := newN_tm (st := ⟨tmT, ob⟩) h6
      have : hasOb d (obx kx ob) = false := by
        cases kx with
        | none => exact n2
        | some k => exact hasOb_obr n2
      simp only [newN, n1, this, cond_false]
    have g1 := (g0.new hnew ho).put (d := d) (s := .d (.ow d (rs ++ bwR s).length)) (v := .slice A' (n + s.size) c') (by
      rw [hlen]
      refine .d (.ow upd_self (fun hA0 => ?_) hA'.cap)
      rcases hA'.form with ⟨_, h0, _⟩ | ⟨b, hb⟩
      · exact h0
      · have : A' = none := hA0
        rw [hb] at this; cases this)
    exact ⟨_, _, _, _, fun w hw => hw.perm (b2.perm _), g1, k⟩
  refine OpS.of_run hd fun a w ha hw => ?_
  have hown := hw.row b2 b1
  obtain ⟨A', c', w', e1, e2, e3, e4⟩ := run_app_str (P := P) (ty := ty) ku ku' hf1 hz hf2 hf3 hown s hmx
  exact ⟨_, w', _, by simp [execOp, resolve, invoke, builtin, ha.ev q1, ha.ev r1, e1], hw.rowGrow b2 b1 e3 e2 e4, key A' c' (OkA.of_own e2)⟩⟩
omit hT in
/-- A function without a body that gives back its argument. -/
theorem Raw.extId {f : FuncId} {fn : Func} {e : Array Value → Sem Value} {x : Operand} {ts : Array TypeId} {d : Nat} {s : SV} {tmT : List (Nat × SV)} {ob : List (Nat × Ob)} (hx : evT tmT x = some s) (hf : P.funcs[f]? = some fn) (hname : (fn.name == "runtime.NumGoroutine") = false) (hb : fn.body.isNone = true) (hn : Extern.findNext fn = none) (he : Extern.find fn = some e) (hr : ∀ v w, (e #[v]).run P w = .ok v w) (hd : Nat.blt d nt = true) (k : K ((d, s) :: tmT) ob) : Raw P nt ⟨some d, .call ⟨.value (.func f), #[x], ts⟩, ty, pos, af, gd⟩ tmT ob K := ⟨fun Q c tm h ρ G g => by
  obtain ⟨vx, x1, x2⟩ := g.ev hx
  refine OpS.yd (v := vx) ⟨fun a w ha hw => ?_⟩ hd (.of (g.put x2) k)
  have hargs : #[x].map a.eval = #[vx] := by simp [ha.ev x1]
  simp only [execOp, resolve, Sem.run_bind, hargs, Deferred.ofValue, Act.eval, invoke]
  simp [run_callFunc_extern hf hname hb hn he, hr]⟩
omit hT in
theorem Hp.other {F : Nat → Prop} {w0 w w' : World} {hp : List (Nat × Hb)} {b : Nat} (hw : Hp ⟨F, w0, hp⟩ w) (hs : Same (· ≠ b) w w') (h1 : ¬ F b) (h2 : ∀ x, (b, x) ∉ hp) : Hp ⟨F, w0, hp⟩ w' :=
  ⟨hw.same.trans (hs.mono fun k hk e => h1 (e ▸ hk)), hw.inF, fun b' x hx => (hw.blk b' x hx).of_block (hs.block b' fun e => h2 x (e ▸ hx)), hw.nd, hw.out⟩
theorem freeze_same {w : World} {b n : Nat} : Same (· ≠ b) w (w.freeze ⟨b, 0, none⟩ n) := by
  unfold World.freeze
  split
  · exact Same.refl _ _
  · exact ⟨rfl, rfl, rfl, by simp, fun k hk => by
      simp only [Array.getElem?_modify]
      rw [if_neg (fun e => hk e.symm)]⟩
/-- A pointer to a member of a family is turned to unsafe.Pointer. -/
theorem Raw.toUnsafeM {x : Operand} {t t2 d k m : Nat} {i : Ty} {u u' : TypeId} {rs : List (List E)} {row : List E} {tmT : List (Nat × SV)} {ob : List (Nat × Ob)} (hx : evT tmT x = some (.d (.u (.m k m 0)))) (hko : lk k ob = some (.fm u' rs)) (hr : rs[m]? = some row) (hcs : row ≠ []) (ht : lk t T = some i) (hk : i.k = .pt u) (hu2 : P.underlying t2 = some .unsafePointer) (hsz : ((P.info? u).map fun j => decide (j.size ≠ 0)) = some true) (hd : Nat.blt d nt = true) (kk : K ((d, .d (.u (.m k m 0))) :: tmT) ob) : Raw P nt ⟨some d, .convert t t2 x, ty, pos, af, gd⟩ tmT ob K := ⟨fun Q c tm h ρ G g => by
  obtain ⟨vx, x1, x2⟩ := g.ev hx
  have x3 := x2
  cases x2 with | d x2 => cases x2 with | u x2 =>
  obtain ⟨b, us, X, rfl, c1, hm, _⟩ := g.fam hko x2 hr
  have ku := (hT.ok t i ht).kind
  rw [hk] at ku
  have ku : P.underlying t = some (.pointer u) := ku
  cases hj : P.info? u with
  | none => rw [hj] at hsz; cases hsz
  | some j =>
    rw [hj] at hsz
    have hjs : j.size ≠ 0 := by simpa using hsz
    refine OpS.yd (v := .pointer (some ⟨b, 0, none⟩)) ⟨fun a w ha hw => ?_⟩ hd (.of (g.put x3) kk)
    obtain ⟨junk, q1, q2⟩ : HasB w b ⟨u', us, us.length⟩ := hw.blk b _ hm
    have q3 : us.length + junk.length = us.length := q2
    have q4 : junk = [] := List.eq_nil_of_length_eq_zero (by omega)
    have hsh : w.shape? b = some (u', us.length) := by simp only [World.shape?, q1, q4]; simp
    have hlen : 0 < us.length := by rw [c1.len]; exact List.length_pos_iff.2 hcs
    have := Go.Lib.run_to_unsafe (P := P) w (a := ⟨b, 0, none⟩) ku hu2 hj hjs hsh (by simpa using hlen)
    simp [execOp, ha.ev x1, this]⟩
/-- .. and back. -/
theorem Raw.fromUnsafeM {x : Operand} {t t2 d k m n0 : Nat} {i : Ty} {u : TypeId} {rs : List (List E)} {row : List E} {tmT : List (Nat × SV)} {ob : List (Nat × Ob)} (hx : evT tmT x = some (.d (.u (.m k m 0)))) (hko : lk k ob = some (.fm u rs)) (hr : rs[m]? = some row) (hn : row.length = n0) (ht : lk t2 T = some i) (hk : i.k = .pt u) (hu2 : P.underlying t = some .unsafePointer) (hi : (P.info? u).isSome = true) (hl : liesAt P P.depth u (n0 / P.cellsOf u) 0 u 1 = true) (hd : Nat.blt d nt = true) (kk : K ((d, .d (.u (.m k m 0))) :: tmT) ob) : Raw P nt ⟨some d, .convert t t2 x, ty, pos, af, gd⟩ tmT ob K := ⟨fun Q c tm h ρ G g => by
  obtain ⟨vx, x1, x2⟩ := g.ev hx
  have x3 := x2
  cases x2 with | d x2 => cases x2 with | u x2 =>
  obtain ⟨b, us, X, rfl, c1, hm, _⟩ := g.fam hko x2 hr
  have ku := (hT.ok t2 i ht).kind
  rw [hk] at ku
  have ku : P.underlying t2 = some (.pointer u) := ku
  subst hn
  cases hj : P.info? u with
  | none => rw [hj] at hi; cases hi
  | some j =>
    refine OpS.yd (v := .pointer (some ⟨b, 0, none⟩)) ⟨fun a w ha hw => ?_⟩ hd (.of (g.put x3) kk)
    obtain ⟨junk, q1, q2⟩ : HasB w b ⟨u, us, us.length⟩ := hw.blk b _ hm
    have q3 : us.length + junk.length = us.length := q2
    have q4 : junk = [] := List.eq_nil_of_length_eq_zero (by omega)
    have hsh : w.shape? b = some (u, row.length) := by rw [← c1.len]; simp only [World.shape?, q1, q4]; simp
    have := Go.Lib.run_from_unsafe (P := P) w (a := ⟨b, 0, none⟩) hu2 ku hj hsh hl
    simp [execOp, ha.ev x1, this]⟩
omit hT in
/-- unsafe.SliceData of an array that a member owns. -/
theorem Raw.sliceDataR {x : Operand} {ts : Array TypeId} {d k m o n sz : Nat} {tmT : List (Nat × SV)} {ob : List (Nat × Ob)} (hx : evT tmT x = some (.d (D.r k m o sz n))) (hne : n ≠ 0) (hd : Nat.blt d nt = true) (kk : K ((d, .d (D.re k m o 0 0)) :: tmT) ob) : Raw P nt ⟨some d, .call ⟨.builtin .unsafeSliceData, #[x], ts⟩, ty, pos, af, gd⟩ tmT ob K := ⟨fun Q c tm h ρ G g => by
  obtain ⟨vx, x1, x2⟩ := g.ev hx
  cases x2 with | d x2 =>
  cases x2 with | @r _ _ _ _ _ cc A h0 hA hc hm =>
  rcases hA with ⟨_, h1⟩ | ⟨b, rfl⟩
  · exact absurd h1 hne
  · refine OpS.yd (v := .pointer (some ⟨b, 0, none⟩)) ⟨fun a w ha hw => ?_⟩ hd (.of (g.put (.d ?_)) kk)
    · have := Go.Lib.run_unsafeSliceData_row (P := P) w ts ty ⟨b, 0, none⟩ n cc (by omega)
      simp [execOp, resolve, invoke, builtin, ha.ev x1, this]
    · have := Den.re (z := ⟨G, h.w0⟩) (j := 0) (f := 0) h0
      simpa using this⟩
/-- unsafe.String of bytes that a member owns: they are written no more. -/
theorem Raw.unsafeStrR {x y : Operand} {pt it d k m o u e : Nat} {i : Ty} {rs : List (List E)} {row : List E} {s : ByteArray} {n : Int} {tmT : List (Nat × SV)} {ob : List (Nat × Ob)} (hx : evT tmT x = some (.d (D.re k m o 0 0))) (hy : evT tmT y = some (.d (.u (.int .i64 n)))) (hko : lk k ob = some (.fm u rs)) (h1 : famOne k ob = true) (hr : rs[m]? = some row) (ho : row[o]? = some (.os e 1 (bwR s))) (hn : n = (s.size : Int)) (h0 : s.size ≠ 0) (ht : lk pt T = some i) (hk : i.k = .pt e) (hc : P.cellsOf e = 1) (hd : Nat.blt d nt = true)
    (kk : K ((d, .d (.u (.str s))) :: dropT k tmT) (dropO k (obu k (.fm u (rs.set m (row.set o .hl))) ob))) : Raw P nt ⟨some d, .call ⟨.builtin .unsafeString, #[x, y], #[pt, it]⟩, ty, pos, af, gd⟩ tmT ob K := ⟨fun Q c tm h ρ G g => by
  obtain ⟨vx, x1, x2⟩ := g.ev hx
  have y1 := evT_int g hy
  cases x2 with | d x2 =>
  obtain ⟨F, w0, hp⟩ := h
  cases x2 with | @re _ _ _ _ _ b1 c1 sz1 x0 =>
  have hmem : ∃ b, (G.fam k)[m]? = some b := by
    obtain ⟨Y, f, ⟨a1, _⟩, _⟩ := g.ob.at_ hko
    obtain ⟨b, _, _, _, a2, _⟩ := a1.split hr
    exact ⟨b, a2⟩
  obtain ⟨b0, hb0⟩ := hmem
  obtain ⟨b, us, Xe, rest, _, hlt, hone, ⟨u0, hu0, A', cc', us1, rfl, rfl, t3, t4, t5, t6⟩, p1, _, p3⟩ := g.famPut (e' := .hl) (v := .slice (some ⟨b1, 0, none⟩) (bwR s).length c1) (p := .pointer (some ⟨b0, o, none⟩)) hko h1 (.m hb0) hr ho
  rw [x0] at t3
  injection t3 with t3
  injection t3 with e1 e2 e3
  subst e1 e2 e3
  obtain ⟨hq, z1, z2⟩ := p3 (some ⟨some ⟨b1, 0, none⟩, c1, 1⟩) [] ⟨rfl, rfl⟩
  have hset : us.set o (.slice (some ⟨b1, 0, none⟩) (bwR s).length c1) = us := by
    apply List.ext_getElem?
    intro jj
    rw [List.getElem?_set]
    split
    · rename_i ej; subst ej
      first | (rw [if_pos hlt, hu0]; done) | exact hu0.symm | (simp only [hlt, if_true]; exact hu0.symm)
    · rfl
  rw [hset] at z1
  have hus := bwR_cells t5
  have ku := (hT.ok pt i ht).kind
  rw [hk] at ku
  have ku : P.underlying pt = some (.pointer e) := ku
  have hsl := bwR_len s
  have hcap := t4.cap
  have hmax := t4.max
  rw [hsl] at hcap
  have pp : hp.Perm ((b1, ⟨e, us1, ((c1 * 1 : Nat) : Tot)⟩) :: hq) := by
    rw [hbA_some] at p1
    exact p1.trans ((List.Perm.swap _ _ _).trans (z1.symm.cons _))
  refine OpS.of_run hd fun a w ha hw => ?_
  have hw1 := hw.perm pp
  have hnd := hw1.nd
  rw [List.map_cons, List.nodup_cons] at hnd
  have hw2 : Hp ⟨F, w0, hq⟩ w := hw1.sub (List.sublist_cons_self _ _)
  obtain ⟨junk, q1, q2⟩ : HasB w b1 ⟨e, us1, ((c1 * 1 : Nat) : Tot)⟩ := hw1.blk b1 _ List.mem_cons_self
  have q3 : us1.length + junk.length = c1 * 1 := q2
  have hsh : w.shape? b1 = some (e, c1) := by simp only [World.shape?, q1]; simp; omega
  have hrun := Go.Lib.run_unsafeString_row (P := P) w pt it ty e ku hc b1 c1 hsh s.data.toList (by intro e; apply h0; have := congrArg List.length e; simpa using this) (by simpa using hcap) (by unfold maxLen at hmax; simp; omega) (fun j v hv => by
    have hu : us1[j]? = some (.int .u8 v.toNat) := by rw [hus, Go.Lib.strCells, List.getElem?_map, hv]; rfl
    have := (show HasB w b1 ⟨e, us1, ((c1 * 1 : Nat) : Tot)⟩ from ⟨junk, q1, q2⟩).cell (x := ⟨e, us1, _⟩) hu
    unfold Addr.add
    split
    · rename_i h0; subst h0; exact this
    · simpa using this)
  have hb : (⟨s.data.toList.toArray⟩ : ByteArray) = s := by simp
  rw [hb] at hrun
  have hls : (s.data.toList.length : Int) = n := by rw [hn]; simp
  rw [hls] at hrun
  have e0 : (⟨b1, 0 * 1 + 0, none⟩ : Addr) = ⟨b1, 0, none⟩ := by simp
  rw [e0] at x1
  refine ⟨.string s, w.freeze ⟨b1, 0, none⟩ s.data.toList.length, _, by simp [execOp, resolve, invoke, builtin, ha.ev x1, ha.ev y1, hrun], hw2.other freeze_same (hw1.out b1 _ List.mem_cons_self) (fun x hx => hnd.1 (by have h9 := List.mem_map_of_mem (f := Prod.fst) hx; exact h9)), .of (z2.put (.d (.u (.str s (by omega))))) kk⟩⟩
end
end Go.Proofs.YtgloielnnakknaaDoor
namespace Go.Proofs.YtgloielnnakknaaDoor
open Go.RowKit
abbrev buP (j : Nat) : SV := .d (.u (.m 77 j 0))
abbrev buRow (p : V) (s : ByteArray) : List E := [.v p, .os 5 1 (bwR s)]
abbrev buOb (R : List (List E)) : List (Nat × Ob) := [(77, .fm 75 R)]
theorem set_at {α : Type} {l : List α} {j : Nat} {a b : α} (h : l[j]? = some a) : (l.set j b)[j]? = some b := by
  rw [List.getElem?_set]; simp [(List.getElem?_eq_some_iff.1 h).1]
theorem copyNew_T (R : List (List E)) (j : Nat) (s : ByteArray) (hR : R[j]? = some (buRow .pn s)) : CallsA Tryd.prog 44 [buP j] (buOb R) (Iso (.t []) (buOb (R.set j (buRow (.m 77 j 0) s)))) := by
  have hf := Tryd.func55
  refine callsA_of_vcO (T := tt) Tryd.func44 rfl rfl rfl rfl rfl ?_
  repeat' ((conv => whnf); first | refine Raw.toUnsafeM (T := tt) rfl rfl hR (by simp) rfl rfl (by kernel_rfl) (by kernel_rfl) rfl ?_ | refine Raw.fromUnsafeM (T := tt) (n0 := 2) rfl rfl hR rfl rfl rfl (by kernel_rfl) (by kernel_rfl) (by kernel_rfl) rfl ?_ | (refine CL.mk (Or.inr (Raw.extId (e := Extern.AbiNoEscape.same) rfl hf (by kernel_rfl) (by kernel_rfl) (by kernel_rfl) (by kernel_rfl) (fun _ _ => rfl) rfl ?_))) | refine Rw.get hR ?_ | refine Gs.id ?_ | with_reducible refine Brn.T rfl ?_ | fail)
  all_goals (conv => whnf)
  all_goals exact RetO.mk ⟨[], _, _, (by exact LeS.ts (by repeat (first | exact LeCs.nil | fail))), LeO.fm rfl rfl .nil, rfl, rfl⟩
theorem copyOld_T (R : List (List E)) (j : Nat) (s : ByteArray) (hR : R[j]? = some (buRow (.m 77 j 0) s)) : CallsA Tryd.prog 44 [buP j] (buOb R) (Iso (.t []) (buOb R)) := by
  have hj := (List.getElem?_eq_some_iff.1 hR).1
  refine callsA_of_vcO (T := tt) Tryd.func44 rfl rfl rfl rfl rfl ?_
  repeat' ((conv => whnf); first | refine Rw.get hR ?_ | refine Gs.id ?_ | with_reducible refine Brn.F rfl ?_ | refine Brn.F (by (try simp only [smT]); first | rfl | fail) ?_ | refine Pm.mk (by first | assumption | fail) (by first | assumption | fail) ?_ | fail)
  all_goals (conv => whnf)
  all_goals first | (exfalso; simp_all [notT]; done) | exact RetO.mk ⟨[], _, _, (by exact LeS.ts (by repeat (first | exact LeCs.nil | fail))), LeO.fm rfl rfl .nil, rfl, rfl⟩
abbrev wrR (s : ByteArray) : SV := .t [.d (.u (.int .i64 s.size)), .d (.u (.v .nilIface))]
theorem wrOld_T (R : List (List E)) (j : Nat) (a s : ByteArray) (ha : a.size ≤ 100000000) (hs : s.size ≤ 100000000) (hR : R[j]? = some (buRow (.m 77 j 0) a)) : CallsA Tryd.prog 32 [buP j, dsr s] (buOb R) (Iso (wrR s) (buOb (R.set j (buRow (.m 77 j 0) (a ++ s))))) := by
  have h1 := copyOld_T R j a hR
  have h2 := bwR_len a
  have hj := (List.getElem?_eq_some_iff.1 hR).1
  refine callsA_of_vcO (T := tt) Tryd.func32 rfl rfl rfl rfl rfl ?_
  repeat' ((conv => whnf); first | refine Raw.take 900 12 rfl rfl rfl hR rfl rfl rfl (Raw.appendStr (T := tt) rfl (by intro z r e; cases e) rfl rfl rfl rfl rfl rfl rfl rfl rfl rfl (by kernel_rfl) (by omega) rfl rfl ?_) | refine Rw.get hR ?_ | refine Rw.get (set_at hR) ?_ | refine Gs.id ?_ | (refine Bnd.mk (fun hm => ?_); (try simp only [smT] at hm)) | refine Len.mk (by first | rfl | fail) ?_ | (refine CL.mk (Or.inr (Raw.callI [77] [77] rfl rfl rfl rfl rfl rfl rfl (h1) ?_)); rintro _ _ ⟨rfl, rfl⟩; refine Bk.mk rfl rfl ?_))
  all_goals (conv => whnf)
  all_goals exact RetO.mk ⟨[], _, _, (by exact LeS.ts (by repeat (first | exact LeCs.nil | refine LeCs.cons (by first | exact LeC.d (by first | exact LeD.u rfl | fail) | fail) ?_))), LeO.fm rfl (by simp [buRow, bwR_app]) .nil, rfl, rfl⟩
theorem wrNew_T (R : List (List E)) (j : Nat) (a s : ByteArray) (ha : a.size ≤ 100000000) (hs : s.size ≤ 100000000) (hR : R[j]? = some (buRow .pn a)) : CallsA Tryd.prog 32 [buP j, dsr s] (buOb R) (Iso (wrR s) (buOb (R.set j (buRow (.m 77 j 0) (a ++ s))))) := by
  have h1 := copyNew_T R j a hR
  have h2 := bwR_len a
  have hj := (List.getElem?_eq_some_iff.1 hR).1
  have hR2 := set_at (b := buRow (.m 77 j 0) a) hR
  refine callsA_of_vcO (T := tt) Tryd.func32 rfl rfl rfl rfl rfl ?_
  repeat' ((conv => whnf); first | refine Raw.take 900 12 rfl rfl rfl hR2 rfl rfl rfl (Raw.appendStr (T := tt) rfl (by intro z r e; cases e) rfl rfl rfl rfl rfl rfl rfl rfl rfl rfl (by kernel_rfl) (by omega) rfl rfl ?_) | refine Rw.get hR2 ?_ | refine Rw.get (set_at hR2) ?_ | refine Gs.id ?_ | (refine Bnd.mk (fun hm => ?_); (try simp only [smT] at hm)) | refine Len.mk (by first | rfl | fail) ?_ | (refine CL.mk (Or.inr (Raw.callI [77] [77] rfl rfl rfl rfl rfl rfl rfl (h1) ?_)); rintro _ _ ⟨rfl, rfl⟩; refine Bk.mk rfl rfl ?_))
  all_goals (conv => whnf)
  all_goals exact RetO.mk ⟨[], _, _, (by exact LeS.ts (by repeat (first | exact LeCs.nil | refine LeCs.cons (by first | exact LeC.d (by first | exact LeD.u rfl | fail) | fail) ?_))), LeO.fm rfl (by simp [buRow, bwR_app]) .nil, rfl, rfl⟩
theorem len_T (R : List (List E)) (j : Nat) (p : V) (s : ByteArray) (hR : R[j]? = some (buRow p s)) : CallsA Tryd.prog 33 [buP j] (buOb R) (Iso (di s.size) (buOb R)) := by
  have h2 := bwR_len s
  refine callsA_of_vcO (T := tt) Tryd.func33 rfl rfl rfl rfl rfl ?_
  repeat' ((conv => whnf); first | refine Rw.get hR ?_ | refine Gs.id ?_ | (refine Bnd.mk (fun hm => ?_); (try simp only [smT] at hm)) | fail)
  all_goals (conv => whnf)
  all_goals exact RetO.mk ⟨[], _, _, .d (LeD.u (by rw [h2])), LeO.fm rfl rfl .nil, rfl, rfl⟩
theorem str_T (R : List (List E)) (j : Nat) (p : V) (s : ByteArray) (h0 : s.size ≠ 0) (hR : R[j]? = some (buRow p s)) : CallsA Tryd.prog 34 [buP j] (buOb R) (Iso (dsr s) (buOb (R.set j [.v p, .hl]))) := by
  have h2 := bwR_len s
  have h3 : (bwR s).length ≠ 0 := by omega
  refine callsA_of_vcO (T := tt) Tryd.func34 rfl rfl rfl rfl rfl ?_
  repeat' ((conv => whnf); first | refine Raw.sliceDataR rfl h3 rfl ?_ | refine Raw.unsafeStrR (T := tt) rfl rfl rfl rfl hR rfl (by rw [h2]) h0 rfl rfl (by kernel_rfl) rfl ?_ | refine Rw.get hR ?_ | refine Gs.id ?_ | with_reducible refine And.intro ?_ ?_ | (refine Bnd.mk (fun hm => ?_); (try simp only [smT] at hm)) | refine Drw.ofP (T := tt) (i := 1) [3, 4, 8, 9, 10, 11] [0, 1, 2, 5, 6, 7] [0, 1, 2, 5, 6, 7] (OT.alt 3 (OT.alt 4 (OT.alt 8 (OT.alt 9 (OT.alt 10 (OT.alt 11 OT.nil OT.nil) OT.nil) OT.nil) OT.nil) (OT.alt 8 (OT.alt 4 (OT.alt 9 (OT.alt 10 (OT.alt 11 OT.nil OT.nil) OT.nil) OT.nil) (OT.alt 9 (OT.alt 4 (OT.alt 10 (OT.alt 11 OT.nil OT.nil) OT.nil) OT.nil) OT.nil)) OT.nil)) (OT.alt 8 (OT.alt 3 (OT.alt 4 (OT.alt 9 (OT.alt 10 (OT.alt 11 OT.nil OT.nil) OT.nil) OT.nil) (OT.alt 9 (OT.alt 4 (OT.alt 10 (OT.alt 11 OT.nil OT.nil) OT.nil) OT.nil) OT.nil)) (OT.alt 9 (OT.alt 3 (OT.alt 4 (OT.alt 10 (OT.alt 11 OT.nil OT.nil) OT.nil) OT.nil) OT.nil) OT.nil)) OT.nil)) (by kernel_rfl) ?_)
  all_goals (conv => whnf)
  all_goals exact RetO.mk ⟨[], _, _, (by first | exact LeS.d (by first | exact LeD.u rfl | fail) | fail), LeO.fm rfl rfl .nil, rfl, rfl⟩
end Go.Proofs.YtgloielnnakknaaDoor
namespace Go.Proofs.YtgloielnnakknaaDoor
open Go.RowKit
abbrev spB : ByteArray := ⟨#[32]⟩
abbrev eqsB : ByteArray := ⟨#[61]⟩
abbrev colB : ByteArray := ⟨#[58]⟩
def nameM (mods : List Md) (j : Nat) : ByteArray := (nmOf mods j).getD emp
def attB (mods : List Md) (b : ByteArray) (a : At) : ByteArray := match a.mod with
  | none => b ++ (spB ++ a.name)
  | some j => (b ++ (spB ++ a.name)) ++ (eqsB ++ nameM mods j)
def attsB (mods : List Md) : ByteArray → List At → ByteArray
  | b, [] => b
  | b, a :: r => attsB mods (attB mods b a) r
def atsM (mods : List Md) (j : Nat) : List At := match mods[j]? with
  | some m => m.ats
  | none => []
def mdB (mods : List Md) (j : Nat) : ByteArray := attsB mods (emp ++ (nameM mods j ++ colB)) (atsM mods j)
def namesW (mods : List Md) : List ByteArray → List Nat → Option (List ByteArray)
  | out, [] => some out
  | out, j :: r => if 4000 < ((mdB mods j).size : Int) then none else namesW mods (out ++ [mdB mods j]) r
theorem cutM_size (s : ByteArray) : (cutM s).size ≤ s.size := by
  unfold cutM
  split
  · simp; omega
  · exact Nat.le_refl _
theorem lastP_size (s : ByteArray) : (lastP s).size ≤ s.size := by
  unfold lastP
  split
  · simp
  · exact Nat.le_refl _
theorem namesA_size {us : List Un} (hU : Uok us) {n : ByteArray} (h : n ∈ namesA us) : n.size ≤ 60 := by
  obtain ⟨u, hu, h⟩ := List.mem_flatMap.1 h
  rcases List.mem_cons.1 h with rfl | h
  · exact Nat.le_trans (lastP_size _) (hU.name u hu)
  · obtain ⟨t, ht, h⟩ := List.mem_flatMap.1 h
    obtain ⟨h1, h2⟩ := hU.step u hu t ht
    simp at h
    rcases h with rfl | rfl | rfl
    · exact h1
    · exact h2
    · exact Nat.le_trans (cutM_size _) h1
theorem nameM_size {us : List Un} (hU : Uok us) {s : Ld} (hI : Inv us s) (j : Nat) : (nameM s.mods j).size ≤ 60 := by
  unfold nameM nmOf
  cases h : s.mods[j]? with
  | none => simp; decide
  | some m => exact hasU_size hU (hI.nm m (List.mem_of_getElem? h))
theorem attsB_next {mods : List Md} {b : ByteArray} {l : List At} {q : Nat} {a : At} (h : l[q]? = some a) : attsB mods b (l.drop q) = attsB mods (attB mods b a) (l.drop (q + 1)) := by
  rw [List.drop_eq_getElem_cons (lt_get h), attsB, (List.getElem?_eq_some_iff.1 h).2]
theorem namesW_next {mods : List Md} {out : List ByteArray} {l : List Nat} {q j : Nat} (h : l[q]? = some j) : namesW mods out (l.drop q) = if 4000 < ((mdB mods j).size : Int) then none else namesW mods (out ++ [mdB mods j]) (l.drop (q + 1)) := by
  rw [List.drop_eq_getElem_cons (lt_get h), namesW, (List.getElem?_eq_some_iff.1 h).2]
abbrev nmOb : List (Nat × Ob) := [(1, .fm 0 []), (2, .fm 82 []), (77, .fm 75 [])]
end Go.Proofs.YtgloielnnakknaaDoor
namespace Go.Proofs.YtgloielnnakknaaDoor
open Go.RowKit
theorem fin_inv {l : List Un} (h : (validateM l).1 = 0) : Inv l (finS l) := (runM_P l 5001 initS 0 (init_inv h).1 (by simp [initS])).inv
theorem attB_size {mods : List Md} {b : ByteArray} {a : At} (ha : a.name.size ≤ 60) (hn : ∀ j, (nameM mods j).size ≤ 60) : (attB mods b a).size ≤ b.size + 122 ∧ b.size ≤ (attB mods b a).size := by
  have e1 : spB.size = 1 := rfl
  have e2 : eqsB.size = 1 := rfl
  unfold attB
  cases a.mod with
  | none => simp only [ByteArray.size_append, e1]; omega
  | some j => have := hn j; simp only [ByteArray.size_append, e1, e2]; omega
abbrev bu0 : List E := mkE [(1, 5, 1)] 0 [V.pn, V.nl]
set_option maxHeartbeats 4000000 in
theorem names_ok (l : List Un) (h1 : (validateM l).1 = 0) (h2 : (finS l).full = false) (res : List ByteArray) (hr : namesW (finS l).mods [] (finS l).table = some res) : CallsA Tryd.prog 18 [.d (.u (uns l))] nmOb (Iso (.t [.d (.ow 906 res.length), .a (fd (0, 0))]) [(906, .ar 9 1 (strs res))]) := by
  have hI := fin_inv h1
  obtain ⟨hU, _⟩ := valid_Uok h1
  generalize hz : finS l = z at h2 hr hI
  obtain ⟨zm, zt, zl, zf⟩ := z
  dsimp only at h2 hr
  subst h2
  have hl := loaded_T l h1 zm zt zl false hz
  rw [if_neg (by simp), if_neg (by simp)] at hl
  have htl := hI.tlen hU
  have htab := hI.tab
  have hnm := fun j => nameM_size hU hI j
  dsimp only at htl htab hnm
  have e1 : spB.size = 1 := rfl
  have e2 : eqsB.size = 1 := rfl
  have e3 : colB.size = 1 := rfl
  have e4 : emp.size = 0 := rfl
  refine callsA_of_vcO (T := tt) Tryd.func18 rfl rfl rfl rfl rfl ?_
  repeat' ((conv => whnf); first | refine Gs.go (i := 5) (Ghost.nlOw 6 906 9 1 rfl rfl) ?_ | refine Gs.id ?_ | with_reducible refine Brn.F rfl ?_ | (refine Bnd.mk (fun hm => ?_); (try simp only [smT] at hm)) | refine Rw.lit rfl ?_ | (refine CL.mk (Or.inr (Raw.callI [1,2] [1,2] rfl rfl rfl rfl rfl rfl rfl (hl) ?_)); rintro _ _ ⟨rfl, rfl⟩; refine Bk.mk rfl rfl ?_))
  all_goals (conv => whnf)
  refine ⟨⟨Nat × List ByteArray × List (List E), fun x => x.1 ≤ zt.length ∧ namesW zm x.2.1 (zt.drop x.1) = some res ∧ x.2.1.length ≤ x.1, fun x => zt.length - x.1, fun x => ⟨[(3, .d (.p 3 0)), (6, .d (.ow 906 x.2.1.length)), (24, .d (.r 1 0 1 1 zt.length)), (25, di zt.length), (26, di x.1)], (3, .bx 24 [.u (.int .i64 0), .u (.int .i64 0)]) :: (906, .ar 9 1 (strs x.2.1)) :: (77, .fm 75 x.2.2) :: ldOb l zm zt zl false⟩, (0, [], []), ⟨Nat.zero_le _, hr, Nat.le_refl _⟩, ⟨[(3, .k 3), (906, .k 906), (77, .k 77), (1, .k 1), (2, .k 2)], ⟨by (try dsimp only); (repeat (refine LeT.cons rfl (by first | exact LeS.d (by first | exact LeD.u rfl | exact LeD.p rfl | exact LeD.ow rfl rfl | exact LeD.u (by simp; done) | exact LeD.r (by simp; done) | fail) | fail) ?_)); exact LeT.nil, by (try dsimp only); repeat (first | exact LeO.nil | refine LeO.bx rfl rfl (by repeat (first | exact LeL.nil | refine LeL.cons (by first | exact LeD.u rfl | fail) ?_)) ?_ | refine LeO.ar rfl rfl (by first | rfl | fail) ?_ | refine LeO.fm rfl (by first | rfl | fail) ?_ | fail)⟩⟩, fun x hx => ?_⟩⟩
  obtain ⟨i, out, R⟩ := x
  obtain ⟨hi, he, hout⟩ := hx
  dsimp only at hi he hout ⊢
  by_cases h9 : i < zt.length
  · obtain ⟨j, hj⟩ : ∃ j, zt[i]? = some j := ⟨_, List.getElem?_eq_getElem h9⟩
    rw [namesW_next hj] at he
    have hjl := htab j (List.mem_of_getElem? hj)
    obtain ⟨⟨jn, jr, ja⟩, hjm⟩ : ∃ m, zm[j]? = some m := ⟨_, List.getElem?_eq_getElem hjl⟩
    have hal := hI.alen hU (List.mem_of_getElem? hjm)
    have hsub := hI.sub _ (List.mem_of_getElem? hjm)
    have hptr := hI.ptr _ (List.mem_of_getElem? hjm)
    have hjz := hasU_size hU (hI.nm _ (List.mem_of_getElem? hjm))
    dsimp only at hal hsub hptr hjz
    have hnj : nameM zm j = jn := by simp [nameM, nmOf, hjm]
    have haj : atsM zm j = ja := by simp [atsM, hjm]
    have hR0 : (R ++ [bu0])[R.length]? = some (buRow .pn emp) := by simp; rfl
    have hw0 := wrNew_T (R ++ [bu0]) R.length emp (jn ++ colB) (by rw [e4]; omega) (by simp only [ByteArray.size_append, e3]; omega) hR0
    have hR1 := set_at (b := buRow (.m 77 R.length 0) (emp ++ (jn ++ colB))) hR0
    generalize hM : mdB zm j = M at he
    rw [mdB, hnj, haj] at hM
    repeat' ((conv => whnf); first | refine Rw_get hj ?_ | refine Rw_md hjm ?_ | refine Cat.mk (by have q1 : (⟨#[58]⟩ : ByteArray).size = 1 := rfl; have q2 : (⟨#[32]⟩ : ByteArray).size = 1 := rfl; have q3 : (⟨#[61]⟩ : ByteArray).size = 1 := rfl; unfold maxLen; (try dsimp only); (try simp only [q1, q2, q3]); omega) ?_ | refine Gs.id ?_ | refine Brn.T (by (try simp only [smT]); first | rfl | omega | fail) ?_ | (refine Bnd.mk (fun hm => ?_); (try simp only [smT] at hm)) | refine Ixo.mk ⟨_, rfl, (by (try simp only [smT]); omega), ?_⟩ | refine Rw.lit rfl ?_ | (refine CL.mk (Or.inr (Raw.callI [77] [77] rfl rfl rfl rfl rfl rfl rfl (hw0) ?_)); rintro _ _ ⟨rfl, rfl⟩; refine Bk.mk rfl rfl ?_) | refine Spc.mk ⟨[(1,(5,1))], ?_⟩)
    all_goals (conv => whnf)
    refine ⟨⟨Nat × ByteArray × List (List E), fun y => y.1 ≤ ja.length ∧ attsB zm y.2.1 (ja.drop y.1) = M ∧ y.2.1.size ≤ 61 + 122 * y.1 ∧ 1 ≤ y.2.1.size ∧ y.2.2[R.length]? = some (buRow (.m 77 R.length 0) y.2.1), fun y => ja.length - y.1, fun y => ⟨[(3, .d (.p 3 0)), (6, .d (.ow 906 out.length)), (9, buP R.length), (24, .d (.r 1 0 1 1 zt.length)), (25, di zt.length), (26, di i), (39, .d (.r 2 j 2 2 ja.length)), (40, di ja.length), (41, di y.1)], (3, .bx 24 [.u (.int .i64 0), .u (.int .i64 0)]) :: (906, .ar 9 1 (strs out)) :: (77, .fm 75 y.2.2) :: ldOb l zm zt zl false⟩, (0, emp ++ (jn ++ colB), (R ++ [bu0]).set R.length (buRow (.m 77 R.length 0) (emp ++ (jn ++ colB)))), ⟨Nat.zero_le _, hM, by simp only [ByteArray.size_append, e3, e4]; omega, by simp only [ByteArray.size_append, e3]; omega, hR1⟩, ⟨[(3, .k 3), (906, .k 906), (77, .k 77), (1, .k 1), (2, .k 2)], ⟨by (try dsimp only); (repeat (refine LeT.cons rfl (by first | exact LeS.d (by first | exact LeD.u rfl | exact LeD.p rfl | exact LeD.ow rfl rfl | exact LeD.u (by simp; done) | exact LeD.r rfl | exact LeD.r (by simp; done) | fail) | fail) ?_)); exact LeT.nil, by (try dsimp only); repeat (first | exact LeO.nil | refine LeO.bx rfl rfl (by repeat (first | exact LeL.nil | refine LeL.cons (by first | exact LeD.u rfl | fail) ?_)) ?_ | refine LeO.ar rfl rfl (by first | rfl | fail) ?_ | refine LeO.fm rfl (by first | rfl | fail) ?_ | fail)⟩⟩, fun y hy => ?_⟩⟩
    obtain ⟨q, b, R1⟩ := y
    obtain ⟨hq, hb1, hb2, hb3, hRR⟩ := hy
    dsimp only at hq hb1 hb2 hb3 hRR ⊢
    by_cases h8 : q < ja.length
    · obtain ⟨⟨an, am⟩, hqa⟩ : ∃ a, ja[q]? = some a := ⟨_, List.getElem?_eq_getElem h8⟩
      rw [attsB_next hqa] at hb1
      have hanz := namesA_size hU (hsub _ (List.mem_of_getElem? hqa))
      have hpa := hptr _ (List.mem_of_getElem? hqa)
      have hsz := attB_size (b := b) (a := ⟨an, am⟩) hanz hnm
      dsimp only at hanz hpa
      have hw1 := wrOld_T R1 R.length b (spB ++ an) (by omega) (by simp only [ByteArray.size_append, e1]; omega) hRR
      have hRR2 := set_at (b := buRow (.m 77 R.length 0) (b ++ (spB ++ an))) hRR
      rcases am with _ | t
      · repeat' ((conv => whnf); first | refine Rw_md hjm ?_ | refine Rw_at hqa ?_ | refine Cat.mk (by have q1 : (⟨#[58]⟩ : ByteArray).size = 1 := rfl; have q2 : (⟨#[32]⟩ : ByteArray).size = 1 := rfl; have q3 : (⟨#[61]⟩ : ByteArray).size = 1 := rfl; unfold maxLen; (try dsimp only); (try simp only [q1, q2, q3]); omega) ?_ | refine Gs.id ?_ | with_reducible refine Brn.F rfl ?_ | refine Brn.T (by (try simp only [smT]); first | rfl | omega | fail) ?_ | refine Rng.mk (by (try simp only [smT]); omega) ?_ | refine Ixo.mk ⟨_, rfl, (by (try simp only [smT]); omega), ?_⟩ | (refine CL.mk (Or.inr (Raw.callI [77] [77] rfl rfl rfl rfl rfl rfl rfl (hw1) ?_)); rintro _ _ ⟨rfl, rfl⟩; refine Bk.mk rfl rfl ?_))
        all_goals (conv => whnf)
        all_goals exact ⟨(q + 1, b ++ (spB ++ an), R1.set R.length (buRow (.m 77 R.length 0) (b ++ (spB ++ an)))), ⟨by dsimp only; omega, hb1, by simp only [attB] at hsz; dsimp only; omega, by simp only [attB] at hsz; dsimp only; omega, hRR2⟩, by dsimp only; omega, [(3, .k 3), (906, .k 906), (77, .k 77), (1, .k 1), (2, .k 2)], ⟨by (try dsimp only); (repeat (refine LeT.cons rfl (by first | exact LeS.d (by first | exact LeD.u rfl | exact LeD.p rfl | exact LeD.ow rfl rfl | exact LeD.r rfl | fail) | fail) ?_)); exact LeT.nil, by (try dsimp only); repeat (first | exact LeO.nil | refine LeO.bx rfl rfl (by repeat (first | exact LeL.nil | refine LeL.cons (by first | exact LeD.u rfl | fail) ?_)) ?_ | refine LeO.ar rfl rfl (by first | rfl | fail) ?_ | refine LeO.fm rfl (by first | rfl | fail) ?_ | fail)⟩⟩
      · have htz := hpa t rfl
        obtain ⟨⟨tn, tr, ta⟩, htm⟩ : ∃ m, zm[t]? = some m := ⟨_, List.getElem?_eq_getElem htz⟩
        have hnt : nameM zm t = tn := by simp [nameM, nmOf, htm]
        have htns := hnm t
        rw [hnt] at htns
        simp only [attB, hnt] at hb1 hsz
        have hw2 := wrOld_T _ R.length (b ++ (spB ++ an)) (eqsB ++ tn) (by simp only [ByteArray.size_append, e1]; omega) (by simp only [ByteArray.size_append, e2]; omega) hRR2
        have hRR3 := set_at (b := buRow (.m 77 R.length 0) (b ++ (spB ++ an) ++ (eqsB ++ tn))) hRR2
        repeat' ((conv => whnf); first | refine Rw_md hjm ?_ | refine Rw_md htm ?_ | refine Rw_at hqa ?_ | refine Cat.mk (by have q1 : (⟨#[58]⟩ : ByteArray).size = 1 := rfl; have q2 : (⟨#[32]⟩ : ByteArray).size = 1 := rfl; have q3 : (⟨#[61]⟩ : ByteArray).size = 1 := rfl; unfold maxLen; (try dsimp only); (try simp only [q1, q2, q3]); omega) ?_ | refine Gs.id ?_ | with_reducible refine Brn.T rfl ?_ | refine Brn.T (by (try simp only [smT]); first | rfl | omega | fail) ?_ | refine Rng.mk (by (try simp only [smT]); omega) ?_ | refine Ixo.mk ⟨_, rfl, (by (try simp only [smT]); omega), ?_⟩ | (refine CL.mk (Or.inr (Raw.callI [77] [77] rfl rfl rfl rfl rfl rfl rfl (hw1) ?_)); rintro _ _ ⟨rfl, rfl⟩; refine Bk.mk rfl rfl ?_) | (refine CL.mk (Or.inr (Raw.callI [77] [77] rfl rfl rfl rfl rfl rfl rfl (hw2) ?_)); rintro _ _ ⟨rfl, rfl⟩; refine Bk.mk rfl rfl ?_))
        all_goals (conv => whnf)
        all_goals exact ⟨(q + 1, b ++ (spB ++ an) ++ (eqsB ++ tn), _), ⟨by dsimp only; omega, hb1, by dsimp only; omega, by dsimp only; omega, hRR3⟩, by dsimp only; omega, [(3, .k 3), (906, .k 906), (77, .k 77), (1, .k 1), (2, .k 2)], ⟨by (try dsimp only); (repeat (refine LeT.cons rfl (by first | exact LeS.d (by first | exact LeD.u rfl | exact LeD.p rfl | exact LeD.ow rfl rfl | exact LeD.r rfl | fail) | fail) ?_)); exact LeT.nil, by (try dsimp only); repeat (first | exact LeO.nil | refine LeO.bx rfl rfl (by repeat (first | exact LeL.nil | refine LeL.cons (by first | exact LeD.u rfl | fail) ?_)) ?_ | refine LeO.ar rfl rfl (by first | rfl | fail) ?_ | refine LeO.fm rfl (by first | rfl | fail) ?_ | fail)⟩⟩
    · obtain rfl : q = ja.length := by omega
      rw [List.drop_length, attsB] at hb1
      subst hb1
      have hlen := len_T R1 R.length _ b hRR
      have hstr := str_T R1 R.length _ b (by omega) hRR
      by_cases h4 : 4000 < (b.size : Int)
      · rw [if_pos h4] at he
        cases he
      · rw [if_neg h4] at he
        repeat' ((conv => whnf); first | refine Gs.id ?_ | refine Brn.F (by (try simp only [smT]); first | rfl | omega | fail) ?_ | refine Rng.mk (by (try simp only [smT]); omega) ?_ | refine Apd.mk (by first | rfl | simp) (by first | rfl | fail) (by (try simp only [smT]); first | omega | fail) (by unfold maxLen; first | (simp; omega) | fail) ?_ | (refine CL.mk (Or.inr (Raw.callI [77] [77] rfl rfl rfl rfl rfl rfl rfl (hlen) ?_)); rintro _ _ ⟨rfl, rfl⟩; refine Bk.mk rfl rfl ?_) | (refine CL.mk (Or.inr (Raw.callI [77] [77] rfl rfl rfl rfl rfl rfl rfl (hstr) ?_)); rintro _ _ ⟨rfl, rfl⟩; refine Bk.mk rfl rfl ?_))
        all_goals (conv => whnf)
        all_goals exact ⟨(i + 1, out ++ [b], R1.set R.length [.v (.m 77 R.length 0), .hl]), ⟨by dsimp only; omega, he, by simp; omega⟩, by dsimp only; omega, [(3, .k 3), (906, .k 66), (77, .k 77), (1, .k 1), (2, .k 2)], ⟨by (try dsimp only); (repeat (refine LeT.cons rfl (by first | exact LeS.d (by first | exact LeD.u rfl | exact LeD.p rfl | exact LeD.ow rfl (by simp) | exact LeD.r rfl | fail) | fail) ?_)); exact LeT.nil, by (try dsimp only); repeat (first | exact LeO.nil | refine LeO.bx rfl rfl (by repeat (first | exact LeL.nil | refine LeL.cons (by first | exact LeD.u rfl | fail) ?_)) ?_ | refine LeO.ar rfl rfl (by first | rfl | simp) ?_ | refine LeO.fm rfl (by first | rfl | fail) ?_ | fail)⟩⟩
  · obtain rfl : i = zt.length := by omega
    rw [List.drop_length, namesW] at he
    injection he with he
    subst he
    repeat' ((conv => whnf); first | refine Gs.id ?_ | refine Brn.F (by (try simp only [smT]); first | rfl | omega | fail) ?_ | fail)
    all_goals (conv => whnf)
    all_goals exact RetO.mk ⟨[(906, .k 906)], _, _, (by exact LeS.ts (by repeat (first | exact LeCs.nil | refine LeCs.cons (by first | exact LeC.d (by first | exact LeD.ow rfl rfl | fail) | exact LeC.a (by repeat (first | exact LeL.nil | refine LeL.cons (by first | exact LeD.u rfl | fail) ?_))) ?_))), (by repeat (first | exact LeO.nil | refine LeO.ar rfl rfl (by first | rfl | fail) ?_ | fail)), rfl, rfl⟩
end Go.Proofs.YtgloielnnakknaaDoor
namespace Go.Proofs.YtgloielnnakknaaDoor
open Go.RowKit
theorem nm_uns (l : List Un) : Nm (uns l) := .sl fun r hr x hx => by
  obtain ⟨u, _, rfl⟩ := List.mem_map.1 hr
  simp only [Un.row, List.mem_cons, List.not_mem_nil, or_false] at hx
  rcases hx with rfl | rfl
  · exact .str
  · refine .sl fun r hr x hx => ?_
    obtain ⟨t, _, rfl⟩ := List.mem_map.1 hr
    simp only [Stp.row, List.mem_cons, List.not_mem_nil, or_false] at hx
    rcases hx with rfl | rfl | rfl
    · exact .int
    · exact .str
    · exact .str
theorem no_fd (f : Int × Int) : NoC (.a (fd f)) := fun x hx => by
  simp only [fd, List.mem_cons, List.not_mem_nil, or_false] at hx
  rcases hx with rfl | rfl <;> exact .inl ⟨_, rfl, .int⟩
theorem no_own (k n : Nat) (f : Int × Int) : NoS (.t [.d (.ow k n), .a (fd f)]) := fun s hs => by
  simp only [List.mem_cons, List.not_mem_nil, or_false] at hs
  rcases hs with rfl | rfl
  · exact .inr ⟨_, _, rfl⟩
  · exact no_fd f
theorem no_nl (f : Int × Int) : NoS (.t [.d (.u .nl), .a (fd f)]) := fun s hs => by
  simp only [List.mem_cons, List.not_mem_nil, or_false] at hs
  rcases hs with rfl | rfl
  · exact .inl ⟨_, rfl, .nl⟩
  · exact no_fd f
theorem nm_arg (l : List Un) : ∀ s ∈ [(.d (.u (uns l)) : SV)], NmS s := fun s hs => by
  simp at hs; subst hs; exact ⟨_, rfl, nm_uns l⟩
/-- A fault of the loader. -/
def FltOf (l : List Un) (f : Int × Int) : Prop := ((validateM l).1 ≠ 0 ∧ f = validateM l) ∨ ((validateM l).1 = 0 ∧ (finS l).full = true ∧ f = (21, -1))
theorem load_flt (l : List Un) (f : Int × Int) (hf : FltOf l f) : CallsA Tryd.prog 14 [.d (.u (uns l))] [] (Is (.t [.d (.u .nl), .a (fd f)])) :=
  CallsA.hideO [(1, 0), (2, 82)] (nm_arg l) (no_nl f) (fun p hp => by cases hp) (load_bad l f hf)
theorem load_own (l : List Un) (h1 : (validateM l).1 = 0) (h2 : (finS l).full = false) : CallsA Tryd.prog 14 [.d (.u (uns l))] [] (Iso (.t [.d (.ow 905 (finS l).log.length), .a (fd (0, 0))]) [(905, .ar 43 2 ((finS l).log.map Ev.v))]) :=
  CallsA.hideO [(1, 0), (2, 82)] (nm_arg l) (no_own _ _ _) (fun p hp => by
    simp at hp
    subst hp
    refine ⟨_, _, _, rfl, fun r hr x hx => ?_⟩
    obtain ⟨a, _, rfl⟩ := List.mem_map.1 hr
    simp only [Ev.v, List.mem_cons, List.not_mem_nil, or_false] at hx
    rcases hx with rfl | rfl
    · exact .int
    · exact .str) (load_ok l h1 h2)
theorem names_own (l : List Un) (h1 : (validateM l).1 = 0) (h2 : (finS l).full = false) (res : List ByteArray) (hr : namesW (finS l).mods [] (finS l).table = some res) : CallsA Tryd.prog 18 [.d (.u (uns l))] [] (Iso (.t [.d (.ow 906 res.length), .a (fd (0, 0))]) [(906, .ar 9 1 (strs res))]) :=
  CallsA.hideO [(1, 0), (2, 82), (77, 75)] (nm_arg l) (no_own _ _ _) (fun p hp => by
    simp at hp
    subst hp
    refine ⟨_, _, _, rfl, fun r hr x hx => ?_⟩
    obtain ⟨a, _, rfl⟩ := List.mem_map.1 hr
    simp only [List.mem_cons, List.not_mem_nil, or_false] at hx
    subst hx
    exact .str) (names_ok l h1 h2 res hr)
/-- The two units of the check. -/
def circL : List Un := [⟨⟨#[109, 97, 105, 110]⟩, [⟨3, ⟨#[97]⟩, emp⟩]⟩, ⟨⟨#[97]⟩, [⟨3, ⟨#[109, 97, 105, 110]⟩, emp⟩]⟩]
theorem circle_T : CallsA Tryd.prog 25 [] [] (Is (.d (.u (uns circL)))) := by
  refine callsA_of_vc (T := tt) Tryd.func25 rfl rfl rfl rfl rfl ?_
  repeat' ((conv => whnf); first | refine Gs.go (i := 3) ((Ghost.frzA 4 rfl (by repeat ((conv => whnf); first | exact trivial | refine Len.mk (by first | rfl | fail) ?_))).trans (Ghost.frzA 6 rfl (by repeat ((conv => whnf); first | exact trivial | refine Len.mk (by first | rfl | fail) ?_)))) ?_ | refine Gs.id ?_ | refine Len.mk (by first | rfl | fail) ?_ | fail)
  all_goals (conv => whnf)
  · exact Ret.is (by rfl)
theorem circ_ok : (validateM circL).1 = 0 := by decide +kernel
theorem circ_full : (finS circL).full = false := by decide +kernel
theorem circ_log : (finS circL).log.map (fun e => (e.kind, e.name)) = [(1, mainB), (1, ⟨#[97]⟩), (5, mainB), (2, ⟨#[97]⟩), (2, mainB)] := by decide +kernel
def circN : List ByteArray := [⟨#[109, 97, 105, 110, 58, 32, 97, 61, 97]⟩, ⟨#[97, 58, 32, 109, 97, 105, 110, 61, 109, 97, 105, 110]⟩]
theorem circ_names : namesW (finS circL).mods [] (finS circL).table = some circN := by decide +kernel
end Go.Proofs.YtgloielnnakknaaDoor
namespace Go.Proofs.YtgloielnnakknaaDoor
open Go.RowKit
abbrev circR : List (List V) := [[.int .i64 1, .str mainB], [.int .i64 1, .str ⟨#[97]⟩], [.int .i64 5, .str mainB], [.int .i64 2, .str ⟨#[97]⟩], [.int .i64 2, .str mainB]]
theorem circ_rows : (finS circL).log.map Ev.v = circR := by
  have h : (finS circL).log.map Ev.v = ((finS circL).log.map fun e => (e.kind, e.name)).map fun p => [V.int .i64 p.1, V.str p.2] := by rw [List.map_map]; rfl
  rw [h, circ_log]; rfl
theorem circ_len : (finS circL).log.length = 5 := by
  have := congrArg List.length circ_log
  simpa using this
theorem circLoad_T : CallsA Tryd.prog 14 [.d (.u (uns circL))] [] (Iso (.t [.d (.ow 905 5), .a (fd (0, 0))]) [(905, .ar 43 2 circR)]) := by
  have h := load_own circL circ_ok circ_full
  rw [circ_rows, circ_len] at h
  exact h
theorem circNames_T : CallsA Tryd.prog 18 [.d (.u (uns circL))] [] (Iso (.t [.d (.ow 906 2), .a (fd (0, 0))]) [(906, .ar 9 1 (strs circN))]) := names_own circL circ_ok circ_full circN circ_names
def abB : ByteArray := ⟨#[97, 46, 98]⟩
def abL : List ByteArray := [⟨#[97]⟩, ⟨#[97, 46, 98]⟩]
theorem ab_chain : dottedM abB = true ∧ chainM abB = abL := by decide +kernel
theorem abChain_T : CallsA Tryd.prog 8 [.d (.u (.str ⟨#[97, 46, 98]⟩))] [] (Is (.t [.d (.u (strs' abL)), .a (fd (0, 0))])) := by
  have h := chainOk_T abB ab_chain.1
  rw [ab_chain.2] at h
  exact h
theorem imported_T : CallsA Tryd.prog 11 [] [] (Is (db true)) := by
  have h1 := strings_R circN circN
  have h2 := strings_R abL abL
  rw [decide_eq_true rfl] at h1 h2
  refine callsA_of_vc (T := tt) Tryd.func11 rfl rfl rfl rfl rfl ?_
  repeat' ((conv => whnf); first | refine Gs.id ?_ | with_reducible refine Brn.T rfl ?_ | with_reducible refine Brn.F rfl ?_ | refine Brn.T (by (try simp only [smT]); first | rfl | assumption | fail) ?_ | refine Brn.F (by (try simp only [smT]); first | rfl | assumption | fail) ?_ | (refine Brn.mk (fun hb => ?_) (fun hb => ?_) <;> (try simp only [smT] at hb) <;> (try (exact absurd trivial hb)) <;> (try (exfalso; omega))) | (refine Bnd.mk (fun hm => ?_); (try simp only [smT] at hm)) | refine Ixo.mk ⟨_, rfl, (by (try simp only [smT]); omega), ?_⟩ | refine Rw.lit rfl ?_ | refine Eqv.mk (by kernel_rfl) ?_ | (refine CL.mk (Or.inl ?_); (conv => whnf); first | refine Cl.is (circle_T) rfl (by first | (intro e; cases e; done) | fail) ?_ | refine Cl.is (abChain_T) rfl (by first | (intro e; cases e; done) | fail) ?_ | fail) | (refine CL.mk (Or.inl ?_); (conv => whnf); refine ClO.mk (Or.inl ?_); (repeat ((conv => whnf); refine Len.mk (by first | rfl | fail) ?_)); (conv => whnf); first | refine Cl.is (h1) rfl (by first | exact fun _ => rfl | fail) ?_ | refine Cl.is (h2) rfl (by first | exact fun _ => rfl | fail) ?_) | (refine CL.mk (Or.inr (Raw.callI [] [905] rfl rfl rfl rfl rfl rfl rfl (circLoad_T) ?_)); rintro _ _ ⟨rfl, rfl⟩; refine Bk.mk rfl rfl ?_) | (refine CL.mk (Or.inr (Raw.callI [] [906] rfl rfl rfl rfl rfl rfl rfl (circNames_T) ?_)); rintro _ _ ⟨rfl, rfl⟩; refine Bk.mk rfl rfl ?_))
  all_goals (conv => whnf)
  all_goals first | exact Ret.is rfl | (exfalso; have q : (mainB.toList == (⟨#[109, 97, 105, 110]⟩ : ByteArray).toList) = true := (by decide +kernel); simp_all)
end Go.Proofs.YtgloielnnakknaaDoor
namespace Go.Proofs.YtgloielnnakknaaDoor
open Go.RowKit
def hlL (l : List UInt8) : Nat → List (List UInt8)
  | 0 => []
  | i + 1 => if l[i]? = some 46 then hlL l i ++ [l.take i] else hlL l i
def chainL : List UInt8 → List (List UInt8)
  | [] => [[]]
  | b :: l => (if b = 46 then [[]] else []) ++ (chainL l).map (b :: ·)
def chainP : List (List UInt8) → List (List UInt8)
  | [] => []
  | x :: r => x :: (chainP r).map (x ++ 46 :: ·)
def joinL : List (List UInt8) → List UInt8
  | [] => []
  | [x] => x
  | x :: y :: r => x ++ 46 :: joinL (y :: r)
end Go.Proofs.YtgloielnnakknaaDoor
namespace Go.Proofs.YtgloielnnakknaaDoor
open Go.RowKit
end Go.Proofs.YtgloielnnakknaaDoor
namespace Go.Proofs.YtgloielnnakknaaDoor
open Go.RowKit
theorem Ix_at {l : List ByteArray} {n : Int} {p : Nat} {z : ByteArray} {K : List V → Prop} (hn : n = (p : Int)) (h : l[p]? = some z) (k : K [V.str z]) : Ix (strs l) n K := by
  subst hn
  exact Ix.map rfl (lt_get h) (by rw [(List.getElem?_eq_some_iff.1 h).2]; exact k)
end Go.Proofs.YtgloielnnakknaaDoor
namespace Go.Proofs.YtgloielnnakknaaDoor
open Go.RowKit
theorem lookA_setA (n m : ByteArray) (v : Option Nat) : ∀ l : List At, lookA (setA l n v) m = if m = n then some v else lookA l m
  | [] => by
    simp only [setA, lookA]
    by_cases h : m = n
    · subst h; simp
    · have : ¬ n = m := fun e => h e.symm
      simp [h, this]
  | a :: r => by
    simp only [setA]
    by_cases ha : a.name = n
    · rw [if_pos ha]
      simp only [lookA]
      by_cases h : m = n
      · subst h; simp
      · have h1 : ¬ n = m := fun e => h e.symm
        have h2 : ¬ a.name = m := fun e => h (by rw [← e, ha])
        simp [h, h1, h2]
    · rw [if_neg ha]
      simp only [lookA, lookA_setA n m v r]
      by_cases h : a.name = m
      · have h1 : ¬ m = n := fun e => ha (h.trans e)
        simp [h, h1]
      · simp [h]
theorem lookA_none {n : ByteArray} : ∀ {l : List At}, n ∉ l.map At.name → lookA l n = none
  | [], _ => rfl
  | a :: r, h => by
    simp only [List.map_cons, List.mem_cons, not_or] at h
    simp only [lookA]
    rw [if_neg fun e => h.1 e.symm]
    exact lookA_none h.2
theorem lookA_dropA (n m : ByteArray) : ∀ l : List At, (l.map At.name).Nodup → lookA (dropA l n) m = if m = n then none else lookA l m
  | [], _ => by simp [dropA, lookA]
  | a :: r, h => by
    simp only [List.map_cons, List.nodup_cons] at h
    simp only [dropA]
    by_cases ha : a.name = n
    · rw [if_pos ha]
      by_cases hm : m = n
      · subst hm
        rw [if_pos rfl]
        exact lookA_none (by rw [← ha]; exact h.1)
      · rw [if_neg hm]
        simp only [lookA]
        rw [if_neg fun e => hm (by rw [← e, ha])]
    · rw [if_neg ha]
      simp only [lookA, lookA_dropA n m r h.2]
      by_cases h1 : a.name = m
      · have h2 : ¬ m = n := fun e => ha (h1.trans e)
        simp [h1, h2]
      · simp [h1]
structure Sim (D : List ByteArray) (s s' : Ld) : Prop where
  len : s'.mods.length = s.mods.length
  nm : ∀ i, nmOf s'.mods i = nmOf s.mods i
  run : ∀ i, runOf s' i = runOf s i
  at' : ∀ i n, n ∉ D → lookA (atsS s' i) n = lookA (atsS s i) n
  table : s'.table = s.table
  log : s'.log = s.log
  full : s'.full = s.full
theorem Sim.refl (D : List ByteArray) (s : Ld) : Sim D s s := ⟨rfl, fun _ => rfl, fun _ => rfl, fun _ _ _ => rfl, rfl, rfl, rfl⟩
theorem tfind_congr {a b : List Md} (h : ∀ i, nmOf b i = nmOf a i) (n : ByteArray) : ∀ l, tfind b n l = tfind a n l
  | [] => rfl
  | j :: r => by simp only [tfind, h j, tfind_congr h n r]
theorem Sim.find {D : List ByteArray} {s s' : Ld} (h : Sim D s s') (n : ByteArray) : findS s' n = findS s n := by
  unfold findS; rw [h.table]; exact tfind_congr h.nm n _
theorem Sim.name {D : List ByteArray} {s s' : Ld} (h : Sim D s s') (i : Nat) : nameS s' i = nameS s i := by
  unfold nameS; rw [h.nm]
theorem atsS_upd (s : Ld) (i : Nat) (f : Md → Md) (j : Nat) : atsS (updS s i f) j = match s.mods[j]? with
    | some m => (if j = i then f m else m).ats
    | none => [] := by
  simp only [atsS, updS, updM_get]
  cases s.mods[j]? <;> rfl
theorem runOf_upd (s : Ld) (i : Nat) (f : Md → Md) (j : Nat) : runOf (updS s i f) j = match s.mods[j]? with
    | some m => (if j = i then f m else m).run
    | none => 0 := by
  simp only [runOf, updS, updM_get]
  cases s.mods[j]? <;> rfl
theorem runOf_keep (s : Ld) {i : Nat} {f : Md → Md} (hf : ∀ m, (f m).run = m.run) (j : Nat) : runOf (updS s i f) j = runOf s j := by
  rw [runOf_upd]
  unfold runOf
  cases s.mods[j]? with
  | none => rfl
  | some m => simp only; split <;> simp [hf]
theorem look_set (s : Ld) (i : Nat) (n : ByteArray) (v : Option Nat) (j : Nat) (m : ByteArray) : lookA (atsS (setS s i n v) j) m = if j = i ∧ j < s.mods.length ∧ m = n then some v else lookA (atsS s j) m := by
  unfold setS
  rw [atsS_upd]
  unfold atsS
  by_cases hj : j < s.mods.length
  · rw [List.getElem?_eq_getElem hj]
    simp only
    by_cases h : j = i
    · rw [if_pos h]
      simp only [lookA_setA]
      by_cases hm : m = n
      · rw [if_pos hm, if_pos ⟨h, hj, hm⟩]
      · rw [if_neg hm, if_neg fun e => hm e.2.2]
    · rw [if_neg h, if_neg fun e => h e.1]
  · rw [List.getElem?_eq_none (by omega), if_neg fun e => hj e.2.1]
theorem look_drop {us : List Un} {s : Ld} (hI : Inv us s) (i : Nat) (n : ByteArray) (j : Nat) (m : ByteArray) : lookA (atsS (dropS s i n) j) m = if j = i ∧ j < s.mods.length ∧ m = n then none else lookA (atsS s j) m := by
  unfold dropS
  rw [atsS_upd]
  unfold atsS
  by_cases hj : j < s.mods.length
  · rw [List.getElem?_eq_getElem hj]
    simp only
    by_cases h : j = i
    · rw [if_pos h]
      simp only [lookA_dropA n m _ (hI.nd _ (List.getElem_mem hj))]
      by_cases hm : m = n
      · rw [if_pos hm, if_pos ⟨h, hj, hm⟩]
      · rw [if_neg hm, if_neg fun e => hm e.2.2]
    · rw [if_neg h, if_neg fun e => h e.1]
  · rw [List.getElem?_eq_none (by omega), if_neg fun e => hj e.2.1]
theorem Sim.set {D : List ByteArray} {s s' : Ld} (h : Sim D s s') (i : Nat) (n : ByteArray) (v : Option Nat) : Sim D (setS s i n v) (setS s' i n v) :=
  ⟨by simp [setS, updS, updM_len, h.len], fun j => by
    have e1 : nmOf (setS s' i n v).mods j = nmOf s'.mods j := nmOf_upd (by intro m; rfl) j
    have e2 : nmOf (setS s i n v).mods j = nmOf s.mods j := nmOf_upd (by intro m; rfl) j
    rw [e1, e2]; exact h.nm j, fun j => by
    have e1 : runOf (setS s' i n v) j = runOf s' j := runOf_keep s' (by intro m; rfl) j
    have e2 : runOf (setS s i n v) j = runOf s j := runOf_keep s (by intro m; rfl) j
    rw [e1, e2]; exact h.run j, fun j m hm => by rw [look_set, look_set, h.len, h.at' j m hm], h.table, h.log, h.full⟩
theorem Sim.setR {D : List ByteArray} {s s' : Ld} (h : Sim D s s') (i : Nat) {n : ByteArray} (hn : n ∈ D) (v : Option Nat) : Sim D s (setS s' i n v) :=
  ⟨by simp [setS, updS, updM_len, h.len], fun j => by
    have e1 : nmOf (setS s' i n v).mods j = nmOf s'.mods j := nmOf_upd (by intro m; rfl) j
    rw [e1]; exact h.nm j, fun j => by
    have e1 : runOf (setS s' i n v) j = runOf s' j := runOf_keep s' (by intro m; rfl) j
    rw [e1]; exact h.run j, fun j m hm => by rw [look_set, if_neg fun e => hm (by rw [e.2.2]; exact hn), h.at' j m hm], h.table, h.log, h.full⟩
theorem Sim.dropR {D : List ByteArray} {us : List Un} {s s' : Ld} (h : Sim D s s') (hI : Inv us s') (i : Nat) {n : ByteArray} (hn : n ∈ D) : Sim D s (dropS s' i n) :=
  ⟨by simp [dropS, updS, updM_len, h.len], fun j => by
    have e1 : nmOf (dropS s' i n).mods j = nmOf s'.mods j := nmOf_upd (by intro m; rfl) j
    rw [e1]; exact h.nm j, fun j => by
    have e1 : runOf (dropS s' i n) j = runOf s' j := runOf_keep s' (by intro m; rfl) j
    rw [e1]; exact h.run j, fun j m hm => by rw [look_drop hI, if_neg fun e => hm (by rw [e.2.2]; exact hn), h.at' j m hm], h.table, h.log, h.full⟩
theorem Sim.dropL {D : List ByteArray} {us : List Un} {s s' : Ld} (h : Sim D s s') (hI : Inv us s) (i : Nat) {n : ByteArray} (hn : n ∈ D) : Sim D (dropS s i n) s' :=
  ⟨by simp [dropS, updS, updM_len, h.len], fun j => by
    have e1 : nmOf (dropS s i n).mods j = nmOf s.mods j := nmOf_upd (by intro m; rfl) j
    rw [e1]; exact h.nm j, fun j => by
    have e1 : runOf (dropS s i n) j = runOf s j := runOf_keep s (by intro m; rfl) j
    rw [e1]; exact h.run j, fun j m hm => by rw [look_drop hI, if_neg fun e => hm (by rw [e.2.2]; exact hn), h.at' j m hm], h.table, h.log, h.full⟩
theorem Sim.drop {D : List ByteArray} {us us' : List Un} {s s' : Ld} (h : Sim D s s') (hI : Inv us s) (hI' : Inv us' s') (i : Nat) (n : ByteArray) : Sim D (dropS s i n) (dropS s' i n) :=
  ⟨by simp [dropS, updS, updM_len, h.len], fun j => by
    have e1 : nmOf (dropS s i n).mods j = nmOf s.mods j := nmOf_upd (by intro m; rfl) j
    have e2 : nmOf (dropS s' i n).mods j = nmOf s'.mods j := nmOf_upd (by intro m; rfl) j
    rw [e1, e2]; exact h.nm j, fun j => by
    have e1 : runOf (dropS s i n) j = runOf s j := runOf_keep s (by intro m; rfl) j
    have e2 : runOf (dropS s' i n) j = runOf s' j := runOf_keep s' (by intro m; rfl) j
    rw [e1, e2]; exact h.run j, fun j m hm => by rw [look_drop hI, look_drop hI', h.len, h.at' j m hm], h.table, h.log, h.full⟩
theorem Sim.note {D : List ByteArray} {s s' : Ld} (h : Sim D s s') (k : Int) (n : ByteArray) : Sim D (noteS s k n) (noteS s' k n) :=
  ⟨h.len, h.nm, h.run, h.at', h.table, by simp only [noteS, h.log, h.full], by simp only [noteS, h.log, h.full]⟩
theorem Sim.run' {D : List ByteArray} {s s' : Ld} (h : Sim D s s') (i : Nat) (d : Int) : Sim D (runS s i d) (runS s' i d) := by
  refine ⟨by simp [runS, updS, updM_len, h.len], fun j => ?_, fun j => ?_, fun j m hm => ?_, h.table, h.log, h.full⟩
  · have e1 : nmOf (runS s i d).mods j = nmOf s.mods j := nmOf_upd (by intro m; rfl) j
    have e2 : nmOf (runS s' i d).mods j = nmOf s'.mods j := nmOf_upd (by intro m; rfl) j
    rw [e1, e2]; exact h.nm j
  · have e : ∀ z : Ld, runOf (runS z i d) j = if j = i ∧ j < z.mods.length then runOf z j + d else runOf z j := fun z => by
      unfold runS
      rw [runOf_upd]
      unfold runOf
      by_cases hj : j < z.mods.length
      · rw [List.getElem?_eq_getElem hj]
        by_cases hi : j = i
        · rw [if_pos ⟨hi, hj⟩]; simp only; rw [if_pos hi]
        · rw [if_neg fun e => hi e.1]; simp only; rw [if_neg hi]
      · rw [List.getElem?_eq_none (by omega), if_neg fun e => hj e.2]
    rw [e, e, h.len, h.run j]
  · have e : ∀ z : Ld, atsS (runS z i d) j = atsS z j := fun z => by
      unfold runS
      rw [atsS_upd]
      unfold atsS
      cases z.mods[j]? with
      | none => rfl
      | some m => simp only; split <;> rfl
    rw [e, e]; exact h.at' j m hm
theorem get_push (l : List Md) (m : Md) (j : Nat) : (l ++ [m])[j]? = if j < l.length then l[j]? else if j = l.length then some m else none := by
  by_cases h : j < l.length
  · rw [if_pos h, List.getElem?_append_left h]
  · rw [if_neg h]
    by_cases h2 : j = l.length
    · subst h2; simp
    · rw [if_neg h2, List.getElem?_eq_none (by simp; omega)]
theorem Sim.push {D : List ByteArray} {s s' : Ld} (h : Sim D s s') (n : ByteArray) : Sim D (pushS s n) (pushS s' n) := by
  refine ⟨by simp [pushS, h.len], fun j => ?_, fun j => ?_, fun j m hm => ?_, by simp [pushS, h.table, h.len], h.log, h.full⟩
  · have h1 := h.nm j
    simp only [nmOf, pushS, get_push, h.len] at h1 ⊢
    split
    · exact h1
    · rfl
  · have h1 := h.run j
    simp only [runOf, pushS, get_push, h.len] at h1 ⊢
    by_cases hj : j < s.mods.length
    · simp only [if_pos hj]; exact h1
    · simp only [if_neg hj]
  · have h1 := h.at' j m hm
    simp only [atsS, pushS, get_push, h.len] at h1 ⊢
    by_cases hj : j < s.mods.length
    · simp only [if_pos hj]; exact h1
    · simp only [if_neg hj]
theorem Sim.filter {D : List ByteArray} {s s' : Ld} (h : Sim D s s') (i : Nat) : Sim D ⟨s.mods, s.table.filter fun j => j != i, s.log, s.full⟩ ⟨s'.mods, s'.table.filter fun j => j != i, s'.log, s'.full⟩ :=
  ⟨h.len, h.nm, h.run, h.at', by simp only [h.table], h.log, h.full⟩
theorem Sim.par {D : List ByteArray} {s s' : Ld} (h : Sim D s s') (n : ByteArray) : parS s' n = parS s n := by
  unfold parS; rw [(h.push n).find]
theorem Sim.link {D : List ByteArray} {s s' : Ld} (h : Sim D s s') (n : ByteArray) : Sim D (linkS s n) (linkS s' n) := by
  unfold linkS
  rw [h.par, h.len]
  split
  · exact (h.push n).set _ _ _
  · exact h.push n
theorem Inv.filter {us : List Un} {s : Ld} (h : Inv us s) (i : Nat) : Inv us ⟨s.mods, s.table.filter fun j => j != i, s.log, s.full⟩ := ⟨h.log, fun j hj => h.tab j ((List.mem_filter.1 hj).1), h.tnd.sublist (List.filter_sublist.map _), h.nm, h.nd, h.sub, h.ptr⟩
theorem Sim.gone {D : List ByteArray} {us us' : List Un} {s s' : Ld} (h : Sim D s s') (hI : Inv us s) (hI' : Inv us' s') (i : Nat) (p : Option Nat) (n : ByteArray) : Sim D (goneS s i p n) (goneS s' i p n) := by
  unfold goneS
  have hf := h.filter i
  have i1 := hI.filter i
  have i2 := hI'.filter i
  cases p with
  | none => exact hf
  | some p =>
    simp only
    by_cases hn : n ∈ D
    · by_cases c1 : lookA (atsS s p) n = some (some i) <;> by_cases c2 : lookA (atsS s' p) n = some (some i)
      · rw [if_pos c1, if_pos c2]; exact hf.drop i1 i2 p n
      · rw [if_pos c1, if_neg c2]; exact hf.dropL i1 p hn
      · rw [if_neg c1, if_pos c2]; exact hf.dropR i2 p hn
      · rw [if_neg c1, if_neg c2]; exact hf
    · rw [h.at' p n hn]
      split
      · exact hf.drop i1 i2 p n
      · exact hf
/-- The same units, but for steps that define names of D ahead of others. -/
structure Add (us us' : List Un) (D : List ByteArray) : Prop where
  has : ∀ n, hasU us' n = hasU us n
  steps : ∀ n, ∃ ds : List ByteArray, (∀ d ∈ ds, d ∈ D) ∧ unitS us' n = (ds.map fun d => ⟨1, d, emp⟩) ++ unitS us n
  free : ∀ u ∈ us, ∀ t ∈ u.steps, t.name ∉ D ∧ t.part ∉ D
def EqR (us us' : List Un) (D : List ByteArray) (n : Nat) (R R' : Ld → Nat → Ld × Bool) : Prop := ∀ s s' i, Inv us s → Inv us' s' → i < s.mods.length → Sim D s s' → left s ≤ n → (R s i).1.full = false → (R' s' i).2 = (R s i).2 ∧ Sim D (R s i).1 (R' s' i).1
def EqS (us us' : List Un) (D : List ByteArray) (n : Nat) (St St' : Ld → Nat → Stp → Ld × Bool) : Prop := ∀ s s' i t, Inv us s → Inv us' s' → i < s.mods.length → (∃ u ∈ us, t ∈ u.steps) → (∃ u ∈ us', t ∈ u.steps) → Sim D s s' → left s ≤ n → (St s i t).1.full = false → (St' s' i t).2 = (St s i t).2 ∧ Sim D (St s i t).1 (St' s' i t).1
theorem Keep.nf {s s' : Ld} (k : Keep s s') (h : s'.full = false) : s.full = false := by
  cases e : s.full
  · rfl
  · rw [k.full e] at h; cases h
theorem note_nf {s : Ld} {k : Int} {n : ByteArray} (h : (noteS s k n).full = false) : s.full = false := by
  cases e : s.full
  · rfl
  · have : (noteS s k n).full = true := noteFull_mono e
    rw [this] at h; cases h
theorem stepsW_E {us us' : List Un} {D : List ByteArray} {n : Nat} {St St' : Ld → Nat → Stp → Ld × Bool} (hP : SP us St) (hP' : SP us' St') (hE : EqS us us' D n St St') (i : Nat) : ∀ (l : List Stp) (s s' : Ld), Inv us s → Inv us' s' → i < s.mods.length → (∀ t ∈ l, ∃ u ∈ us, t ∈ u.steps) → (∀ t ∈ l, ∃ u ∈ us', t ∈ u.steps) → Sim D s s' → left s ≤ n → (stepsW St i s l).1.full = false → (stepsW St' i s' l).2 = (stepsW St i s l).2 ∧ Sim D (stepsW St i s l).1 (stepsW St' i s' l).1
  | [], s, s', _, _, _, _, _, h, _, _ => ⟨rfl, h⟩
  | t :: r, s, s', hI, hI', hi, hl, hl', h, hn, hf => by
    have g := hP s i t hI hi (hl t (by simp))
    have g' := hP' s' i t hI' (by rw [h.len]; exact hi) (hl' t (by simp))
    simp only [stepsW] at hf ⊢
    rw [h.full]
    by_cases h0 : s.full = true
    · rw [if_pos h0] at hf
      simp only at hf
      rw [h0] at hf; cases hf
    rw [if_neg h0] at hf ⊢
    rw [if_neg h0]
    have hr := stepsW_P hP i r (St s i t).1 g.inv (Nat.lt_of_lt_of_le hi g.keep.len) fun t ht => hl t (by simp [ht])
    have hf1 : (St s i t).1.full = false := by
      split at hf
      · exact hr.keep.nf hf
      · exact hf
    obtain ⟨e1, e2⟩ := hE s s' i t hI hI' hi (hl t (by simp)) (hl' t (by simp)) h hn hf1
    rw [e1]
    split
    · rename_i h1
      rw [if_pos h1] at hf
      exact stepsW_E hP hP' hE i r _ _ g.inv g'.inv (Nat.lt_of_lt_of_le hi g.keep.len) (fun t ht => hl t (by simp [ht])) (fun t ht => hl' t (by simp [ht])) e2 (Nat.le_trans g.keep.lf hn) hf
    · exact ⟨rfl, e2⟩
theorem defs_E {us' : List Un} {D : List ByteArray} {St' : Ld → Nat → Stp → Ld × Bool} (hdef : ∀ s i d, St' s i ⟨1, d, emp⟩ = (setS s i d none, true)) (i : Nat) (l : List Stp) : ∀ (ds : List ByteArray) (s s' : Ld), (∀ d ∈ ds, d ∈ D) → (∀ d ∈ ds, d ∈ namesA us') → Inv us' s' → Sim D s s' → s.full = false → ∃ s2, stepsW St' i s' ((ds.map fun d => ⟨1, d, emp⟩) ++ l) = stepsW St' i s2 l ∧ Sim D s s2 ∧ Inv us' s2
  | [], s, s', _, _, hI, h, _ => ⟨s', rfl, h, hI⟩
  | d :: r, s, s', hd, hn, hI, h, hf => by
    obtain ⟨s2, q1, q2, q3⟩ := defs_E hdef i l r s (setS s' i d none) (fun d hd' => hd d (by simp [hd'])) (fun d hd' => hn d (by simp [hd'])) (hI.set i (hn d (by simp)) (fun j e => by cases e)) (h.setR i (hd d (by simp)) none) hf
    refine ⟨s2, ?_, q2, q3⟩
    simp only [List.map_cons, List.cons_append, stepsW, hdef]
    rw [h.full, if_neg (by rw [hf]; simp), if_pos trivial]
    exact q1
theorem runW_E {us us' : List Un} {D : List ByteArray} (hA : Add us us' D) {n : Nat} {St St' : Ld → Nat → Stp → Ld × Bool} (hP : SP us St) (hP' : SP us' St') (hdef : ∀ s i d, St' s i ⟨1, d, emp⟩ = (setS s i d none, true)) (hE : EqS us us' D n St St') : EqR us us' D (n + 1) (runW St us) (runW St' us') := fun s s' i hI hI' hi h hn hf => by
  have hi1 : i < (beginS s i).mods.length := by simpa [beginS, runS, updS, updM_len, noteS] using hi
  have h1 : Inv us (beginS s i) := (hI.note 1 _).run i 1
  have h1' : Inv us' (beginS s' i) := (hI'.note 1 _).run i 1
  have hs : Sim D (beginS s i) (beginS s' i) := by
    unfold beginS; rw [h.name]; exact (h.note _ _).run' _ _
  have hl1 : left (beginS s i) ≤ n := by
    have e1 : left (beginS s i) = left (noteS s 1 (nameS s i)) := rfl
    rw [e1, left_note _ _ _ hI.log]; omega
  obtain ⟨ds, d1, d2⟩ := hA.steps (nameS s i)
  unfold runW at hf ⊢
  rw [h.name, d2]
  have hmem : ∀ t ∈ (ds.map fun d => (⟨1, d, emp⟩ : Stp)) ++ unitS us (nameS s i), ∃ u ∈ us', t ∈ u.steps := fun t ht => unitS_mem (n := nameS s i) (by rw [d2]; exact ht)
  have g := stepsW_P hP i (unitS us (nameS s i)) (beginS s i) h1 hi1 fun t ht => unitS_mem ht
  have hf1 : (stepsW St i (beginS s i) (unitS us (nameS s i))).1.full = false := by
    simp only [endS] at hf
    exact note_nf (s := runS _ i (-1)) hf
  have hf0 : (beginS s i).full = false := g.keep.nf hf1
  obtain ⟨s2, q1, q2, q3⟩ := defs_E (us' := us') (D := D) hdef i (unitS us (nameS s i)) ds (beginS s i) (beginS s' i) d1 (fun d hd => by
    obtain ⟨u, hu, ht⟩ := hmem ⟨1, d, emp⟩ (List.mem_append_left _ (List.mem_map.2 ⟨d, hd, rfl⟩))
    exact (namesA_step hu ht).1) h1' hs hf0
  rw [q1]
  obtain ⟨e1, e2⟩ := stepsW_E hP hP' hE i (unitS us (nameS s i)) (beginS s i) s2 h1 q3 hi1 (fun t ht => unitS_mem ht) (fun t ht => hmem t (List.mem_append_right _ ht)) q2 hl1 hf1
  refine ⟨e1, ?_⟩
  simp only [endS]
  have e3 : nameS (runS (stepsW St' i s2 (unitS us (nameS s i))).1 i (-1)) i = nameS (runS (stepsW St i (beginS s i) (unitS us (nameS s i))).1 i (-1)) i := (e2.run' i (-1)).name i
  have e4 : ∀ z : Ld, nameS (runS z i (-1)) i = nameS z i := fun z => by
    unfold nameS runS
    have : nmOf (updS z i fun m => ⟨m.name, m.run + -1, m.ats⟩).mods i = nmOf z.mods i := nmOf_upd (by intro m; rfl) i
    rw [this]
  rw [e4, e4] at e3
  rw [e1, e3]
  exact (e2.run' i (-1)).note _ _
theorem makeW_E {us us' : List Un} {D : List ByteArray} {n : Nat} {R R' : Ld → Nat → Ld × Bool} (hA : Add us us' D) (hP : RP us R) (hP' : RP us' R') (hE : EqR us us' D n R R') {s s' : Ld} {x : ByteArray} (hI : Inv us s) (hI' : Inv us' s') (hh : hasU us x = true) (hx : findS s x = none) (h : Sim D s s') (hn : left s ≤ n) (hf : (makeW R s x).1.full = false) : (makeW R' s' x).2 = (makeW R s x).2 ∧ Sim D (makeW R s x).1 (makeW R' s' x).1 := by
  obtain ⟨a1, a2, a3, a4, a5, a6, a7⟩ := link_P hI hh hx
  obtain ⟨b1, b2, b3, b4, b5, b6, b7⟩ := link_P hI' (by rw [hA.has]; exact hh) (by rw [h.find]; exact hx)
  have g := hP (linkS s x) s.mods.length a1 (by omega)
  have g' := hP' (linkS s' x) s'.mods.length b1 (by omega)
  have hf1 : (R (linkS s x) s.mods.length).1.full = false := by
    unfold makeW at hf
    split at hf
    · exact hf
    · exact (gone_P g.inv s.mods.length (parS s x) (lastP x)).2.nf hf
  have hl : left (linkS s x) ≤ n := by
    have : left (linkS s x) = left s := by unfold left; rw [a5, a6]
    omega
  obtain ⟨e1, e2⟩ := hE (linkS s x) (linkS s' x) s.mods.length a1 b1 (by omega) (h.link x) hl hf1
  unfold makeW
  rw [h.len] at g' ⊢
  rw [e1, h.par]
  split
  · exact ⟨e1, e2⟩
  · exact ⟨rfl, e2.gone g.inv g'.inv _ _ _⟩
theorem loadW_E {us us' : List Un} {D : List ByteArray} {n : Nat} {R R' : Ld → Nat → Ld × Bool} (hA : Add us us' D) (hP : RP us R) (hP' : RP us' R') (hE : EqR us us' D n R R') : ∀ (l : List ByteArray) (s s' : Ld), Inv us s → Inv us' s' → Sim D s s' → left s ≤ n → (loadW R us s l).1.full = false → (loadW R' us' s' l).2 = (loadW R us s l).2 ∧ Sim D (loadW R us s l).1 (loadW R' us' s' l).1
  | [], s, s', _, _, h, _, _ => ⟨rfl, h⟩
  | x :: r, s, s', hI, hI', h, hn, hf => by
    simp only [loadW] at hf ⊢
    rw [h.find]
    cases hx : findS s x with
    | some j =>
      rw [hx] at hf
      simp only at hf ⊢
      rw [h.run j]
      refine loadW_E hA hP hP' hE r _ _ (hI.note _ _) (hI'.note _ _) (h.note _ _) ?_ hf
      rw [left_note _ _ _ hI.log]; omega
    | none =>
      rw [hx] at hf
      simp only at hf ⊢
      rw [hA.has]
      by_cases hh : hasU us x = true
      · rw [if_pos hh] at hf ⊢
        rw [if_pos hh]
        obtain ⟨g, _⟩ := makeW_P hP hI hh hx
        obtain ⟨g', _⟩ := makeW_P hP' hI' (show hasU us' x = true by rw [hA.has]; exact hh) (by rw [h.find]; exact hx)
        have hf1 : (makeW R s x).1.full = false := by
          split at hf
          · exact (loadW_P hP r _ g.inv).keep.nf hf
          · exact hf
        obtain ⟨e1, e2⟩ := makeW_E hA hP hP' hE hI hI' hh hx h hn hf1
        rw [e1]
        split
        · rename_i h1
          rw [if_pos h1] at hf
          exact loadW_E hA hP hP' hE r _ _ g.inv g'.inv e2 (Nat.le_trans g.keep.lf hn) hf
        · exact ⟨rfl, e2⟩
      · rw [if_neg hh, if_neg hh]
        exact ⟨rfl, h.note _ _⟩
theorem stepW_E {us us' : List Un} {D : List ByteArray} {n : Nat} {R R' : Ld → Nat → Ld × Bool} (hA : Add us us' D) (hP : RP us R) (hP' : RP us' R') (hE : EqR us us' D n R R') : EqS us us' D n (stepW R us) (stepW R' us') := fun s s' i t hI hI' hi ⟨u, hu, htu⟩ _ h hn hf => by
  obtain ⟨hD1, hD2⟩ := hA.free u hu t htu
  unfold stepW at hf ⊢
  by_cases k1 : t.kind = 1
  · rw [if_pos k1, if_pos k1]
    exact ⟨rfl, h.set _ _ _⟩
  rw [if_neg k1] at hf ⊢
  rw [if_neg k1]
  by_cases k2 : t.kind = 2
  · rw [if_pos k2, if_pos k2, h.at' i t.name hD1]
    split
    · exact ⟨rfl, h.drop hI hI' _ _⟩
    · exact ⟨rfl, h⟩
  rw [if_neg k2] at hf ⊢
  rw [if_neg k2]
  by_cases k5 : t.kind = 5
  · rw [if_pos k5] at hf ⊢
    rw [if_pos k5, h.find]
    cases hx : findS s t.name with
    | none => exact ⟨rfl, h⟩
    | some j =>
      rw [hx] at hf
      simp only at hf ⊢
      exact hE s s' j hI hI' (hI.find j hx) h hn hf
  rw [if_neg k5] at hf ⊢
  rw [if_neg k5]
  have g := loadW_P hP (chainM t.name) s hI
  have g' := loadW_P hP' (chainM t.name) s' hI'
  have hE2 := loadW_E hA hP hP' hE (chainM t.name) s s' hI hI' h hn
  generalize loadW R us s (chainM t.name) = p at *
  generalize loadW R' us' s' (chainM t.name) = p' at *
  have gp := fun (s : Ld) (hI : Inv us s) => loadW_P hP (chainM (wholeB t)) s hI
  have hf1 : p.1.full = false := by
    split at hf
    · split at hf
      · exact hf
      · unfold partW at hf
        split at hf
        · exact hf
        · split at hf
          · exact hf
          · split at hf
            · split at hf
              · exact (gp _ g.inv).keep.nf hf
              · exact (gp _ g.inv).keep.nf hf
            · exact hf
    · exact hf
  obtain ⟨e1, e2⟩ := hE2 hf1
  rw [e1]
  by_cases hp : p.2 = true
  · rw [if_pos hp] at hf ⊢
    rw [if_pos hp]
    by_cases k3 : t.kind = 3
    · rw [if_pos k3, if_pos k3, e2.find]
      exact ⟨rfl, e2.set _ _ _⟩
    · rw [if_neg k3] at hf ⊢
      rw [if_neg k3]
      unfold partW at hf ⊢
      rw [e2.find]
      cases hx : findS p.1 t.name with
      | none => exact ⟨rfl, e2⟩
      | some j =>
        rw [hx] at hf
        simp only at hf ⊢
        rw [e2.at' j t.part hD2]
        cases hy : lookA (atsS p.1 j) t.part with
        | some v => exact ⟨rfl, e2.set _ _ _⟩
        | none =>
          rw [hy] at hf
          simp only at hf ⊢
          rw [hA.has]
          by_cases hh : hasU us (wholeB t) = true
          · rw [if_pos hh] at hf ⊢
            rw [if_pos hh]
            have hf2 : (loadW R us p.1 (chainM (wholeB t))).1.full = false := by
              split at hf
              · exact hf
              · exact hf
            obtain ⟨r1, r2⟩ := loadW_E hA hP hP' hE (chainM (wholeB t)) p.1 p'.1 g.inv g'.inv e2 (Nat.le_trans g.keep.lf hn) hf2
            rw [r1, r2.find]
            split
            · exact ⟨rfl, r2.set _ _ _⟩
            · exact ⟨rfl, r2⟩
          · rw [if_neg hh, if_neg hh]
            exact ⟨rfl, e2⟩
  · rw [if_neg hp, if_neg hp]
    exact ⟨rfl, e2⟩
theorem runM_E {us us' : List Un} {D : List ByteArray} (hA : Add us us' D) : ∀ n, EqR us us' D n (runM us n) (runM us' n)
  | 0 => fun s s' i hI hI' hi h hn hf => by
    exfalso
    have h0 := (runM_P us 0 s i hI hi).keep.nf hf
    have hl := hI.log
    unfold left at hn
    rw [h0] at hn
    simp at hn
    omega
  | n + 1 => runW_E hA (stepW_P (runM_P us n)) (stepW_P (runM_P us' n)) (fun s i d => by unfold stepW; rw [if_pos rfl]) (stepW_E hA (runM_P us n) (runM_P us' n) (runM_E hA n))
/-- The events stay. -/
theorem fin_stay {l l' : List Un} {D : List ByteArray} (hA : Add l l' D) (h : (validateM l).1 = 0) (h' : (validateM l').1 = 0) (hf : (finS l).full = false) : (finS l').log = (finS l).log ∧ (finS l').full = false := by
  have hi := init_inv h
  obtain ⟨_, e2⟩ := runM_E hA 5001 initS initS 0 hi.1 (init_inv h').1 (by simp [initS]) (.refl D initS) hi.2.2 hf
  exact ⟨e2.log, e2.full.trans hf⟩
end Go.Proofs.YtgloielnnakknaaDoor
namespace Go.Proofs.YtgloielnnakknaaDoor
open Go.RowKit
inductive Rs where
  | go (b o : List ByteArray)
  | stop
  | bad
def inB (n : ByteArray) (l : List ByteArray) : Bool := l.any fun m => decide (m = n)
def beginOk (n : ByteArray) (b : List ByteArray) : Bool := !inB n b && (decide ((chainM n).length ≤ 1) || inB (parB n) b)
def on1 : Rs → Ev → Rs
  | .go b o, e => if e.kind = 3 ∨ e.kind = 6 then .stop else if e.kind = 1 then (if beginOk e.name b = true then .go (b ++ [e.name]) (o ++ [e.name]) else .bad) else if e.kind = 2 then (if o.getLast? = some e.name then .go b o.dropLast else .bad) else .go b o
  | r, _ => r
def onL (r : Rs) (l : List Ev) : Rs := l.foldl on1 r
abbrev onS (s : Ld) : Rs := onL (.go [] []) s.log
abbrev names (s : Ld) : List ByteArray := s.mods.map Md.name
structure Alive (s : Ld) (o : List ByteArray) : Prop where
  on : onS s = .go (names s) o
  all : ∀ j, j < s.mods.length → j ∈ s.table
structure Pre (s : Ld) (i : Nat) (o : List ByteArray) : Prop where
  on : onS s = .go (names s).dropLast o
  all : ∀ j, j < s.mods.length → j ∈ s.table
  last : i + 1 = s.mods.length
  new : beginOk (nameS s i) (names s).dropLast = true
theorem noteS_log {s : Ld} {k : Int} {n : ByteArray} : (noteS s k n).full = true ∨ (s.full = false ∧ (noteS s k n).log = s.log ++ [⟨k, n⟩]) := by
  unfold noteS noteLog
  cases h : noteFull s.log s.full
  · right
    refine ⟨?_, by simp⟩
    unfold noteFull at h
    simp at h; exact h.1
  · exact .inl rfl
theorem onS_note {s : Ld} {k : Int} {n : ByteArray} (h : (noteS s k n).full = false) : onS (noteS s k n) = on1 (onS s) ⟨k, n⟩ := by
  rcases noteS_log (s := s) (k := k) (n := n) with h1 | ⟨_, h2⟩
  · rw [h] at h1; cases h1
  · unfold onS onL; rw [h2, List.foldl_append]; rfl
theorem names_upd {s : Ld} {i : Nat} {f : Md → Md} (hf : ∀ m, (f m).name = m.name) : names (updS s i f) = names s := by
  apply List.ext_getElem?
  intro j
  simp only [names, updS, List.getElem?_map, updM_get]
  cases s.mods[j]? with
  | none => rfl
  | some m =>
    simp only [Option.map_some]
    split
    · rw [hf]
    · rfl
theorem Alive.upd {s : Ld} {o : List ByteArray} (h : Alive s o) {i : Nat} {f : Md → Md} (hf : ∀ m, (f m).name = m.name) : Alive (updS s i f) o :=
  ⟨by rw [names_upd hf]; exact h.on, fun j hj => h.all j (by simpa [updS, updM_len] using hj)⟩
theorem Alive.set {s : Ld} {o : List ByteArray} (h : Alive s o) (i : Nat) (n : ByteArray) (v : Option Nat) : Alive (setS s i n v) o := h.upd fun _ => rfl
theorem Alive.drop {s : Ld} {o : List ByteArray} (h : Alive s o) (i : Nat) (n : ByteArray) : Alive (dropS s i n) o := h.upd fun _ => rfl
theorem Alive.run {s : Ld} {o : List ByteArray} (h : Alive s o) (i : Nat) (d : Int) : Alive (runS s i d) o := h.upd fun _ => rfl
/-- Too many events, or all well so far. -/
def Fa (s : Ld) (o : List ByteArray) : Prop := s.full = true ∨ Alive s o
def Fd (s : Ld) : Prop := s.full = true ∨ onS s = .stop
def RO (us : List Un) (R : Ld → Nat → Ld × Bool) : Prop := ∀ s i o, Inv us s → i < s.mods.length → (s.full = true ∨ Pre s i o) → ((R s i).2 = true → Fa (R s i).1 o) ∧ ((R s i).2 = false → Fd (R s i).1)
def SO (us : List Un) (St : Ld → Nat → Stp → Ld × Bool) : Prop := ∀ s i t o, Inv us s → i < s.mods.length → (∃ u ∈ us, t ∈ u.steps) → Fa s o → ((St s i t).2 = true → Fa (St s i t).1 o) ∧ ((St s i t).2 = false → Fd (St s i t).1 ∨ Fa (St s i t).1 o)
theorem Fd.note {s : Ld} (h : Fd s) (k : Int) (n : ByteArray) : Fd (noteS s k n) := by
  rcases h with h | h
  · exact .inl (noteFull_mono h)
  · cases hf : (noteS s k n).full
    · exact .inr (by rw [onS_note hf, h]; rfl)
    · exact .inl hf
theorem Fa.fail {s : Ld} {o : List ByteArray} (h : Fa s o) {k : Int} (hk : k = 3 ∨ k = 6) (n : ByteArray) : Fd (noteS s k n) := by
  rcases h with h | h
  · exact .inl (noteFull_mono h)
  · cases hf : (noteS s k n).full
    · refine .inr ?_
      rw [onS_note hf, h.on]
      simp only [on1]
      rw [if_pos hk]
    · exact .inl hf
theorem Fa.other {s : Ld} {o : List ByteArray} (h : Fa s o) {k : Int} (hk : k = 4 ∨ k = 5) (n : ByteArray) : Fa (noteS s k n) o := by
  rcases h with h | h
  · exact .inl (noteFull_mono h)
  · cases hf : (noteS s k n).full
    · refine .inr ⟨?_, h.all⟩
      rw [onS_note hf, h.on]
      simp only [on1]
      rw [if_neg (by omega), if_neg (by omega), if_neg (by omega)]
      rfl
    · exact .inl hf
theorem Fa.upd {s : Ld} {o : List ByteArray} (h : Fa s o) (i : Nat) (f : Md → Md) (hf : ∀ m, (f m).name = m.name) : Fa (updS s i f) o := h.imp id fun h => h.upd hf
end Go.Proofs.YtgloielnnakknaaDoor
namespace Go.Proofs.YtgloielnnakknaaDoor
open Go.RowKit
def LI (s : Ld) : Prop := ∀ e ∈ s.log, e.name.size ≤ 200
def LR (us : List Un) (R : Ld → Nat → Ld × Bool) : Prop := ∀ s i, Inv us s → i < s.mods.length → LI s → LI (R s i).1
def LS (us : List Un) (St : Ld → Nat → Stp → Ld × Bool) : Prop := ∀ s i t, Inv us s → i < s.mods.length → (∃ u ∈ us, t ∈ u.steps) → LI s → LI (St s i t).1
theorem LI.note {s : Ld} (h : LI s) (k : Int) {n : ByteArray} (hn : n.size ≤ 200) : LI (noteS s k n) := by
  intro e he
  unfold noteS noteLog at he
  dsimp only at he
  split at he
  · exact h e he
  · rcases List.mem_append.1 he with he | he
    · exact h e he
    · simp at he; subst he; exact hn
end Go.Proofs.YtgloielnnakknaaDoor
namespace Go.Proofs.YtgloielnnakknaaDoor
open Go.RowKit
def no5 (l : List Stp) : Prop := ∀ t ∈ l, t.kind ≠ 5
structure Lb (l : List Un) : Prop where
  len : l.length ≤ 9000000000
  steps : ∀ u ∈ l, u.steps.length ≤ 9000000000
theorem Ix_un {l : List Un} {n : Int} {p : Nat} {u : Un} {K : List V → Prop} (hn : n = (p : Int)) (h : l[p]? = some u) (k : K u.row) : Ix (l.map Un.row) n K := by
  subst hn
  exact Ix.map rfl (lt_get h) (by rw [(List.getElem?_eq_some_iff.1 h).2]; exact k)
theorem Ix_st {l : List Stp} {n : Int} {p : Nat} {u : Stp} {K : List V → Prop} (hn : n = (p : Int)) (h : l[p]? = some u) (k : K u.row) : Ix (l.map Stp.row) n K := by
  subst hn
  exact Ix.map rfl (lt_get h) (by rw [(List.getElem?_eq_some_iff.1 h).2]; exact k)
theorem Rw_ev {l : List Ev} {n : Nat} {e : Ev} {K : List V → Prop} (h : l[n]? = some e) (k : K e.v) : Rw (l.map Ev.v) n K := ⟨_, by simp [h], k⟩
abbrev logA (log : List Ev) : Nat × Ob := (905, .ar 43 2 (log.map Ev.v))
end Go.Proofs.YtgloielnnakknaaDoor
namespace Go.Proofs.YtgloielnnakknaaDoor
open Go.RowKit
section
variable {P : Program} {T : List (Nat × Ty)} [hT : Tys P T] {nt : Nat} {Q : Exit → Act → World → Prop} {ty : TypeId} {pos : String} {af : Array Edge} {gd : Option (Nat × Bool)} {K : Kt}
omit hT in
/-- The same memory seen otherwise, then the operation. -/
theorem Raw.ghost {o : Oper} {tmT tmT' : List (Nat × SV)} {ob ob' : List (Nat × Ob)} (gh : Ghost tmT ob tmT' ob') (k : Raw P nt o tmT' ob' K) : Raw P nt o tmT ob K := ⟨fun Q c tm h ρ G g => ⟨fun a w ha hw => by
  obtain ⟨h1, ρ1, G1, k1, hw1⟩ := gh.out c tm h ρ G w g hw
  exact (k.out Q c tm h1 ρ1 G1 k1).out a w ha hw1⟩⟩
/-- A store that is reckoned. -/
theorem Raw.store {t : TypeId} {x y : Operand} {d : Option Tmp} {tmT : List (Nat × SV)} {ob : List (Nat × Ob)} (k : vcM P T nt false ⟨d, .store t x y, ty, pos, af, gd⟩ tmT ob K) : Raw P nt ⟨d, .store t x y, ty, pos, af, gd⟩ tmT ob K := ⟨fun _ _ _ _ _ _ g => store_sound (st := ⟨tmT, ob⟩) g k⟩
end
end Go.Proofs.YtgloielnnakknaaDoor
