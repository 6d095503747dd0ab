/-
  ModulesRunOnce, where what it reads is of bulk at most 1048576: for all units the law returns true, and the units read afterwards as they read before. The tables of unicode/utf8 are listed and tied to the library's text.
-/
import Derived.Test.YtgloielnnakknaaDoorQb4
namespace Go.Proofs.YtgloielnnakknaaDoor
open Go.RowKit
theorem uents_no (n : ByteArray) (z : List V) : ∀ us : List Un, hasU us n = false → mgetT (uents us) [.str n] z = z
  | [], _ => rfl
  | u :: r, h => by
    simp only [uents, List.map_cons, mgetT, eqC_sd, hasU] at *
    by_cases h' : n = u.name
    · rw [if_pos h'] at h; cases h
    · rw [if_neg h'] at h
      simp only [h', decide_false, cond_false]
      exact uents_no n z r h
def LoaC (us : List Un) (R : Ld → Nat → Ld × Bool) (n : Nat) : Prop := ∀ (mods : List Md) (table : List Nat) (log : List Ev) (full : Bool) (name : ByteArray) (zm : List Md) (zt : List Nat) (zl : List Ev) (zf zk : Bool), Inv us ⟨mods, table, log, full⟩ → RunB ⟨mods, table, log, full⟩ n → left ⟨mods, table, log, full⟩ ≤ n → name.size ≤ 1000 → loadW R us ⟨mods, table, log, full⟩ (chainM name) = (⟨zm, zt, zl, zf⟩, zk) → CallsA Tryd.prog 63 [ldP, dsr name] (ldOb us mods table log full) (Iso (db zk) (ldOb us zm zt zl zf))
theorem loadW_next {R : Ld → Nat → Ld × Bool} {us : List Un} {s : Ld} {l : List ByteArray} {q : Nat} {x : ByteArray} (h : l[q]? = some x) : loadW R us s (l.drop q) = match findS s x with
    | some j => loadW R us (noteS s (if 0 < runOf s j then 5 else 4) x) (l.drop (q + 1))
    | none => if hasU us x = true then (if (makeW R s x).2 = true then loadW R us (makeW R s x).1 (l.drop (q + 1)) else ((makeW R s x).1, false)) else (noteS s 6 x, false) := by
  have hq := lt_get h
  have e : l[q] = x := (List.getElem?_eq_some_iff.1 h).2
  rw [List.drop_eq_getElem_cons hq, loadW, e]
  cases findS s x <;> rfl
set_option maxHeartbeats 4000000 in
theorem load_C {us : List Un} (hU : Uok us) {R : Ld → Nat → Ld × Bool} (hP : RP us R) (n : Nat) (hn : n ≤ 6000) (hM : MakC us R n) : LoaC us R n := by
  intro mods table log full name rm rt rl rf rk hI hB hL hsz hr
  have hch := chain_T name (by omega)
  have hchn := chn_chain name
  have hxs := chain_size name
  have hcl := chain_len name
  generalize hl : chainM name = l at *
  refine callsA_of_vcO (T := tt) Tryd.func63 rfl rfl rfl rfl rfl ?_
  repeat' ((conv => whnf); first | refine Gs.id ?_ | (refine Bnd.mk (fun hm => ?_); (try simp only [smT] at hm)) | (refine CL.mk (Or.inl ?_); (conv => whnf); refine Cl.is (hch) rfl (by first | (intro e; cases e; done) | fail) ?_) | fail)
  all_goals (conv => whnf)
  refine ⟨⟨Ld × Nat, fun x => x.2 ≤ l.length ∧ loadW R us ⟨mods, table, log, full⟩ l = loadW R us x.1 (l.drop x.2) ∧ Inv us x.1 ∧ Keep ⟨mods, table, log, full⟩ x.1 ∧ (∀ p, x.2 = p + 1 → ∀ y, l[p]? = some y → ∃ j, findS x.1 y = some j), fun x => l.length - x.2, fun x => ⟨[(0, ldP), (4, db false), (12, .d (.u (strs' l))), (13, di l.length), (14, di x.2)], ldOb us x.1.mods x.1.table x.1.log x.1.full⟩, (⟨mods, table, log, full⟩, 0), ⟨Nat.zero_le _, rfl, hI, .refl _, fun p e => by cases e⟩, ⟨[(1, .k 1), (2, .k 2)], ⟨by (try dsimp only); (repeat (refine LeT.cons rfl (by first | exact LeS.d (by first | exact LeD.u rfl | exact LeD.u (by simp; done) | fail) | fail) ?_)); exact LeT.nil, by (try dsimp only); repeat (first | exact LeO.nil | refine LeO.fm rfl (by first | rfl | fail) ?_ | fail)⟩⟩, fun x hx => ?_⟩⟩
  obtain ⟨⟨m3, t3, l3, f3⟩, q⟩ := x
  obtain ⟨hq, he, hI3, hK3, hpv⟩ := hx
  dsimp only at hq he hI3 hK3 hpv ⊢
  rw [hr] at he
  have htl := hI3.tlen hU
  have hl5 := hI3.log
  have hB3 := hK3.runB hB (by omega)
  have hL3 := Nat.le_trans hK3.lf hL
  dsimp only at htl hl5
  by_cases h9 : q < l.length
  · obtain ⟨x, hx⟩ : ∃ x, l[q]? = some x := ⟨_, List.getElem?_eq_getElem h9⟩
    rw [loadW_next hx] at he
    have hrow : ∀ {K : List V → Prop}, K [V.str x] → Ix (strs l) (q : Int) K := fun k => Ix.map rfl h9 (by rw [(List.getElem?_eq_some_iff.1 hx).2]; exact k)
    have hxz := hxs x (List.mem_of_getElem? hx)
    have hfind := lfind_T us m3 t3 l3 f3 x (by omega) hI3.tab
    have hdot := hchn q x hx
    have hff : findS ⟨m3, t3, l3, f3⟩ x = tfind m3 x t3 := rfl
    have hget := (uents_get x [.str ⟨#[]⟩, .nl] us).1
    have hno := uents_no x [.str ⟨#[]⟩, .nl] us
    have hhs := (uents_get x [.str ⟨#[]⟩, .nl] us).2
    have huok := uents_ok us
    rcases hf : tfind m3 x t3 with _ | j
    · rw [hf] at hfind hff
      rw [hff] at he
      simp only at he
      cases hh : hasU us x
      · rw [hh] at he hhs
        rw [if_neg (by simp)] at he
        have hno := hno hh
        have hnz := note_T us m3 t3 l3 f3 6 x hl5
        injection he with p1 p2
        injection p1 with p3 p4 p5 p6
        subst p2 p3 p4 p5 p6
        repeat' ((conv => whnf); first | refine hrow ?_ | refine Mlk.of _ _ (by kernel_rfl) huok hno hhs ?_ | refine Gs.id ?_ | with_reducible refine Brn.T rfl ?_ | with_reducible refine Brn.F rfl ?_ | refine Brn.T (by (try simp only [smT]); first | rfl | omega | fail) ?_ | refine Rw.lit rfl ?_ | (refine CL.mk (Or.inr (Raw.callI [1,2] [1,2] rfl rfl rfl rfl rfl rfl rfl (hfind) ?_)); rintro _ _ ⟨rfl, rfl⟩; refine Bk.mk rfl rfl ?_) | (refine CL.mk (Or.inr (Raw.callI [1,2] [1,2] rfl rfl rfl rfl rfl rfl rfl (hnz) ?_)); rintro _ _ ⟨rfl, rfl⟩; refine Bk.mk rfl rfl ?_))
        all_goals (conv => whnf)
        all_goals exact RetO.mk ⟨[], _, _, (by first | exact LeS.d (by first | exact LeD.u rfl | fail) | fail), LeO.fm rfl rfl (LeO.fm rfl rfl .nil), rfl, rfl⟩
      · rw [hh] at hhs
        rw [hh, if_pos rfl] at he
        have hget := hget hh
        have hgo := makeW_P hP hI3 hh hff
        have hpar : 0 ≤ dotAt x → ∃ p, parS ⟨m3, t3, l3, f3⟩ x = some p := fun hd => by
          rcases hdot with ⟨h1, _⟩ | ⟨_, p, h2, h3⟩
          · omega
          · obtain ⟨j, hj⟩ := hpv p h2 _ h3
            exact ⟨j, par_push hI3 hd hj⟩
        generalize hz : makeW R ⟨m3, t3, l3, f3⟩ x = z at he hgo
        obtain ⟨⟨zm, zt, zl, zf⟩, zk⟩ := z
        have hmk := hM _ _ _ _ _ zm zt zl zf zk hI3 hB3 hL3 hh hff hpar hz
        obtain ⟨hg3, hfz⟩ := hgo
        dsimp only at hfz he
        cases zk
        · rw [if_neg (by simp)] at he
          injection he with p1 p2
          injection p1 with p3 p4 p5 p6
          subst p2 p3 p4 p5 p6
          repeat' ((conv => whnf); first | refine hrow ?_ | refine Mlk.of _ _ (by kernel_rfl) huok hget hhs ?_ | refine Gs.id ?_ | with_reducible refine Brn.T rfl ?_ | with_reducible refine Brn.F rfl ?_ | refine Brn.T (by (try simp only [smT]); first | rfl | omega | fail) ?_ | refine Rw.lit rfl ?_ | (refine CL.mk (Or.inr (Raw.callI [1,2] [1,2] rfl rfl rfl rfl rfl rfl rfl (hfind) ?_)); rintro _ _ ⟨rfl, rfl⟩; refine Bk.mk rfl rfl ?_) | (refine CL.mk (Or.inr (Raw.callI [1,2] [1,2] rfl rfl rfl rfl rfl rfl rfl (hmk) ?_)); rintro _ _ ⟨rfl, rfl⟩; refine Bk.mk rfl rfl ?_))
          all_goals (conv => whnf)
          all_goals exact RetO.mk ⟨[], _, _, (by first | exact LeS.d (by first | exact LeD.u rfl | fail) | fail), LeO.fm rfl rfl (LeO.fm rfl rfl .nil), rfl, rfl⟩
        · rw [if_pos rfl] at he
          repeat' ((conv => whnf); first | refine hrow ?_ | refine Mlk.of _ _ (by kernel_rfl) huok hget hhs ?_ | refine Gs.id ?_ | with_reducible refine Brn.F rfl ?_ | refine Brn.T (by (try simp only [smT]); first | rfl | omega | fail) ?_ | refine Rng.mk (by (try simp only [smT]); omega) ?_ | refine Rw.lit rfl ?_ | (refine CL.mk (Or.inr (Raw.callI [1,2] [1,2] rfl rfl rfl rfl rfl rfl rfl (hfind) ?_)); rintro _ _ ⟨rfl, rfl⟩; refine Bk.mk rfl rfl ?_) | (refine CL.mk (Or.inr (Raw.callI [1,2] [1,2] rfl rfl rfl rfl rfl rfl rfl (hmk) ?_)); rintro _ _ ⟨rfl, rfl⟩; refine Bk.mk rfl rfl ?_))
          all_goals (conv => whnf)
          all_goals exact ⟨(⟨zm, zt, zl, zf⟩, q + 1), ⟨by dsimp only; omega, by rw [hr]; exact he, hg3.inv, hK3.trans hg3.keep, fun p e y hy => by
            obtain rfl : q = p := by dsimp only at e; omega
            rw [hx] at hy; injection hy with hy; subst hy; exact hfz rfl⟩, by dsimp only; omega, [(1, .k 1), (2, .k 2)], ⟨by (try dsimp only); (repeat (refine LeT.cons rfl (by first | exact LeS.d (by first | exact LeD.u rfl | fail) | fail) ?_)); exact LeT.nil, by (try dsimp only); repeat (first | exact LeO.nil | refine LeO.fm rfl (by first | rfl | fail) ?_ | fail)⟩⟩
    · rw [hf] at hfind hff
      rw [hff] at he
      simp only at he
      have hjl := hI3.find j hff
      dsimp only at hjl
      obtain ⟨⟨jn, jr, ja⟩, hjm⟩ : ∃ m, m3[j]? = some m := ⟨_, List.getElem?_eq_getElem hjl⟩
      have hro : runOf ⟨m3, t3, l3, f3⟩ j = jr := by simp [runOf, hjm]
      rw [hro] at he
      have hfz : ∀ k : Int, ∃ j, findS (noteS ⟨m3, t3, l3, f3⟩ k x) x = some j := fun k => ⟨j, hff⟩
      by_cases hrun : 0 < jr
      · rw [if_pos hrun] at he
        have hnz := note_T us m3 t3 l3 f3 5 x hl5
        repeat' ((conv => whnf); first | refine hrow ?_ | refine Rw_md hjm ?_ | refine Gs.id ?_ | with_reducible refine Brn.T rfl ?_ | refine Brn.T (by (try simp only [smT]); first | rfl | assumption | omega | fail) ?_ | refine Rng.mk (by (try simp only [smT]); omega) ?_ | (refine CL.mk (Or.inr (Raw.callI [1,2] [1,2] rfl rfl rfl rfl rfl rfl rfl (hfind) ?_)); rintro _ _ ⟨rfl, rfl⟩; refine Bk.mk rfl rfl ?_) | (refine CL.mk (Or.inr (Raw.callI [1,2] [1,2] rfl rfl rfl rfl rfl rfl rfl (hnz) ?_)); rintro _ _ ⟨rfl, rfl⟩; refine Bk.mk rfl rfl ?_))
        all_goals (conv => whnf)
        all_goals exact ⟨(noteS ⟨m3, t3, l3, f3⟩ 5 x, q + 1), ⟨by dsimp only; omega, by rw [hr]; exact he, hI3.note _ _, hK3.trans (.note _ _ _ hl5), fun p e y hy => by
          obtain rfl : q = p := by dsimp only at e; omega
          rw [hx] at hy; injection hy with hy; subst hy; exact hfz _⟩, by dsimp only; omega, [(1, .k 1), (2, .k 2)], ⟨by (try dsimp only); (repeat (refine LeT.cons rfl (by first | exact LeS.d (by first | exact LeD.u rfl | fail) | fail) ?_)); exact LeT.nil, by (try dsimp only); repeat (first | exact LeO.nil | refine LeO.fm rfl (by first | rfl | fail) ?_ | fail)⟩⟩
      · rw [if_neg hrun] at he
        have hnz := note_T us m3 t3 l3 f3 4 x hl5
        repeat' ((conv => whnf); first | refine hrow ?_ | refine Rw_md hjm ?_ | refine Gs.id ?_ | with_reducible refine Brn.T rfl ?_ | refine Brn.T (by (try simp only [smT]); first | rfl | omega | fail) ?_ | refine Brn.F (by (try simp only [smT]); first | rfl | omega | fail) ?_ | refine Rng.mk (by (try simp only [smT]); omega) ?_ | (refine CL.mk (Or.inr (Raw.callI [1,2] [1,2] rfl rfl rfl rfl rfl rfl rfl (hfind) ?_)); rintro _ _ ⟨rfl, rfl⟩; refine Bk.mk rfl rfl ?_) | (refine CL.mk (Or.inr (Raw.callI [1,2] [1,2] rfl rfl rfl rfl rfl rfl rfl (hnz) ?_)); rintro _ _ ⟨rfl, rfl⟩; refine Bk.mk rfl rfl ?_))
        all_goals (conv => whnf)
        all_goals exact ⟨(noteS ⟨m3, t3, l3, f3⟩ 4 x, q + 1), ⟨by dsimp only; omega, by rw [hr]; exact he, hI3.note _ _, hK3.trans (.note _ _ _ hl5), fun p e y hy => by
          obtain rfl : q = p := by dsimp only at e; omega
          rw [hx] at hy; injection hy with hy; subst hy; exact hfz _⟩, by dsimp only; omega, [(1, .k 1), (2, .k 2)], ⟨by (try dsimp only); (repeat (refine LeT.cons rfl (by first | exact LeS.d (by first | exact LeD.u rfl | fail) | fail) ?_)); exact LeT.nil, by (try dsimp only); repeat (first | exact LeO.nil | refine LeO.fm rfl (by first | rfl | fail) ?_ | fail)⟩⟩
  · obtain rfl : q = l.length := by omega
    rw [List.drop_length, loadW] at he
    injection he with p1 p2
    injection p1 with p3 p4 p5 p6
    subst p2 p3 p4 p5 p6
    repeat' ((conv => whnf); first | refine Gs.id ?_ | refine Brn.F (by (try simp only [smT]); first | rfl | omega | fail) ?_ | fail)
    all_goals (conv => whnf)
    all_goals exact RetO.mk ⟨[], _, _, (by first | exact LeS.d (by first | exact LeD.u rfl | fail) | fail), LeO.fm rfl rfl (LeO.fm rfl rfl .nil), rfl, rfl⟩
end Go.Proofs.YtgloielnnakknaaDoor
namespace Go.Proofs.YtgloielnnakknaaDoor
open Go.RowKit
set_option maxHeartbeats 4000000 in
theorem stepA_C {us : List Un} (hU : Uok us) {R : Ld → Nat → Ld × Bool} (n : Nat) (hC : RunC us R n) (mods : List Md) (table : List Nat) (log : List Ev) (full : Bool) (i : Nat) (tk : Int) (tn tp : ByteArray) (rm : List Md) (rt : List Nat) (rl : List Ev) (rf rk : Bool) (hI : Inv us ⟨mods, table, log, full⟩) (hB : RunB ⟨mods, table, log, full⟩ n) (hi : i < mods.length) (hL : left ⟨mods, table, log, full⟩ ≤ n) (hk : tk = 1 ∨ tk = 2 ∨ tk = 5)
    (hr : stepW R us ⟨mods, table, log, full⟩ i ⟨tk, tn, tp⟩ = (⟨rm, rt, rl, rf⟩, rk)) : CallsA Tryd.prog 49 [ldP, mdP i, .a [.u (.int .i64 tk), .u (.str tn), .u (.str tp)]] (ldOb us mods table log full) (Iso (db rk) (ldOb us rm rt rl rf)) := by
  obtain ⟨⟨mn, mr, ma⟩, hmd⟩ : ∃ m, mods[i]? = some m := ⟨_, List.getElem?_eq_getElem hi⟩
  have hal := hI.alen hU (List.mem_of_getElem? hmd)
  have htl := hI.tlen hU
  dsimp only at hal htl
  have hats : atsS ⟨mods, table, log, full⟩ i = ma := by simp [atsS, hmd]
  unfold stepW at hr
  dsimp only at hr
  rcases hk with rfl | rfl | rfl
  · rw [if_pos rfl] at hr
    simp only [setS, updS, upd_at hmd] at hr
    injection hr with p1 p2
    injection p1 with p3 p4 p5 p6
    subst p2 p3 p4 p5 p6
    have hset := mset_T us mods table log full i mn mr ma hmd (by omega) tn none
    refine callsA_of_vcO (T := tt) Tryd.func49 rfl rfl rfl rfl rfl ?_
    repeat' ((conv => whnf); first | refine Gs.id ?_ | with_reducible refine Brn.T rfl ?_ | (refine CL.mk (Or.inr (Raw.callI [1,2] [1,2] rfl rfl rfl rfl rfl rfl rfl (hset) ?_)); rintro _ _ ⟨rfl, rfl⟩; refine Bk.mk rfl rfl ?_))
    all_goals (conv => whnf)
    all_goals exact RetO.mk ⟨[], _, _, (by first | exact LeS.d (by first | exact LeD.u rfl | fail) | fail), LeO.fm rfl rfl (LeO.fm rfl rfl .nil), rfl, rfl⟩
  · rw [if_neg (by decide), if_pos rfl, hats] at hr
    have hf := mfind_T us mods table log full i mn mr ma hmd (by omega) tn
    rcases aix_cases tn ma 0 with ⟨h1, h2, _, _, _⟩ | ⟨kk, a, h1, h2, _, h4, h5, _⟩
    · rw [h2, if_neg (by simp)] at hr
      rw [h1] at hf
      injection hr with p1 p2
      injection p1 with p3 p4 p5 p6
      subst p2 p3 p4 p5 p6
      refine callsA_of_vcO (T := tt) Tryd.func49 rfl rfl rfl rfl rfl ?_
      repeat' ((conv => whnf); first | refine Gs.id ?_ | with_reducible refine Brn.T rfl ?_ | with_reducible refine Brn.F rfl ?_ | (refine CL.mk (Or.inr (Raw.callI [1,2] [1,2] rfl rfl rfl rfl rfl rfl rfl (hf) ?_)); rintro _ _ ⟨rfl, rfl⟩; refine Bk.mk rfl rfl ?_))
      all_goals (conv => whnf)
      all_goals exact RetO.mk ⟨[], _, _, (by first | exact LeS.d (by first | exact LeD.u rfl | fail) | fail), LeO.fm rfl rfl (LeO.fm rfl rfl .nil), rfl, rfl⟩
    · rw [h4] at hr
      simp only [Option.isSome_some, if_true, dropS, updS, upd_at hmd, h5] at hr
      rw [h2, Nat.zero_add] at hf
      have hdrop := mdrop_T us mods table log full i mn mr ma hmd (by omega) kk (lt_get h1)
      injection hr with p1 p2
      injection p1 with p3 p4 p5 p6
      subst p2 p3 p4 p5 p6
      refine callsA_of_vcO (T := tt) Tryd.func49 rfl rfl rfl rfl rfl ?_
      repeat' ((conv => whnf); first | refine Gs.id ?_ | with_reducible refine Brn.T rfl ?_ | with_reducible refine Brn.F rfl ?_ | (refine CL.mk (Or.inr (Raw.callI [1,2] [1,2] rfl rfl rfl rfl rfl rfl rfl (hf) ?_)); rintro _ _ ⟨rfl, rfl⟩; refine Bk.mk rfl rfl ?_) | (refine CL.mk (Or.inr (Raw.callI [1,2] [1,2] rfl rfl rfl rfl rfl rfl rfl (hdrop) ?_)); rintro _ _ ⟨rfl, rfl⟩; refine Bk.mk rfl rfl ?_))
      all_goals (conv => whnf)
      all_goals exact RetO.mk ⟨[], _, _, .d (LeD.u (by simp)), LeO.fm rfl rfl (LeO.fm rfl rfl .nil), rfl, rfl⟩
  · rw [if_neg (by decide), if_neg (by decide), if_pos rfl] at hr
    have hfind := lfind_T us mods table log full tn (by omega) hI.tab
    have hff : findS ⟨mods, table, log, full⟩ tn = tfind mods tn table := rfl
    rcases hf : tfind mods tn table with _ | j
    · rw [hf] at hfind hff
      rw [hff] at hr
      simp only at hr
      injection hr with p1 p2
      injection p1 with p3 p4 p5 p6
      subst p2 p3 p4 p5 p6
      refine callsA_of_vcO (T := tt) Tryd.func49 rfl rfl rfl rfl rfl ?_
      repeat' ((conv => whnf); first | refine Gs.id ?_ | with_reducible refine Brn.T rfl ?_ | with_reducible refine Brn.F rfl ?_ | (refine CL.mk (Or.inr (Raw.callI [1,2] [1,2] rfl rfl rfl rfl rfl rfl rfl (hfind) ?_)); rintro _ _ ⟨rfl, rfl⟩; refine Bk.mk rfl rfl ?_))
      all_goals (conv => whnf)
      all_goals exact RetO.mk ⟨[], _, _, (by first | exact LeS.d (by first | exact LeD.u rfl | fail) | fail), LeO.fm rfl rfl (LeO.fm rfl rfl .nil), rfl, rfl⟩
    · rw [hf] at hfind hff
      rw [hff] at hr
      simp only at hr
      have hrun := hC _ _ _ _ j rm rt rl rf rk _ _ hI hB (hI.find j hff) hL hr rfl rfl
      refine callsA_of_vcO (T := tt) Tryd.func49 rfl rfl rfl rfl rfl ?_
      repeat' ((conv => whnf); first | refine Gs.id ?_ | with_reducible refine Brn.T rfl ?_ | with_reducible refine Brn.F rfl ?_ | (refine CL.mk (Or.inr (Raw.callI [1,2] [1,2] rfl rfl rfl rfl rfl rfl rfl (hfind) ?_)); rintro _ _ ⟨rfl, rfl⟩; refine Bk.mk rfl rfl ?_) | (refine CL.mk (Or.inr (Raw.callI [1,2] [1,2] rfl rfl rfl rfl rfl rfl rfl (hrun) ?_)); rintro _ _ ⟨rfl, rfl⟩; refine Bk.mk rfl rfl ?_))
      all_goals (conv => whnf)
      all_goals exact RetO.mk ⟨[], _, _, (by first | exact LeS.d (by first | exact LeD.u rfl | fail) | fail), LeO.fm rfl rfl (LeO.fm rfl rfl .nil), rfl, rfl⟩
set_option maxHeartbeats 4000000 in
theorem stepB_C {us : List Un} (hU : Uok us) {R : Ld → Nat → Ld × Bool} (hP : RP us R) (n : Nat) (hn : n ≤ 6000) (hC : LoaC us R n) (mods : List Md) (table : List Nat) (log : List Ev) (full : Bool) (i : Nat) (tk : Int) (tn tp : ByteArray) (rm : List Md) (rt : List Nat) (rl : List Ev) (rf rk : Bool) (hI : Inv us ⟨mods, table, log, full⟩) (hB : RunB ⟨mods, table, log, full⟩ n) (hi : i < mods.length) (hL : left ⟨mods, table, log, full⟩ ≤ n) (hk1 : ¬ tk = 1) (hk2 : ¬ tk = 2) (hk5 : ¬ tk = 5) (ht : tn.size ≤ 60 ∧ tp.size ≤ 60)
    (hr : stepW R us ⟨mods, table, log, full⟩ i ⟨tk, tn, tp⟩ = (⟨rm, rt, rl, rf⟩, rk)) : CallsA Tryd.prog 49 [ldP, mdP i, .a [.u (.int .i64 tk), .u (.str tn), .u (.str tp)]] (ldOb us mods table log full) (Iso (db rk) (ldOb us rm rt rl rf)) := by
  obtain ⟨ht1, ht2⟩ := ht
  unfold stepW at hr
  dsimp only at hr
  rw [if_neg hk1, if_neg hk2, if_neg hk5] at hr
  have hgo := loadW_P hP (chainM tn) _ hI
  have hcut := cut_T tn (by omega)
  generalize hz : loadW R us ⟨mods, table, log, full⟩ (chainM tn) = z at hr hgo
  obtain ⟨⟨zm, zt, zl, zf⟩, zk⟩ := z
  have hload := hC _ _ _ _ _ zm zt zl zf zk hI hB hL (by omega) hz
  dsimp only at hr
  cases zk
  · rw [if_neg (by simp)] at hr
    injection hr with p1 p2
    injection p1 with p3 p4 p5 p6
    subst p2 p3 p4 p5 p6
    refine callsA_of_vcO (T := tt) Tryd.func49 rfl rfl rfl rfl rfl ?_
    repeat' ((conv => whnf); first | refine Gs.id ?_ | with_reducible refine Brn.T rfl ?_ | refine Brn.F (by (try simp only [smT]); first | rfl | assumption | fail) ?_ | (refine CL.mk (Or.inr (Raw.callI [1,2] [1,2] rfl rfl rfl rfl rfl rfl rfl (hload) ?_)); rintro _ _ ⟨rfl, rfl⟩; refine Bk.mk rfl rfl ?_))
    all_goals (conv => whnf)
    all_goals exact RetO.mk ⟨[], _, _, (by first | exact LeS.d (by first | exact LeD.u rfl | fail) | fail), LeO.fm rfl rfl (LeO.fm rfl rfl .nil), rfl, rfl⟩
  · rw [if_pos rfl] at hr
    have hI1 := hgo.inv
    have hiz : i < zm.length := Nat.lt_of_lt_of_le hi hgo.keep.len
    obtain ⟨⟨mn, mr, ma⟩, hmd⟩ : ∃ m, zm[i]? = some m := ⟨_, List.getElem?_eq_getElem hiz⟩
    have hal := hI1.alen hU (List.mem_of_getElem? hmd)
    have htl := hI1.tlen hU
    dsimp only at hal htl
    by_cases hk3 : tk = 3
    · subst hk3
      rw [if_pos rfl] at hr
      simp only [setS, updS, upd_at hmd, findS] at hr
      injection hr with p1 p2
      injection p1 with p3 p4 p5 p6
      have hfind := lfind_T us zm zt zl zf (cutM tn) (by omega) hI1.tab
      have hset := mset_T us zm zt zl zf i mn mr ma hmd (by omega) (cutM tn) (tfind zm (cutM tn) zt)
      subst p2 p3 p4 p5 p6
      refine callsA_of_vcO (T := tt) Tryd.func49 rfl rfl rfl rfl rfl ?_
      repeat' ((conv => whnf); first | refine Gs.id ?_ | with_reducible refine Brn.T rfl ?_ | with_reducible refine Brn.F rfl ?_ | (refine CL.mk (Or.inl ?_); (conv => whnf); refine Cl.is (hcut) rfl (by first | exact fun _ => rfl | fail) ?_) | (refine CL.mk (Or.inr (Raw.callI [1,2] [1,2] rfl rfl rfl rfl rfl rfl rfl (hload) ?_)); rintro _ _ ⟨rfl, rfl⟩; refine Bk.mk rfl rfl ?_) | (refine CL.mk (Or.inr (Raw.callI [1,2] [1,2] rfl rfl rfl rfl rfl rfl rfl (hfind) ?_)); rintro _ _ ⟨rfl, rfl⟩; refine Bk.mk rfl rfl ?_) | (refine CL.mk (Or.inr (Raw.callI [1,2] [1,2] rfl rfl rfl rfl rfl rfl rfl (hset) ?_)); rintro _ _ ⟨rfl, rfl⟩; refine Bk.mk rfl rfl ?_))
      all_goals (conv => whnf)
      all_goals exact RetO.mk ⟨[], _, _, (by first | exact LeS.d (by first | exact LeD.u rfl | fail) | fail), LeO.fm rfl rfl (LeO.fm rfl rfl .nil), rfl, rfl⟩
    · rw [if_neg hk3] at hr
      have hfrom := lfind_T us zm zt zl zf tn (by omega) hI1.tab
      have hff : findS ⟨zm, zt, zl, zf⟩ tn = tfind zm tn zt := rfl
      unfold partW at hr
      dsimp only at hr
      rcases hf : tfind zm tn zt with _ | j
      · rw [hf] at hfrom hff
        rw [hff] at hr
        simp only at hr
        injection hr with p1 p2
        injection p1 with p3 p4 p5 p6
        subst p2 p3 p4 p5 p6
        refine callsA_of_vcO (T := tt) Tryd.func49 rfl rfl rfl rfl rfl ?_
        repeat' ((conv => whnf); first | refine Gs.id ?_ | with_reducible refine Brn.T rfl ?_ | with_reducible refine Brn.F rfl ?_ | refine Brn.F (by (try simp only [smT]); first | rfl | assumption | fail) ?_ | (refine CL.mk (Or.inr (Raw.callI [1,2] [1,2] rfl rfl rfl rfl rfl rfl rfl (hload) ?_)); rintro _ _ ⟨rfl, rfl⟩; refine Bk.mk rfl rfl ?_) | (refine CL.mk (Or.inr (Raw.callI [1,2] [1,2] rfl rfl rfl rfl rfl rfl rfl (hfrom) ?_)); rintro _ _ ⟨rfl, rfl⟩; refine Bk.mk rfl rfl ?_))
        all_goals (conv => whnf)
        all_goals exact RetO.mk ⟨[], _, _, (by first | exact LeS.d (by first | exact LeD.u rfl | fail) | fail), LeO.fm rfl rfl (LeO.fm rfl rfl .nil), rfl, rfl⟩
      · rw [hf] at hfrom hff
        rw [hff] at hr
        simp only at hr
        have hjz := hI1.find j hff
        dsimp only at hjz
        obtain ⟨⟨jn, jr, ja⟩, hjm⟩ : ∃ m, zm[j]? = some m := ⟨_, List.getElem?_eq_getElem hjz⟩
        have hjl := hI1.alen hU (List.mem_of_getElem? hjm)
        dsimp only at hjl
        have hats : atsS ⟨zm, zt, zl, zf⟩ j = ja := by simp [atsS, hjm]
        rw [hats] at hr
        have hpf := mfind_T us zm zt zl zf j jn jr ja hjm (by omega) tp
        rcases aix_cases tp ja 0 with ⟨h1, h2, _, _, _⟩ | ⟨kk, a, h1, h2, _, h4, _, _⟩
        · rw [h2] at hr
          rw [h1] at hpf
          simp only at hr
          have hd1 : dot.size = 1 := rfl
          have hws : (wholeB ⟨tk, tn, tp⟩).size ≤ 121 := by simp only [wholeB, ByteArray.size_append, hd1]; omega
          have hwe : wholeB ⟨tk, tn, tp⟩ = tn ++ dot ++ tp := rfl
          have hget := (uents_get (tn ++ dot ++ tp) [.str ⟨#[]⟩, .nl] us).1
          have hno := uents_no (tn ++ dot ++ tp) [.str ⟨#[]⟩, .nl] us
          have hhs := (uents_get (tn ++ dot ++ tp) [.str ⟨#[]⟩, .nl] us).2
          have huok := uents_ok us
          rw [hwe] at hr hws
          have hcat : (tn ++ dot).size ≤ 61 := by simp only [ByteArray.size_append, hd1]; omega
          cases hh : hasU us (tn ++ dot ++ tp)
          · rw [hh] at hr hhs
            have hno := hno hh
            rw [if_neg (by simp)] at hr
            injection hr with p1 p2
            injection p1 with p3 p4 p5 p6
            subst p2 p3 p4 p5 p6
            refine callsA_of_vcO (T := tt) Tryd.func49 rfl rfl rfl rfl rfl ?_
            repeat' ((conv => whnf); first | refine Cat.mk (by have hd2 : (⟨#[46]⟩ : ByteArray).size = 1 := rfl; unfold maxLen; simp only [ByteArray.size_append, hd2]; omega) ?_ | refine Mlk.of _ _ (by kernel_rfl) huok hno hhs ?_ | refine Gs.id ?_ | with_reducible refine Brn.T rfl ?_ | with_reducible refine Brn.F rfl ?_ | refine Brn.F (by (try simp only [smT]); first | rfl | assumption | fail) ?_ | refine Rw.lit rfl ?_ | (refine CL.mk (Or.inr (Raw.callI [1,2] [1,2] rfl rfl rfl rfl rfl rfl rfl (hload) ?_)); rintro _ _ ⟨rfl, rfl⟩; refine Bk.mk rfl rfl ?_) | (refine CL.mk (Or.inr (Raw.callI [1,2] [1,2] rfl rfl rfl rfl rfl rfl rfl (hfrom) ?_)); rintro _ _ ⟨rfl, rfl⟩; refine Bk.mk rfl rfl ?_) | (refine CL.mk (Or.inr (Raw.callI [1,2] [1,2] rfl rfl rfl rfl rfl rfl rfl (hpf) ?_)); rintro _ _ ⟨rfl, rfl⟩; refine Bk.mk rfl rfl ?_))
            all_goals (conv => whnf)
            all_goals exact RetO.mk ⟨[], _, _, (by first | exact LeS.d (by first | exact LeD.u rfl | fail) | fail), LeO.fm rfl rfl (LeO.fm rfl rfl .nil), rfl, rfl⟩
          · rw [hh] at hhs
            have hget := hget hh
            rw [hh, if_pos rfl] at hr
            have hB1 := hgo.keep.runB hB (by omega)
            have hL1 := Nat.le_trans hgo.keep.lf hL
            have hg2 := loadW_P hP (chainM (tn ++ dot ++ tp)) _ hI1
            generalize hz2 : loadW R us ⟨zm, zt, zl, zf⟩ (chainM (tn ++ dot ++ tp)) = z2 at hr hg2
            obtain ⟨⟨ym, yt, yl, yf⟩, yk⟩ := z2
            have hload2 := hC _ _ _ _ _ ym yt yl yf yk hI1 hB1 hL1 (by omega) hz2
            dsimp only at hr
            cases yk
            · rw [if_neg (by simp)] at hr
              injection hr with p1 p2
              injection p1 with p3 p4 p5 p6
              subst p2 p3 p4 p5 p6
              refine callsA_of_vcO (T := tt) Tryd.func49 rfl rfl rfl rfl rfl ?_
              repeat' ((conv => whnf); first | refine Cat.mk (by have hd2 : (⟨#[46]⟩ : ByteArray).size = 1 := rfl; unfold maxLen; simp only [ByteArray.size_append, hd2]; omega) ?_ | refine Mlk.of _ _ (by kernel_rfl) huok hget hhs ?_ | refine Gs.id ?_ | with_reducible refine Brn.T rfl ?_ | with_reducible refine Brn.F rfl ?_ | refine Brn.F (by (try simp only [smT]); first | rfl | assumption | fail) ?_ | refine Rw.lit rfl ?_ | (refine CL.mk (Or.inr (Raw.callI [1,2] [1,2] rfl rfl rfl rfl rfl rfl rfl (hload) ?_)); rintro _ _ ⟨rfl, rfl⟩; refine Bk.mk rfl rfl ?_) | (refine CL.mk (Or.inr (Raw.callI [1,2] [1,2] rfl rfl rfl rfl rfl rfl rfl (hfrom) ?_)); rintro _ _ ⟨rfl, rfl⟩; refine Bk.mk rfl rfl ?_) | (refine CL.mk (Or.inr (Raw.callI [1,2] [1,2] rfl rfl rfl rfl rfl rfl rfl (hpf) ?_)); rintro _ _ ⟨rfl, rfl⟩; refine Bk.mk rfl rfl ?_) | (refine CL.mk (Or.inr (Raw.callI [1,2] [1,2] rfl rfl rfl rfl rfl rfl rfl (hload2) ?_)); rintro _ _ ⟨rfl, rfl⟩; refine Bk.mk rfl rfl ?_))
              all_goals (conv => whnf)
              all_goals exact RetO.mk ⟨[], _, _, (by first | exact LeS.d (by first | exact LeD.u rfl | fail) | fail), LeO.fm rfl rfl (LeO.fm rfl rfl .nil), rfl, rfl⟩
            · rw [if_pos rfl] at hr
              have hiy : i < ym.length := Nat.lt_of_lt_of_le hiz hg2.keep.len
              obtain ⟨⟨mn2, mr2, ma2⟩, hmd2⟩ : ∃ m, ym[i]? = some m := ⟨_, List.getElem?_eq_getElem hiy⟩
              have hal2 := hg2.inv.alen hU (List.mem_of_getElem? hmd2)
              have htl2 := hg2.inv.tlen hU
              dsimp only at hal2 htl2
              simp only [setS, updS, upd_at hmd2, findS] at hr
              injection hr with p1 p2
              injection p1 with p3 p4 p5 p6
              have hfind2 := lfind_T us ym yt yl yf (tn ++ dot ++ tp) (by omega) hg2.inv.tab
              have hset2 := mset_T us ym yt yl yf i mn2 mr2 ma2 hmd2 (by omega) tp (tfind ym (tn ++ dot ++ tp) yt)
              subst p2 p3 p4 p5 p6
              refine callsA_of_vcO (T := tt) Tryd.func49 rfl rfl rfl rfl rfl ?_
              repeat' ((conv => whnf); first | refine Cat.mk (by have hd2 : (⟨#[46]⟩ : ByteArray).size = 1 := rfl; unfold maxLen; simp only [ByteArray.size_append, hd2]; omega) ?_ | refine Mlk.of _ _ (by kernel_rfl) huok hget hhs ?_ | refine Drw.ghost (i := 30) (Ghost.frzB 5 rfl rfl) ?_ | refine Gs.id ?_ | with_reducible refine Brn.F rfl ?_ | refine Brn.F (by (try simp only [smT]); first | rfl | assumption | fail) ?_ | refine Rw.lit rfl ?_ | refine Drw.ofP (T := tt) (i := 30) [5, 6] [0, 1, 2, 3, 4] [0, 1, 2, 3, 4] (OT.alt 5 (OT.alt 6 OT.nil OT.nil) OT.nil) (by kernel_rfl) ?_ | (refine CL.mk (Or.inr (Raw.callI [1,2] [1,2] rfl rfl rfl rfl rfl rfl rfl (hload) ?_)); rintro _ _ ⟨rfl, rfl⟩; refine Bk.mk rfl rfl ?_) | (refine CL.mk (Or.inr (Raw.callI [1,2] [1,2] rfl rfl rfl rfl rfl rfl rfl (hfrom) ?_)); rintro _ _ ⟨rfl, rfl⟩; refine Bk.mk rfl rfl ?_) | (refine CL.mk (Or.inr (Raw.callI [1,2] [1,2] rfl rfl rfl rfl rfl rfl rfl (hpf) ?_)); rintro _ _ ⟨rfl, rfl⟩; refine Bk.mk rfl rfl ?_) | (refine CL.mk (Or.inr (Raw.callI [1,2] [1,2] rfl rfl rfl rfl rfl rfl rfl (hload2) ?_)); rintro _ _ ⟨rfl, rfl⟩; refine Bk.mk rfl rfl ?_) | (refine CL.mk (Or.inr (Raw.callI [1,2] [1,2] rfl rfl rfl rfl rfl rfl rfl (hfind2) ?_)); rintro _ _ ⟨rfl, rfl⟩; refine Bk.mk rfl rfl ?_) | (refine CL.mk (Or.inr (Raw.callI [1,2] [1,2] rfl rfl rfl rfl rfl rfl rfl (hset2) ?_)); rintro _ _ ⟨rfl, rfl⟩; refine Bk.mk rfl rfl ?_))
              all_goals (conv => whnf)
              all_goals exact RetO.mk ⟨[], _, _, (by first | exact LeS.d (by first | exact LeD.u rfl | fail) | fail), LeO.fm rfl rfl (LeO.fm rfl rfl .nil), rfl, rfl⟩
        · obtain ⟨an, am⟩ := a
          dsimp only at h4
          rw [h4] at hr
          rw [h2, Nat.zero_add] at hpf
          have hkl := lt_get h1
          simp only [setS, updS, upd_at hmd] at hr
          injection hr with p1 p2
          injection p1 with p3 p4 p5 p6
          have hset := mset_T us zm zt zl zf i mn mr ma hmd (by omega) tp am
          subst p2 p3 p4 p5 p6
          refine callsA_of_vcO (T := tt) Tryd.func49 rfl rfl rfl rfl rfl ?_
          repeat' ((conv => whnf); first | refine Rw_md hjm ?_ | refine Rw_at h1 ?_ | refine Drw.ghost (i := 24) (Ghost.frzB 5 rfl rfl) ?_ | refine Gs.id ?_ | with_reducible refine Brn.T rfl ?_ | with_reducible refine Brn.F rfl ?_ | refine Brn.F (by (try simp only [smT]); first | rfl | assumption | fail) ?_ | refine Ixo.mk ⟨_, rfl, (by (try simp only [smT]); omega), ?_⟩ | refine Drw.ofP (T := tt) (i := 24) [6, 8, 9, 10, 11] [0, 1, 2, 3, 4, 5, 7] [0, 1, 2, 3, 4, 5, 7] (OT.alt 6 (OT.alt 8 (OT.alt 9 (OT.alt 10 (OT.alt 11 OT.nil OT.nil) OT.nil) OT.nil) OT.nil) OT.nil) (by kernel_rfl) ?_ | (refine CL.mk (Or.inr (Raw.callI [1,2] [1,2] rfl rfl rfl rfl rfl rfl rfl (hload) ?_)); rintro _ _ ⟨rfl, rfl⟩; refine Bk.mk rfl rfl ?_) | (refine CL.mk (Or.inr (Raw.callI [1,2] [1,2] rfl rfl rfl rfl rfl rfl rfl (hfrom) ?_)); rintro _ _ ⟨rfl, rfl⟩; refine Bk.mk rfl rfl ?_) | (refine CL.mk (Or.inr (Raw.callI [1,2] [1,2] rfl rfl rfl rfl rfl rfl rfl (hpf) ?_)); rintro _ _ ⟨rfl, rfl⟩; refine Bk.mk rfl rfl ?_) | (refine CL.mk (Or.inr (Raw.callI [1,2] [1,2] rfl rfl rfl rfl rfl rfl rfl (hset) ?_)); rintro _ _ ⟨rfl, rfl⟩; refine Bk.mk rfl rfl ?_))
          all_goals (conv => whnf)
          all_goals exact RetO.mk ⟨[], _, _, (by first | exact LeS.d (by first | exact LeD.u rfl | fail) | fail), LeO.fm rfl rfl (LeO.fm rfl rfl .nil), rfl, rfl⟩
end Go.Proofs.YtgloielnnakknaaDoor
namespace Go.Proofs.YtgloielnnakknaaDoor
open Go.RowKit
theorem step_C {us : List Un} (hU : Uok us) {R : Ld → Nat → Ld × Bool} (hP : RP us R) (n : Nat) (hn : n ≤ 6000) (hC : RunC us R n) : SteC us (stepW R us) n := by
  intro mods table log full i t zm zt zl zf zk hI hB hi ht hL hz
  obtain ⟨u, hu, htu⟩ := ht
  have hs := hU.step u hu t htu
  obtain ⟨tk, tn, tp⟩ := t
  by_cases hk : tk = 1 ∨ tk = 2 ∨ tk = 5
  · exact stepA_C hU n hC mods table log full i tk tn tp zm zt zl zf zk hI hB hi hL hk hz
  · exact stepB_C hU hP n hn (load_C hU hP n hn (make_C hU hP n hn hC)) mods table log full i tk tn tp zm zt zl zf zk hI hB hi hL (fun e => hk (.inl e)) (fun e => hk (.inr (.inl e))) (fun e => hk (.inr (.inr e))) hs hz
theorem runM_C {us : List Un} (hU : Uok us) : ∀ n, n ≤ 6000 → RunC us (runM us n) n
  | 0, hn => run_C hU (fun s i t h _ _ => ⟨h, .refl s, fun e => by cases e⟩) 0 0 hn hn (fun s h => by omega) (.inr rfl)
  | n + 1, hn => run_C hU (stepW_P (runM_P us n)) (n + 1) n hn (by omega) (fun _ _ => step_C hU (runM_P us n) n (by omega) (runM_C hU n (by omega))) (.inl rfl)
end Go.Proofs.YtgloielnnakknaaDoor
namespace Go.Proofs.YtgloielnnakknaaDoor
open Go.RowKit
theorem stepsM_zero : ∀ {l : List Stp} {c : Int}, stepsM c l = 0 → c = 0 ∧ ∀ s ∈ l, stepM s = 0
  | [], c, h => ⟨h, fun _ h => by cases h⟩
  | s :: r, c, h => by
    rw [stepsM] at h
    obtain ⟨h1, h2⟩ := stepsM_zero h
    by_cases hc : c = 0
    · rw [if_pos hc] at h1
      refine ⟨hc, fun x hx => ?_⟩
      rcases List.mem_cons.1 hx with rfl | hx
      · exact h1
      · exact h2 x hx
    · rw [if_neg hc] at h1; exact absurd h1 hc
theorem inL_sput (x n : ByteArray) (l : List ByteArray) : inL x (sput l n) = (decide (x = n) || inL x l) := by
  unfold sput
  split
  · rename_i h
    by_cases e : x = n
    · subst e; simp [h]
    · simp [e]
  · simp [inL, Bool.or_comm]
theorem validM_ok : ∀ {l : List Un} {i : Nat} {seen : List ByteArray}, (validM l i seen).1 = 0 → (∀ u ∈ l, dottedM u.name = true ∧ u.steps.length ≤ 30 ∧ ∀ t ∈ u.steps, stepM t = 0) ∧ (l.map Un.name).Nodup ∧ (∀ u ∈ l, inL u.name seen = false) ∧ (i = 0 → ∀ u, l[0]? = some u → u.name = mainB)
  | [], _, _, _ => ⟨fun _ h => (by cases h), by simp, fun _ h => (by cases h), fun _ _ h => (by cases h)⟩
  | u :: r, i, seen, h => by
    rw [validM] at h
    split at h
    · rename_i hne; exact absurd h hne
    · rename_i h0
      have h0 : unitM u i seen = 0 := by simpa using h0
      obtain ⟨h1, h2, h3, _⟩ := validM_ok h
      rw [unitM] at h0
      obtain ⟨g1, g2⟩ := stepsM_zero h0
      rw [unit0M] at g1
      split at g1
      · cases g1
      rename_i q1
      split at g1
      · cases g1
      rename_i q2
      split at g1
      · cases g1
      rename_i q3
      split at g1
      · cases g1
      rename_i q4
      have q1 : dottedM u.name = true := by simpa using q1
      have q2 : inL u.name seen = false := by simpa using q2
      refine ⟨fun v hv => ?_, ?_, fun v hv => ?_, fun hi v hv => ?_⟩
      · rcases List.mem_cons.1 hv with rfl | hv
        · exact ⟨q1, by omega, g2⟩
        · exact h1 v hv
      · simp only [List.map_cons, List.nodup_cons]
        refine ⟨fun hm => ?_, h2⟩
        obtain ⟨v, hv, e⟩ := List.mem_map.1 hm
        have := h3 v hv
        rw [inL_sput, e] at this
        simp at this
      · rcases List.mem_cons.1 hv with rfl | hv
        · exact q2
        · have := h3 v hv
          rw [inL_sput] at this
          simp only [Bool.or_eq_false_iff] at this
          exact this.2
      · simp at hv
        subst hv
        by_cases e : u.name = mainB
        · exact e
        · exact absurd ⟨hi, e⟩ q3
theorem nameB_size {s : ByteArray} (h : nameB s = true) : s.size ≤ 60 := by
  unfold nameB at h
  simp at h
  omega
theorem dottedM_size {s : ByteArray} (h : dottedM s = true) : s.size ≤ 60 := by
  unfold dottedM at h
  simp at h
  omega
theorem stepM_size {t : Stp} (h : stepM t = 0) : t.name.size ≤ 60 ∧ t.part.size ≤ 60 := by
  unfold stepM at h
  split at h
  · cases h
  split at h
  · cases h
  rename_i h1 h2
  split at h
  · cases h
  rename_i h3
  simp only [badNameM, simpleM] at h2
  have hp : t.part.size ≤ 60 := by
    by_cases h4 : t.kind = 4
    · have : nameB t.part = true := by
        cases hb : nameB t.part
        · exfalso; simp_all
        · rfl
      exact nameB_size this
    · have : t.part = emp := by
        by_cases e : t.part = emp
        · exact e
        · exact absurd ⟨h4, e⟩ h3
      rw [this]; decide
  refine ⟨?_, hp⟩
  cases hb : nameB t.name
  · have : dottedM t.name = true := by
      cases hd : dottedM t.name
      · exfalso; simp_all
      · rfl
    exact dottedM_size this
  · exact nameB_size hb
theorem valid_Uok {l : List Un} (h : (validateM l).1 = 0) : Uok l ∧ (l.map Un.name).Nodup ∧ 0 < l.length ∧ (∀ u, l[0]? = some u → u.name = mainB) ∧ (∀ u ∈ l, dottedM u.name = true ∧ u.steps.length ≤ 30 ∧ ∀ t ∈ u.steps, stepM t = 0) := by
  unfold validateM at h
  split at h
  · cases h
  split at h
  · cases h
  rename_i h1 h2
  obtain ⟨g1, g2, _, g4⟩ := validM_ok h
  exact ⟨⟨by omega, fun u hu => dottedM_size (g1 u hu).1, fun u hu => (g1 u hu).2.1, fun u hu t ht => stepM_size ((g1 u hu).2.2 t ht)⟩, g2, by omega, g4 rfl, g1⟩
theorem mput_new (n : ByteArray) (row : List V) : ∀ l : List Un, n ∉ l.map Un.name → mputT (uents l) [.str n] row = uents l ++ [([.str n], row)]
  | [], _ => rfl
  | u :: r, h => by
    have h1 : ¬ n = u.name := fun e => h (by simp [e])
    have h2 := mput_new n row r fun e => h (by simp at e ⊢; exact .inr e)
    simp only [uents, List.map_cons, mputT, eqC_sd, h1, decide_false, cond_false] at h2 ⊢
    rw [h2]; rfl
/-- Ahead of the run of main. -/
def initS : Ld := ⟨[⟨mainB, 0, []⟩], [0], [], false⟩
theorem hasU_of {l : List Un} {u : Un} (h : u ∈ l) : hasU l u.name = true := by
  induction l with
  | nil => cases h
  | cons a r ih =>
    rw [hasU]
    split
    · rfl
    · rename_i hne
      rcases List.mem_cons.1 h with rfl | h
      · exact absurd rfl hne
      · exact ih h
theorem init_inv {l : List Un} (h : (validateM l).1 = 0) : Inv l initS ∧ RunB initS 5001 ∧ left initS ≤ 5001 := by
  obtain ⟨_, _, h3, h4, _⟩ := valid_Uok h
  have h0 := h4 _ (List.getElem?_eq_getElem h3)
  have hm := hasU_of (List.getElem_mem h3)
  rw [h0] at hm
  refine ⟨⟨by simp [initS], by simp [initS], by simp [initS], fun m hm' => ?_, fun m hm' => ?_, fun m hm' => ?_, fun m hm' => ?_⟩, fun m hm' => ?_, by simp [left, initS]⟩
  all_goals
    simp [initS] at hm'
    subst hm'
  · exact hm
  · simp
  · intro a ha; cases ha
  · intro a ha; cases ha
  · simp
end Go.Proofs.YtgloielnnakknaaDoor
namespace Go.Proofs.YtgloielnnakknaaDoor
open Go.RowKit
abbrev noOb : List (Nat × Ob) := [(1, .fm 0 []), (2, .fm 82 [])]
def finS (l : List Un) : Ld := (runM l 5001 initS 0).1
theorem loaded_bad (l : List Un) (h : (validateM l).1 ≠ 0) : CallsA Tryd.prog 27 [.d (.u (uns l))] noOb (Iso (.t [.d (.u .pn), .a (fd (validateM l))]) noOb) := by
  have hv := validate_T l
  generalize validateM l = f at *
  obtain ⟨c, i⟩ := f
  dsimp only at h
  refine callsA_of_vcO (T := tt) Tryd.func27 rfl rfl rfl rfl rfl ?_
  repeat' ((conv => whnf); first | refine Gs.id ?_ | refine Brn.T (by (try simp only [smT]); first | rfl | assumption | fail) ?_ | refine Drw.of (T := tt) (i := 3) [2] [] [(0, true), (1, true), (2, false)] (by kernel_rfl) ?_ | (refine CL.mk (Or.inl ?_); (conv => whnf); refine Cl.is (hv) rfl (by first | exact fun _ => rfl | fail) ?_) | fail)
  all_goals (conv => whnf)
  all_goals exact RetO.mk ⟨[], _, _, (by exact LeS.ts (by repeat (first | exact LeCs.nil | refine LeCs.cons (by first | exact LeC.d (by first | exact LeD.u rfl | fail) | exact LeC.a (by repeat (first | exact LeL.nil | refine LeL.cons (by first | exact LeD.u rfl | fail) ?_))) ?_))), LeO.fm rfl rfl (LeO.fm rfl rfl .nil), rfl, rfl⟩
/-- The units that are in the map. -/
def uentsT (l : List Un) (i : Nat) : List (List V × List V) := uents (l.take i)
theorem uentsT_zero (l : List Un) : uentsT l 0 = [] := by simp [uentsT, uents]
theorem uentsT_all (l : List Un) : uentsT l l.length = uents l := by simp [uentsT]
theorem uentsT_ok (l : List Un) (i : Nat) : ∀ e ∈ uentsT l i, keyT .sr e.1 = true := uents_ok _
theorem uentsT_put {l : List Un} (hnd : (l.map Un.name).Nodup) {i : Nat} {n : ByteArray} {st : List Stp} (h : l[i]? = some ⟨n, st⟩) : mputT (uentsT l i) [.str n] [.str n, .sl 3 (st.map Stp.row)] = uentsT l (i + 1) := by
  have hi := lt_get h
  have e : l.take (i + 1) = l.take i ++ [⟨n, st⟩] := by rw [List.take_add_one, h]; rfl
  have hn : n ∉ (l.take i).map Un.name := fun hm => by
    have h2 : ((l.take (i + 1)).map Un.name).Nodup := hnd.sublist ((List.take_sublist _ _).map _)
    rw [e, List.map_append, List.nodup_append] at h2
    exact h2.2.2 _ hm n (by simp) rfl
  rw [uentsT, mput_new n _ _ hn, uentsT, e]
  simp [uents, Un.row]
theorem mk_ld (es : List (List V × List V)) : mkE [(1, 71, 1), (2, 43, 2)] 0 [V.fz true es, V.nl, V.nl, V.bool false] = [E.v (V.fz true es), E.os 71 1 [], E.os 43 2 [], E.v (V.bool false)] := rfl
set_option maxHeartbeats 4000000 in
theorem loaded_T (l : List Un) (h : (validateM l).1 = 0) (zm : List Md) (zt : List Nat) (zl : List Ev) (zf : Bool) (hz : finS l = ⟨zm, zt, zl, zf⟩) : CallsA Tryd.prog 27 [.d (.u (uns l))] noOb (Iso (.t [.d (.u (if zf = true then .pn else .m 1 0 0)), .a (if zf = true then fd (21, -1) else fd (0, 0))]) (ldOb l zm zt zl zf)) := by
  have hv := validate_T l
  obtain ⟨hU, hnd, hlen, hmain, _⟩ := valid_Uok h
  obtain ⟨hI, hB, hL⟩ := init_inv h
  have hfv : ∃ i, validateM l = (0, i) := ⟨(validateM l).2, by rw [← h]⟩
  obtain ⟨i0, hfv⟩ := hfv
  rw [hfv] at hv
  have hl40 := hU.len
  obtain ⟨zk, hrk⟩ : ∃ zk, runM l 5001 initS 0 = (⟨zm, zt, zl, zf⟩, zk) := ⟨(runM l 5001 initS 0).2, by rw [← hz]; rfl⟩
  have hrun := runM_C hU 5001 (by omega) _ _ _ _ 0 zm zt zl zf zk _ _ hI hB (by simp [initS]) hL hrk rfl rfl
  refine callsA_of_vcO (T := tt) Tryd.func27 rfl rfl rfl rfl rfl ?_
  repeat' ((conv => whnf); first | refine Gs.id ?_ | with_reducible refine Brn.F rfl ?_ | (refine Bnd.mk (fun hm => ?_); (try simp only [smT] at hm)) | refine Raw.makeMap (T := tt) rfl rfl rfl rfl rfl rfl (.inl rfl) rfl rfl ?_ | (refine CL.mk (Or.inl ?_); (conv => whnf); refine Cl.is (hv) rfl (by first | exact fun _ => rfl | fail) ?_) | fail)
  all_goals (conv => whnf)
  refine ⟨⟨Nat, fun i => i ≤ l.length, fun i => l.length - i, fun i => ⟨[(3, .d (.p 3 0)), (5, .d (.p 17 0)), (18, .d (.u (uns l))), (19, di l.length), (20, di i)], [(3, .bx 24 [.u (.int .i64 0), .u (.int .i64 0)]), (17, .bx 63 [.mp 903, .u .nl, .u .nl, .u (.bool false)]), (903, .mp false true (uentsT l i)), (1, .fm 0 []), (2, .fm 82 [])]⟩, 0, Nat.zero_le _, ⟨[(3, .k 3), (17, .k 17), (903, .k 15), (1, .k 1), (2, .k 2)], ⟨by (try dsimp only); (repeat (refine LeT.cons rfl (by first | exact LeS.d (by first | exact LeD.u rfl | exact LeD.p rfl | exact LeD.u (by simp [uentsT_zero]; done) | fail) | fail) ?_)); exact LeT.nil, by (try dsimp only); repeat (first | exact LeO.nil | refine LeO.bx rfl rfl (by repeat (first | exact LeL.nil | refine LeL.cons (by first | exact LeD.u rfl | exact LeD.mp rfl | fail) ?_)) ?_ | refine LeO.fm rfl (by first | rfl | fail) ?_ | refine LeO.mp rfl rfl (by first | rfl | fail) ?_ | fail)⟩⟩, fun i hi => ?_⟩⟩
  dsimp only at hi ⊢
  by_cases h9 : i < l.length
  · obtain ⟨⟨un, ust⟩, hu⟩ : ∃ u, l[i]? = some u := ⟨_, List.getElem?_eq_getElem h9⟩
    have hrow : ∀ {K : List V → Prop}, K (Un.row ⟨un, ust⟩) → Ix (l.map Un.row) (i : Int) K := fun k => Ix.map rfl h9 (by rw [(List.getElem?_eq_some_iff.1 hu).2]; exact k)
    have hput := uentsT_put hnd hu
    have hok := uentsT_ok l i
    repeat' ((conv => whnf); first | refine hrow ?_ | refine Drw.ghost (i := 8) (Ghost.frzB 7 rfl rfl) ?_ | refine Gs.id ?_ | refine Brn.T (by (try simp only [smT]); first | rfl | omega | fail) ?_ | refine Rng.mk (by (try simp only [smT]); omega) ?_ | refine Raw.mapUpdate (T := tt) (.inl rfl) rfl rfl rfl rfl rfl rfl rfl rfl rfl rfl rfl (by assumption) ?_ | refine Drw.ofP (T := tt) (i := 8) [3, 7] [0, 1, 2, 4, 5, 6] [0, 1, 2, 4, 5, 6] (OT.alt 3 (OT.alt 7 OT.nil OT.nil) OT.nil) (by kernel_rfl) ?_ | fail)
    all_goals (conv => whnf)
    all_goals exact ⟨i + 1, by omega, by omega, [(3, .k 3), (17, .k 17), (903, .k 903), (1, .k 1), (2, .k 2)], ⟨by (try dsimp only); (repeat (refine LeT.cons rfl (by first | exact LeS.d (by first | exact LeD.u rfl | exact LeD.p rfl | fail) | fail) ?_)); exact LeT.nil, by (try dsimp only); repeat (first | exact LeO.nil | refine LeO.bx rfl rfl (by repeat (first | exact LeL.nil | refine LeL.cons (by first | exact LeD.u rfl | exact LeD.mp rfl | fail) ?_)) ?_ | refine LeO.fm rfl (by first | rfl | fail) ?_ | refine LeO.mp rfl rfl (by first | simp [hput]) ?_ | fail)⟩⟩
  · obtain rfl : i = l.length := by omega
    refine' cutR (fun _ : Unit => True) (fun _ => ⟨[(3, .d (.p 3 0)), (5, ldP), (8, mdP 0)], (3, .bx 24 [.u (.int .i64 0), .u (.int .i64 0)]) :: ldOb l [⟨mainB, 0, []⟩] [0] [] false⟩) _ (fun hR => ?_) ?_
    rotate_left
    · repeat' ((conv => whnf); first | refine Gs.cut (i := 12) (by assumption) () [(1, .k 1), (2, .k 2), (3, .k 3)] rfl ?_ trivial | refine Gs.go (i := 10) ((Ghost.frzM 903 rfl).trans (Ghost.toFam 17 5 1 [(1, (71, 1)), (2, (43, 2))] rfl rfl rfl rfl rfl rfl)) ?_ | refine Gs.id ?_ | refine Brn.F (by (try simp only [smT]); first | rfl | omega | fail) ?_ | refine Rw.lit rfl ?_ | refine Len.mk (by first | rfl | fail) ?_ | refine Apd.mk (by first | rfl | fail) (by first | rfl | fail) (by (try simp only [smT]); first | omega | fail) (by unfold maxLen; first | (simp; done) | fail) ?_ | (refine Raw.appendR (T := tt) ?_; (conv => whnf); first | refine Rw.lit rfl ?_ | fail) | refine Spc.mk ⟨[(2,(84,2))], ?_⟩)
      all_goals exact ⟨by (try dsimp only); (repeat (refine LeT.cons rfl (by first | exact LeS.d (by first | exact LeD.u rfl | exact LeD.p rfl | fail) | fail) ?_)); exact LeT.nil, by (try dsimp only); repeat (first | exact LeO.nil | refine LeO.bx rfl rfl (by repeat (first | exact LeL.nil | refine LeL.cons (by first | exact LeD.u rfl | fail) ?_)) ?_ | refine LeO.fm rfl (by first | rfl | simp [Md.row, mk_md, uentsT_all, mk_ld, ldRow]) ?_ | fail)⟩
    · intro _ _
      dsimp only
      cases zf
      · rw [if_neg (by simp), if_neg (by simp)]
        repeat' ((conv => whnf); first | refine Gs.id ?_ | with_reducible refine Brn.F rfl ?_ | refine Rw.lit rfl ?_ | (refine CL.mk (Or.inr (Raw.callI [1,2] [1,2] rfl rfl rfl rfl rfl rfl rfl (hrun) ?_)); rintro _ _ ⟨rfl, rfl⟩; refine Bk.mk rfl rfl ?_))
        all_goals (conv => whnf)
        all_goals exact RetO.mk ⟨[], _, _, (by exact LeS.ts (by repeat (first | exact LeCs.nil | refine LeCs.cons (by first | exact LeC.d (by first | exact LeD.u rfl | fail) | exact LeC.a (by repeat (first | exact LeL.nil | refine LeL.cons (by first | exact LeD.u rfl | fail) ?_))) ?_))), LeO.fm rfl rfl (LeO.fm rfl rfl .nil), rfl, rfl⟩
      · rw [if_pos rfl, if_pos rfl]
        repeat' ((conv => whnf); first | refine Gs.id ?_ | with_reducible refine Brn.T rfl ?_ | refine Rw.lit rfl ?_ | (refine CL.mk (Or.inr (Raw.callI [1,2] [1,2] rfl rfl rfl rfl rfl rfl rfl (hrun) ?_)); rintro _ _ ⟨rfl, rfl⟩; refine Bk.mk rfl rfl ?_))
        all_goals (conv => whnf)
        all_goals exact RetO.mk ⟨[], _, _, (by exact LeS.ts (by repeat (first | exact LeCs.nil | refine LeCs.cons (by first | exact LeC.d (by first | exact LeD.u rfl | fail) | exact LeC.a (by repeat (first | exact LeL.nil | refine LeL.cons (by first | exact LeD.u rfl | fail) ?_))) ?_))), LeO.fm rfl rfl (LeO.fm rfl rfl .nil), rfl, rfl⟩
/-- What Load returns: the events, or a fault. -/
theorem load_bad (l : List Un) (f : Int × Int) (hf : ((validateM l).1 ≠ 0 ∧ f = validateM l) ∨ ((validateM l).1 = 0 ∧ (finS l).full = true ∧ f = (21, -1))) : CallsA Tryd.prog 14 [.d (.u (uns l))] noOb (Iso (.t [.d (.u .nl), .a (fd f)]) []) := by
  obtain ⟨c, i⟩ := f
  rcases hf with ⟨h1, h2⟩ | ⟨h1, h2, h3⟩
  · have hl := loaded_bad l h1
    rw [← h2] at hl h1
    dsimp only at h1
    refine callsA_of_vcO (T := tt) Tryd.func14 rfl rfl rfl rfl rfl ?_
    repeat' ((conv => whnf); first | refine Gs.id ?_ | refine Brn.T (by (try simp only [smT]); first | rfl | assumption | fail) ?_ | refine Drw.of (T := tt) (i := 3) [2] [] [(0, true), (1, true), (2, false)] (by kernel_rfl) ?_ | (refine CL.mk (Or.inr (Raw.callI [1,2] [1,2] rfl rfl rfl rfl rfl rfl rfl (hl) ?_)); rintro _ _ ⟨rfl, rfl⟩; refine Bk.mk rfl rfl ?_))
    all_goals (conv => whnf)
    all_goals exact RetO.mk ⟨[], _, _, (by exact LeS.ts (by repeat (first | exact LeCs.nil | refine LeCs.cons (by first | exact LeC.d (by first | exact LeD.u rfl | fail) | exact LeC.a (by repeat (first | exact LeL.nil | refine LeL.cons (by first | exact LeD.u rfl | fail) ?_))) ?_))), .nil, rfl, rfl⟩
  · injection h3 with e1 e2
    subst e1 e2
    generalize hz : finS l = z at h2
    obtain ⟨zm, zt, zl, zf⟩ := z
    dsimp only at h2
    subst h2
    have hl := loaded_T l h1 zm zt zl true hz
    rw [if_pos rfl, if_pos rfl] at hl
    refine callsA_of_vcO (T := tt) Tryd.func14 rfl rfl rfl rfl rfl ?_
    repeat' ((conv => whnf); first | refine Gs.id ?_ | with_reducible refine Brn.T rfl ?_ | refine Drw.of (T := tt) (i := 3) [2] [] [(0, true), (1, true), (2, false)] (by kernel_rfl) ?_ | (refine CL.mk (Or.inr (Raw.callI [1,2] [1,2] rfl rfl rfl rfl rfl rfl rfl (hl) ?_)); rintro _ _ ⟨rfl, rfl⟩; refine Bk.mk rfl rfl ?_))
    all_goals (conv => whnf)
    all_goals exact RetO.mk ⟨[], _, _, (by exact LeS.ts (by repeat (first | exact LeCs.nil | refine LeCs.cons (by first | exact LeC.d (by first | exact LeD.u rfl | fail) | exact LeC.a (by repeat (first | exact LeL.nil | refine LeL.cons (by first | exact LeD.u rfl | fail) ?_))) ?_))), .nil, rfl, rfl⟩
theorem load_ok (l : List Un) (h1 : (validateM l).1 = 0) (h2 : (finS l).full = false) : CallsA Tryd.prog 14 [.d (.u (uns l))] noOb (Iso (.t [.d (.ow 905 (finS l).log.length), .a (fd (0, 0))]) [(905, .ar 43 2 ((finS l).log.map Ev.v))]) := by
  generalize hz : finS l = z at h2 ⊢
  obtain ⟨zm, zt, zl, zf⟩ := z
  dsimp only at h2 ⊢
  subst h2
  have hl := loaded_T l h1 zm zt zl false hz
  rw [if_neg (by simp), if_neg (by simp)] at hl
  refine callsA_of_vcO (T := tt) Tryd.func14 rfl rfl rfl rfl rfl ?_
  repeat' ((conv => whnf); first | refine Gs.go (i := 1000) (Ghost.take 905 2 rfl rfl rfl rfl rfl (by simp) rfl) ?_ | refine Gs.id ?_ | with_reducible refine Brn.F rfl ?_ | refine Rw.lit rfl ?_ | (refine CL.mk (Or.inr (Raw.callI [1,2] [1,2] rfl rfl rfl rfl rfl rfl rfl (hl) ?_)); rintro _ _ ⟨rfl, rfl⟩; refine Bk.mk rfl rfl ?_))
  all_goals (conv => whnf)
  all_goals exact RetO.mk ⟨[(905, .k 905)], _, _, (by exact LeS.ts (by repeat (first | exact LeCs.nil | refine LeCs.cons (by first | exact LeC.d (by first | exact LeD.ow rfl (by simp) | fail) | exact LeC.a (by repeat (first | exact LeL.nil | refine LeL.cons (by first | exact LeD.u rfl | fail) ?_))) ?_))), (by repeat (first | exact LeO.nil | refine LeO.ar rfl rfl (by first | rfl | fail) ?_ | fail)), rfl, rfl⟩
end Go.Proofs.YtgloielnnakknaaDoor
namespace Go.Proofs.YtgloielnnakknaaDoor
open Go.RowKit
/-- The bytes of a string as rows. -/
def bwR (s : ByteArray) : List (List V) := s.data.toList.map fun b => [V.int .u8 (b.toNat : Int)]
theorem bwR_app (a b : ByteArray) : bwR (a ++ b) = bwR a ++ bwR b := by simp [bwR, ByteArray.data_append]
theorem bwR_len (s : ByteArray) : (bwR s).length = s.size := by simp [bwR]
theorem bwR_flat (s : ByteArray) : (bwR s).flatten = s.data.toList.map fun b => V.int .u8 (b.toNat : Int) := bytes_flat _
theorem bwR_den {z : Fz} (s : ByteArray) : DenVL z (bwR s).flatten (Go.Lib.strCells s) := by
  rw [bwR_flat]
  refine ⟨by simp [Go.Lib.strCells], List.all_eq_true.2 fun v hv => Go.Lib.strCells_oneCell s v hv, fun j d u e1 e2 => ?_⟩
  simp only [Go.Lib.strCells, List.getElem?_map] at e1 e2
  cases hb : s.data.toList[j]? with
  | none => rw [hb] at e1; cases e1
  | some b =>
    rw [hb] at e1 e2
    simp only [Option.map_some, Option.some.injEq] at e1 e2
    subst e1 e2
    exact .int _ _
/-- A row's cells tell its bytes. -/
theorem bwR_cells {z : Fz} {s : ByteArray} {us : List Value} (h : DenVL z (bwR s).flatten us) : us = Go.Lib.strCells s := by
  rw [bwR_flat] at h
  apply List.ext_getElem?
  intro j
  have hl := h.len
  simp only [List.length_map] at hl
  by_cases hj : j < us.length
  · have hb : s.data.toList[j]? = some s.data.toList[j] := List.getElem?_eq_getElem (by omega)
    obtain ⟨u, hu⟩ : ∃ u, us[j]? = some u := ⟨_, List.getElem?_eq_getElem hj⟩
    have := h.den j (.int .u8 ((s.data.toList[j]).toNat : Int)) u (by rw [List.getElem?_map, hb]; rfl) hu
    cases this
    rw [hu, Go.Lib.strCells, List.getElem?_map, hb]
    rfl
  · rw [List.getElem?_eq_none (by omega), List.getElem?_eq_none (by simp [Go.Lib.strCells]; simp at hl; omega)]
theorem run_app_str {P : Program} {w : World} {t u ty e : TypeId} {i : TypeInfo} (ht : P.underlying t = some (.slice e)) (hu : P.underlying u = some .string) (hi : P.info? e = some i) (hz : i.zero = some (.int .u8 0)) (hs1 : i.size = 1) (hb1 : i.bytes = 1) {A : Option Addr} {n c : Nat} {xs : List Value} (hown : w.ownsRow 0 e 1 (.slice A n c) n xs) (s : ByteArray) (hmx : n + s.size ≤ 140737488355328) :
    ∃ A' c' w', (Builtin.append_ #[t, u] ty #[.slice A n c, .string s]).run P w = .ok (.slice A' (n + s.size) c') w' ∧ w'.ownsRow 0 e 1 (.slice A' (n + s.size) c') (n + s.size) (xs ++ Go.Lib.strCells s) ∧ w.grownBy w' (Value.slice A n c).ownBlock ∧ ((Value.slice A' (n + s.size) c').ownBlock = (Value.slice A n c).ownBlock ∨ (Value.slice A' (n + s.size) c').ownBlock = some w.heap.size) := by
  obtain ⟨v', w', hrun, h2, h3, h4⟩ := Go.Lib.run_append_own_string (P := P) w 0 t u ty e i ht hu hi hz hs1 hb1 _ n xs hown s (by unfold maxLen; omega) hmx (Nat.zero_le _)
  obtain ⟨A', c', rfl, _⟩ := own_form h2
  refine ⟨A', c', w', hrun, h2, h3, ?_⟩
  have hl : xs.length = n := by simpa using hown.1
  rcases hown.2 with ⟨hv, hx⟩ | ⟨g, cap, cur, hv, _, hg, hnc, hcm, hcs, htake⟩
  · injection hv with q1 q2 q3
    subst q1 q2 q3
    by_cases hs : s.size = 0
    · have := h4.2 ⟨rfl, hs⟩
      injection this with q1 _ _
      subst q1
      exact .inl rfl
    · have hr := run_append_nil_string (P := P) (w := w) (ty := ty) t u e i _ ht hu hi hz s (by omega) (by omega) (by rw [hb1]; omega)
      simp only [Nat.zero_add] at hrun ⊢
      rw [hr] at hrun
      injection hrun with q1 _
      injection q1 with q1 _ _
      subst q1
      exact .inr rfl
  · injection hv with q1 q2 q3
    subst q1 q3
    by_cases hroom : n + s.size ≤ c
    · have hr := Go.Lib.run_append_room_string (P := P) (w := w) (ty := ty) t u e i ht hu hi hs1 g n c cur hg s hroom (by have h9 : cur.size = c := (by simpa using hcs); omega)
      rw [hr] at hrun
      injection hrun with q1 _
      injection q1 with q1 _ _
      subst q1
      exact .inl rfl
    · have holds : ∀ (j : Nat) u, xs[j]? = some u → w.cell? ((⟨g, 0, none⟩ : Addr).add j) = some u := hown.cells (g := g) rfl
      have hr := Go.Lib.run_append_grow_string (P := P) (w := w) (ty := ty) t u e i _ ht hu hi hz ⟨g, 0, none⟩ n c xs (by rw [hs1]; simpa using hl) holds s (by omega) (by omega) (by rw [hb1]; exact growslice_fits (by omega) (by omega))
      rw [hr] at hrun
      injection hrun with q1 _
      injection q1 with q1 _ _
      subst q1
      exact .inr rfl
section
variable {P : Program} {T : List (Nat × Ty)} [hT : Tys P T] {nt : Nat} {ty : TypeId} {pos : String} {af : Array Edge} {gd : Option (Nat × Bool)} {K : Kt}
/-- A string is appended to bytes. -/
theorem Raw.appendStr {x y : Operand} {t t' e d n : Nat} {s : ByteArray} {sx : SV} {rs : List (List V)} {kx : Option Nat} {i i' : Ty} {jk : Tk} {jz : List Value} {tmT : List (Nat × SV)} {ob : List (Nat × Ob)} (hx : evT tmT x = some sx) (hne : ∀ z r, sx ≠ .d (.u (.sl z r))) (hrx : rowsT ob sx = some (rs, n, kx)) (h2 : tyT ob e sx = true) (h3 : szT ob 1 sx = true) (hn : rs.length = n) (hy : evT tmT y = some (.d (.u (.str s))))
    (ht : lk t T = some i) (hk : i.k = .sl e) (ht' : lk t' T = some i') (hk' : i'.k = .sr) (he : lk e T = some ⟨jk, 1, 1, jz⟩) (hz : (P.info? e).bind (fun f => f.zero) = some (.int .u8 0)) (hmx : n + s.size ≤ 140737488355328) (hd : Nat.blt d nt = true) (h6 : newN d tmT ob = true) (k : K ((d, .d (.ow d (rs ++ bwR s).length)) :: tmT) ((d, .ar e 1 (rs ++ bwR s)) :: obx kx ob)) : Raw P nt ⟨some d, .call ⟨.builtin .append, #[x, y], #[t, t']⟩, ty, pos, af, gd⟩ tmT ob K := ⟨fun Q c tm h ρ G g => by
  obtain ⟨vx, q1, q2⟩ := g.ev hx
  obtain ⟨vy, r1, r2⟩ := g.ev hy
  cases r2 with | d r2 => cases r2 with | u r2 => cases r2 with | str _ hs =>
  obtain ⟨A, cc, us, f, rfl, b1, b2, b3, b4, b5⟩ := base_den g (e := e) (fun z r e' => hne z r e') hrx h3 h2 hn q2
  obtain ⟨F, w0, hp⟩ := h
  have ku := (hT.ok t i ht).kind
  rw [hk] at ku
  have ku : P.underlying t = some (.slice e) := ku
  have ku' := (hT.ok t' i' ht').kind
  rw [hk'] at ku'
  have ku' : P.underlying t' = some .string := ku'
  obtain ⟨fi, zv, hf1, hf2, hf3, hf4, hf5⟩ := (hT.ok e _ he).info
  rw [hf1] at hz
  have hz : fi.zero = some (.int .u8 0) := hz
  have hsl := bwR_len s
  have key : ∀ A' c', OkA A' (us ++ Go.Lib.strCells s) (n + s.size) c' 1 → Kd c K ((d, .slice A' (n + s.size) c') :: tm) ⟨F, w0, f (hbA A' e (us ++ Go.Lib.strCells s) c' 1)⟩ := fun A' c' hA' => by
    have hlen : (rs ++ bwR s).length = n + s.size := by rw [List.length_append, hn, hsl]
    have ho : ObOk (upd ρ d ⟨A', c', 1⟩) ⟨G, w0⟩ d (.ar e 1 (rs ++ bwR s)) (hbA A' e (us ++ Go.Lib.strCells s) c' 1) :=
      ⟨A', c', us ++ Go.Lib.strCells s, rfl, upd_self, by rw [hlen]; exact hA', by rw [List.flatten_append]; exact b3.app (bwR_den s), fun r hr => by
        rcases List.mem_append.1 hr with hr | hr
        · exact b4 r hr
        · obtain ⟨b, _, rfl⟩ := List.mem_map.1 hr; rfl⟩
    have g0 : Gd c ⟨tmT, obx kx ob⟩ tm ⟨F, w0, f []⟩ ρ G := ⟨g.fF, g.fw, g.gF, g.gx, g.fm, g.tm, b5⟩
    have hnew : newN d tmT (obx kx ob) = true := by
      obtain ⟨n1, n2⟩ := newN_tm (st := ⟨tmT, ob⟩) h6
      have : hasOb d (obx kx ob) = false := by
        cases kx with
        | none => exact n2
        | some k => exact hasOb_obr n2
      simp only [newN, n1, this, cond_false]
    have g1 := (g0.new hnew ho).put (d := d) (s := .d (.ow d (rs ++ bwR s).length)) (v := .slice A' (n + s.size) c') (by
      rw [hlen]
      refine .d (.ow upd_self (fun hA0 => ?_) hA'.cap)
      rcases hA'.form with ⟨_, h0, _⟩ | ⟨b, hb⟩
      · exact h0
      · have : A' = none := hA0
        rw [hb] at this; cases this)
    exact ⟨_, _, _, _, fun w hw => hw.perm (b2.perm _), g1, k⟩
  refine OpS.of_run hd fun a w ha hw => ?_
  have hown := hw.row b2 b1
  obtain ⟨A', c', w', e1, e2, e3, e4⟩ := run_app_str (P := P) (ty := ty) ku ku' hf1 hz hf2 hf3 hown s hmx
  exact ⟨_, w', _, by simp [execOp, resolve, invoke, builtin, ha.ev q1, ha.ev r1, e1], hw.rowGrow b2 b1 e3 e2 e4, key A' c' (OkA.of_own e2)⟩⟩
omit hT in
/-- A function without a body that gives back its argument. -/
theorem Raw.extId {f : FuncId} {fn : Func} {e : Array Value → Sem Value} {x : Operand} {ts : Array TypeId} {d : Nat} {s : SV} {tmT : List (Nat × SV)} {ob : List (Nat × Ob)} (hx : evT tmT x = some s) (hf : P.funcs[f]? = some fn) (hname : (fn.name == "runtime.NumGoroutine") = false) (hb : fn.body.isNone = true) (hn : Extern.findNext fn = none) (he : Extern.find fn = some e) (hr : ∀ v w, (e #[v]).run P w = .ok v w) (hd : Nat.blt d nt = true) (k : K ((d, s) :: tmT) ob) : Raw P nt ⟨some d, .call ⟨.value (.func f), #[x], ts⟩, ty, pos, af, gd⟩ tmT ob K := ⟨fun Q c tm h ρ G g => by
  obtain ⟨vx, x1, x2⟩ := g.ev hx
  refine OpS.yd (v := vx) ⟨fun a w ha hw => ?_⟩ hd (.of (g.put x2) k)
  have hargs : #[x].map a.eval = #[vx] := by simp [ha.ev x1]
  simp only [execOp, resolve, Sem.run_bind, hargs, Deferred.ofValue, Act.eval, invoke]
  simp [run_callFunc_extern hf hname hb hn he, hr]⟩
omit hT in
theorem Hp.other {F : Nat → Prop} {w0 w w' : World} {hp : List (Nat × Hb)} {b : Nat} (hw : Hp ⟨F, w0, hp⟩ w) (hs : Same (· ≠ b) w w') (h1 : ¬ F b) (h2 : ∀ x, (b, x) ∉ hp) : Hp ⟨F, w0, hp⟩ w' :=
  ⟨hw.same.trans (hs.mono fun k hk e => h1 (e ▸ hk)), hw.inF, fun b' x hx => (hw.blk b' x hx).of_block (hs.block b' fun e => h2 x (e ▸ hx)), hw.nd, hw.out⟩
theorem freeze_same {w : World} {b n : Nat} : Same (· ≠ b) w (w.freeze ⟨b, 0, none⟩ n) := by
  unfold World.freeze
  split
  · exact Same.refl _ _
  · exact ⟨rfl, rfl, rfl, by simp, fun k hk => by
      simp only [Array.getElem?_modify]
      rw [if_neg (fun e => hk e.symm)]⟩
/-- A pointer to a member of a family is turned to unsafe.Pointer. -/
theorem Raw.toUnsafeM {x : Operand} {t t2 d k m : Nat} {i : Ty} {u u' : TypeId} {rs : List (List E)} {row : List E} {tmT : List (Nat × SV)} {ob : List (Nat × Ob)} (hx : evT tmT x = some (.d (.u (.m k m 0)))) (hko : lk k ob = some (.fm u' rs)) (hr : rs[m]? = some row) (hcs : row ≠ []) (ht : lk t T = some i) (hk : i.k = .pt u) (hu2 : P.underlying t2 = some .unsafePointer) (hsz : ((P.info? u).map fun j => decide (j.size ≠ 0)) = some true) (hd : Nat.blt d nt = true) (kk : K ((d, .d (.u (.m k m 0))) :: tmT) ob) : Raw P nt ⟨some d, .convert t t2 x, ty, pos, af, gd⟩ tmT ob K := ⟨fun Q c tm h ρ G g => by
  obtain ⟨vx, x1, x2⟩ := g.ev hx
  have x3 := x2
  cases x2 with | d x2 => cases x2 with | u x2 =>
  obtain ⟨b, us, X, rfl, c1, hm, _⟩ := g.fam hko x2 hr
  have ku := (hT.ok t i ht).kind
  rw [hk] at ku
  have ku : P.underlying t = some (.pointer u) := ku
  cases hj : P.info? u with
  | none => rw [hj] at hsz; cases hsz
  | some j =>
    rw [hj] at hsz
    have hjs : j.size ≠ 0 := by simpa using hsz
    refine OpS.yd (v := .pointer (some ⟨b, 0, none⟩)) ⟨fun a w ha hw => ?_⟩ hd (.of (g.put x3) kk)
    obtain ⟨junk, q1, q2⟩ : HasB w b ⟨u', us, us.length⟩ := hw.blk b _ hm
    have q3 : us.length + junk.length = us.length := q2
    have q4 : junk = [] := List.eq_nil_of_length_eq_zero (by omega)
    have hsh : w.shape? b = some (u', us.length) := by simp only [World.shape?, q1, q4]; simp
    have hlen : 0 < us.length := by rw [c1.len]; exact List.length_pos_iff.2 hcs
    have := Go.Lib.run_to_unsafe (P := P) w (a := ⟨b, 0, none⟩) ku hu2 hj hjs hsh (by simpa using hlen)
    simp [execOp, ha.ev x1, this]⟩
/-- .. and back. -/
theorem Raw.fromUnsafeM {x : Operand} {t t2 d k m n0 : Nat} {i : Ty} {u : TypeId} {rs : List (List E)} {row : List E} {tmT : List (Nat × SV)} {ob : List (Nat × Ob)} (hx : evT tmT x = some (.d (.u (.m k m 0)))) (hko : lk k ob = some (.fm u rs)) (hr : rs[m]? = some row) (hn : row.length = n0) (ht : lk t2 T = some i) (hk : i.k = .pt u) (hu2 : P.underlying t = some .unsafePointer) (hi : (P.info? u).isSome = true) (hl : liesAt P P.depth u (n0 / P.cellsOf u) 0 u 1 = true) (hd : Nat.blt d nt = true) (kk : K ((d, .d (.u (.m k m 0))) :: tmT) ob) : Raw P nt ⟨some d, .convert t t2 x, ty, pos, af, gd⟩ tmT ob K := ⟨fun Q c tm h ρ G g => by
  obtain ⟨vx, x1, x2⟩ := g.ev hx
  have x3 := x2
  cases x2 with | d x2 => cases x2 with | u x2 =>
  obtain ⟨b, us, X, rfl, c1, hm, _⟩ := g.fam hko x2 hr
  have ku := (hT.ok t2 i ht).kind
  rw [hk] at ku
  have ku : P.underlying t2 = some (.pointer u) := ku
  subst hn
  cases hj : P.info? u with
  | none => rw [hj] at hi; cases hi
  | some j =>
    refine OpS.yd (v := .pointer (some ⟨b, 0, none⟩)) ⟨fun a w ha hw => ?_⟩ hd (.of (g.put x3) kk)
    obtain ⟨junk, q1, q2⟩ : HasB w b ⟨u, us, us.length⟩ := hw.blk b _ hm
    have q3 : us.length + junk.length = us.length := q2
    have q4 : junk = [] := List.eq_nil_of_length_eq_zero (by omega)
    have hsh : w.shape? b = some (u, row.length) := by rw [← c1.len]; simp only [World.shape?, q1, q4]; simp
    have := Go.Lib.run_from_unsafe (P := P) w (a := ⟨b, 0, none⟩) hu2 ku hj hsh hl
    simp [execOp, ha.ev x1, this]⟩
omit hT in
/-- unsafe.SliceData of an array that a member owns. -/
theorem Raw.sliceDataR {x : Operand} {ts : Array TypeId} {d k m o n sz : Nat} {tmT : List (Nat × SV)} {ob : List (Nat × Ob)} (hx : evT tmT x = some (.d (D.r k m o sz n))) (hne : n ≠ 0) (hd : Nat.blt d nt = true) (kk : K ((d, .d (D.re k m o 0 0)) :: tmT) ob) : Raw P nt ⟨some d, .call ⟨.builtin .unsafeSliceData, #[x], ts⟩, ty, pos, af, gd⟩ tmT ob K := ⟨fun Q c tm h ρ G g => by
  obtain ⟨vx, x1, x2⟩ := g.ev hx
  cases x2 with | d x2 =>
  cases x2 with | @r _ _ _ _ _ cc A h0 hA hc hm =>
  rcases hA with ⟨_, h1⟩ | ⟨b, rfl⟩
  · exact absurd h1 hne
  · refine OpS.yd (v := .pointer (some ⟨b, 0, none⟩)) ⟨fun a w ha hw => ?_⟩ hd (.of (g.put (.d ?_)) kk)
    · have := Go.Lib.run_unsafeSliceData_row (P := P) w ts ty ⟨b, 0, none⟩ n cc (by omega)
      simp [execOp, resolve, invoke, builtin, ha.ev x1, this]
    · have := Den.re (z := ⟨G, h.w0⟩) (j := 0) (f := 0) h0
      simpa using this⟩
/-- unsafe.String of bytes that a member owns: they are written no more. -/
theorem Raw.unsafeStrR {x y : Operand} {pt it d k m o u e : Nat} {i : Ty} {rs : List (List E)} {row : List E} {s : ByteArray} {n : Int} {tmT : List (Nat × SV)} {ob : List (Nat × Ob)} (hx : evT tmT x = some (.d (D.re k m o 0 0))) (hy : evT tmT y = some (.d (.u (.int .i64 n)))) (hko : lk k ob = some (.fm u rs)) (h1 : famOne k ob = true) (hr : rs[m]? = some row) (ho : row[o]? = some (.os e 1 (bwR s))) (hn : n = (s.size : Int)) (h0 : s.size ≠ 0) (ht : lk pt T = some i) (hk : i.k = .pt e) (hc : P.cellsOf e = 1) (hd : Nat.blt d nt = true)
    (kk : K ((d, .d (.u (.str s))) :: dropT k tmT) (dropO k (obu k (.fm u (rs.set m (row.set o .hl))) ob))) : Raw P nt ⟨some d, .call ⟨.builtin .unsafeString, #[x, y], #[pt, it]⟩, ty, pos, af, gd⟩ tmT ob K := ⟨fun Q c tm h ρ G g => by
  obtain ⟨vx, x1, x2⟩ := g.ev hx
  have y1 := evT_int g hy
  cases x2 with | d x2 =>
  obtain ⟨F, w0, hp⟩ := h
  cases x2 with | @re _ _ _ _ _ b1 c1 sz1 x0 =>
  have hmem : ∃ b, (G.fam k)[m]? = some b := by
    obtain ⟨Y, f, ⟨a1, _⟩, _⟩ := g.ob.at_ hko
    obtain ⟨b, _, _, _, a2, _⟩ := a1.split hr
    exact ⟨b, a2⟩
  obtain ⟨b0, hb0⟩ := hmem
  obtain ⟨b, us, Xe, rest, _, hlt, hone, ⟨u0, hu0, A', cc', us1, rfl, rfl, t3, t4, t5, t6⟩, p1, _, p3⟩ := g.famPut (e' := .hl) (v := .slice (some ⟨b1, 0, none⟩) (bwR s).length c1) (p := .pointer (some ⟨b0, o, none⟩)) hko h1 (.m hb0) hr ho
  rw [x0] at t3
  injection t3 with t3
  injection t3 with e1 e2 e3
  subst e1 e2 e3
  obtain ⟨hq, z1, z2⟩ := p3 (some ⟨some ⟨b1, 0, none⟩, c1, 1⟩) [] ⟨rfl, rfl⟩
  have hset : us.set o (.slice (some ⟨b1, 0, none⟩) (bwR s).length c1) = us := by
    apply List.ext_getElem?
    intro jj
    rw [List.getElem?_set]
    split
    · rename_i ej; subst ej
      first | (rw [if_pos hlt, hu0]; done) | exact hu0.symm | (simp only [hlt, if_true]; exact hu0.symm)
    · rfl
  rw [hset] at z1
  have hus := bwR_cells t5
  have ku := (hT.ok pt i ht).kind
  rw [hk] at ku
  have ku : P.underlying pt = some (.pointer e) := ku
  have hsl := bwR_len s
  have hcap := t4.cap
  have hmax := t4.max
  rw [hsl] at hcap
  have pp : hp.Perm ((b1, ⟨e, us1, ((c1 * 1 : Nat) : Tot)⟩) :: hq) := by
    rw [hbA_some] at p1
    exact p1.trans ((List.Perm.swap _ _ _).trans (z1.symm.cons _))
  refine OpS.of_run hd fun a w ha hw => ?_
  have hw1 := hw.perm pp
  have hnd := hw1.nd
  rw [List.map_cons, List.nodup_cons] at hnd
  have hw2 : Hp ⟨F, w0, hq⟩ w := hw1.sub (List.sublist_cons_self _ _)
  obtain ⟨junk, q1, q2⟩ : HasB w b1 ⟨e, us1, ((c1 * 1 : Nat) : Tot)⟩ := hw1.blk b1 _ List.mem_cons_self
  have q3 : us1.length + junk.length = c1 * 1 := q2
  have hsh : w.shape? b1 = some (e, c1) := by simp only [World.shape?, q1]; simp; omega
  have hrun := Go.Lib.run_unsafeString_row (P := P) w pt it ty e ku hc b1 c1 hsh s.data.toList (by intro e; apply h0; have := congrArg List.length e; simpa using this) (by simpa using hcap) (by unfold maxLen at hmax; simp; omega) (fun j v hv => by
    have hu : us1[j]? = some (.int .u8 v.toNat) := by rw [hus, Go.Lib.strCells, List.getElem?_map, hv]; rfl
    have := (show HasB w b1 ⟨e, us1, ((c1 * 1 : Nat) : Tot)⟩ from ⟨junk, q1, q2⟩).cell (x := ⟨e, us1, _⟩) hu
    unfold Addr.add
    split
    · rename_i h0; subst h0; exact this
    · simpa using this)
  have hb : (⟨s.data.toList.toArray⟩ : ByteArray) = s := by simp
  rw [hb] at hrun
  have hls : (s.data.toList.length : Int) = n := by rw [hn]; simp
  rw [hls] at hrun
  have e0 : (⟨b1, 0 * 1 + 0, none⟩ : Addr) = ⟨b1, 0, none⟩ := by simp
  rw [e0] at x1
  refine ⟨.string s, w.freeze ⟨b1, 0, none⟩ s.data.toList.length, _, by simp [execOp, resolve, invoke, builtin, ha.ev x1, ha.ev y1, hrun], hw2.other freeze_same (hw1.out b1 _ List.mem_cons_self) (fun x hx => hnd.1 (by have h9 := List.mem_map_of_mem (f := Prod.fst) hx; exact h9)), .of (z2.put (.d (.u (.str s (by omega))))) kk⟩⟩
end
end Go.Proofs.YtgloielnnakknaaDoor
namespace Go.Proofs.YtgloielnnakknaaDoor
open Go.RowKit
abbrev buP (j : Nat) : SV := .d (.u (.m 77 j 0))
abbrev buRow (p : V) (s : ByteArray) : List E := [.v p, .os 5 1 (bwR s)]
abbrev buOb (R : List (List E)) : List (Nat × Ob) := [(77, .fm 75 R)]
theorem set_at {α : Type} {l : List α} {j : Nat} {a b : α} (h : l[j]? = some a) : (l.set j b)[j]? = some b := by
  rw [List.getElem?_set]; simp [(List.getElem?_eq_some_iff.1 h).1]
theorem copyNew_T (R : List (List E)) (j : Nat) (s : ByteArray) (hR : R[j]? = some (buRow .pn s)) : CallsA Tryd.prog 44 [buP j] (buOb R) (Iso (.t []) (buOb (R.set j (buRow (.m 77 j 0) s)))) := by
  have hf := Tryd.func55
  refine callsA_of_vcO (T := tt) Tryd.func44 rfl rfl rfl rfl rfl ?_
  repeat' ((conv => whnf); first | refine Raw.toUnsafeM (T := tt) rfl rfl hR (by simp) rfl rfl (by kernel_rfl) (by kernel_rfl) rfl ?_ | refine Raw.fromUnsafeM (T := tt) (n0 := 2) rfl rfl hR rfl rfl rfl (by kernel_rfl) (by kernel_rfl) (by kernel_rfl) rfl ?_ | (refine CL.mk (Or.inr (Raw.extId (e := Extern.AbiNoEscape.same) rfl hf (by kernel_rfl) (by kernel_rfl) (by kernel_rfl) (by kernel_rfl) (fun _ _ => rfl) rfl ?_))) | refine Rw.get hR ?_ | refine Gs.id ?_ | with_reducible refine Brn.T rfl ?_ | fail)
  all_goals (conv => whnf)
  all_goals exact RetO.mk ⟨[], _, _, (by exact LeS.ts (by repeat (first | exact LeCs.nil | fail))), LeO.fm rfl rfl .nil, rfl, rfl⟩
theorem copyOld_T (R : List (List E)) (j : Nat) (s : ByteArray) (hR : R[j]? = some (buRow (.m 77 j 0) s)) : CallsA Tryd.prog 44 [buP j] (buOb R) (Iso (.t []) (buOb R)) := by
  have hj := (List.getElem?_eq_some_iff.1 hR).1
  refine callsA_of_vcO (T := tt) Tryd.func44 rfl rfl rfl rfl rfl ?_
  repeat' ((conv => whnf); first | refine Rw.get hR ?_ | refine Gs.id ?_ | with_reducible refine Brn.F rfl ?_ | refine Brn.F (by (try simp only [smT]); first | rfl | fail) ?_ | refine Pm.mk (by first | assumption | fail) (by first | assumption | fail) ?_ | fail)
  all_goals (conv => whnf)
  all_goals first | (exfalso; simp_all [notT]; done) | exact RetO.mk ⟨[], _, _, (by exact LeS.ts (by repeat (first | exact LeCs.nil | fail))), LeO.fm rfl rfl .nil, rfl, rfl⟩
abbrev wrR (s : ByteArray) : SV := .t [.d (.u (.int .i64 s.size)), .d (.u (.v .nilIface))]
theorem wrOld_T (R : List (List E)) (j : Nat) (a s : ByteArray) (ha : a.size ≤ 100000000) (hs : s.size ≤ 100000000) (hR : R[j]? = some (buRow (.m 77 j 0) a)) : CallsA Tryd.prog 32 [buP j, dsr s] (buOb R) (Iso (wrR s) (buOb (R.set j (buRow (.m 77 j 0) (a ++ s))))) := by
  have h1 := copyOld_T R j a hR
  have h2 := bwR_len a
  have hj := (List.getElem?_eq_some_iff.1 hR).1
  refine callsA_of_vcO (T := tt) Tryd.func32 rfl rfl rfl rfl rfl ?_
  repeat' ((conv => whnf); first | refine Raw.take 900 12 rfl rfl rfl hR rfl rfl rfl (Raw.appendStr (T := tt) rfl (by intro z r e; cases e) rfl rfl rfl rfl rfl rfl rfl rfl rfl rfl (by kernel_rfl) (by omega) rfl rfl ?_) | refine Rw.get hR ?_ | refine Rw.get (set_at hR) ?_ | refine Gs.id ?_ | (refine Bnd.mk (fun hm => ?_); (try simp only [smT] at hm)) | refine Len.mk (by first | rfl | fail) ?_ | (refine CL.mk (Or.inr (Raw.callI [77] [77] rfl rfl rfl rfl rfl rfl rfl (h1) ?_)); rintro _ _ ⟨rfl, rfl⟩; refine Bk.mk rfl rfl ?_))
  all_goals (conv => whnf)
  all_goals exact RetO.mk ⟨[], _, _, (by exact LeS.ts (by repeat (first | exact LeCs.nil | refine LeCs.cons (by first | exact LeC.d (by first | exact LeD.u rfl | fail) | fail) ?_))), LeO.fm rfl (by simp [buRow, bwR_app]) .nil, rfl, rfl⟩
theorem wrNew_T (R : List (List E)) (j : Nat) (a s : ByteArray) (ha : a.size ≤ 100000000) (hs : s.size ≤ 100000000) (hR : R[j]? = some (buRow .pn a)) : CallsA Tryd.prog 32 [buP j, dsr s] (buOb R) (Iso (wrR s) (buOb (R.set j (buRow (.m 77 j 0) (a ++ s))))) := by
  have h1 := copyNew_T R j a hR
  have h2 := bwR_len a
  have hj := (List.getElem?_eq_some_iff.1 hR).1
  have hR2 := set_at (b := buRow (.m 77 j 0) a) hR
  refine callsA_of_vcO (T := tt) Tryd.func32 rfl rfl rfl rfl rfl ?_
  repeat' ((conv => whnf); first | refine Raw.take 900 12 rfl rfl rfl hR2 rfl rfl rfl (Raw.appendStr (T := tt) rfl (by intro z r e; cases e) rfl rfl rfl rfl rfl rfl rfl rfl rfl rfl (by kernel_rfl) (by omega) rfl rfl ?_) | refine Rw.get hR2 ?_ | refine Rw.get (set_at hR2) ?_ | refine Gs.id ?_ | (refine Bnd.mk (fun hm => ?_); (try simp only [smT] at hm)) | refine Len.mk (by first | rfl | fail) ?_ | (refine CL.mk (Or.inr (Raw.callI [77] [77] rfl rfl rfl rfl rfl rfl rfl (h1) ?_)); rintro _ _ ⟨rfl, rfl⟩; refine Bk.mk rfl rfl ?_))
  all_goals (conv => whnf)
  all_goals exact RetO.mk ⟨[], _, _, (by exact LeS.ts (by repeat (first | exact LeCs.nil | refine LeCs.cons (by first | exact LeC.d (by first | exact LeD.u rfl | fail) | fail) ?_))), LeO.fm rfl (by simp [buRow, bwR_app]) .nil, rfl, rfl⟩
theorem len_T (R : List (List E)) (j : Nat) (p : V) (s : ByteArray) (hR : R[j]? = some (buRow p s)) : CallsA Tryd.prog 33 [buP j] (buOb R) (Iso (di s.size) (buOb R)) := by
  have h2 := bwR_len s
  refine callsA_of_vcO (T := tt) Tryd.func33 rfl rfl rfl rfl rfl ?_
  repeat' ((conv => whnf); first | refine Rw.get hR ?_ | refine Gs.id ?_ | (refine Bnd.mk (fun hm => ?_); (try simp only [smT] at hm)) | fail)
  all_goals (conv => whnf)
  all_goals exact RetO.mk ⟨[], _, _, .d (LeD.u (by rw [h2])), LeO.fm rfl rfl .nil, rfl, rfl⟩
theorem str_T (R : List (List E)) (j : Nat) (p : V) (s : ByteArray) (h0 : s.size ≠ 0) (hR : R[j]? = some (buRow p s)) : CallsA Tryd.prog 34 [buP j] (buOb R) (Iso (dsr s) (buOb (R.set j [.v p, .hl]))) := by
  have h2 := bwR_len s
  have h3 : (bwR s).length ≠ 0 := by omega
  refine callsA_of_vcO (T := tt) Tryd.func34 rfl rfl rfl rfl rfl ?_
  repeat' ((conv => whnf); first | refine Raw.sliceDataR rfl h3 rfl ?_ | refine Raw.unsafeStrR (T := tt) rfl rfl rfl rfl hR rfl (by rw [h2]) h0 rfl rfl (by kernel_rfl) rfl ?_ | refine Rw.get hR ?_ | refine Gs.id ?_ | with_reducible refine And.intro ?_ ?_ | (refine Bnd.mk (fun hm => ?_); (try simp only [smT] at hm)) | refine Drw.ofP (T := tt) (i := 1) [3, 4, 8, 9, 10, 11] [0, 1, 2, 5, 6, 7] [0, 1, 2, 5, 6, 7] (OT.alt 3 (OT.alt 4 (OT.alt 8 (OT.alt 9 (OT.alt 10 (OT.alt 11 OT.nil OT.nil) OT.nil) OT.nil) OT.nil) (OT.alt 8 (OT.alt 4 (OT.alt 9 (OT.alt 10 (OT.alt 11 OT.nil OT.nil) OT.nil) OT.nil) (OT.alt 9 (OT.alt 4 (OT.alt 10 (OT.alt 11 OT.nil OT.nil) OT.nil) OT.nil) OT.nil)) OT.nil)) (OT.alt 8 (OT.alt 3 (OT.alt 4 (OT.alt 9 (OT.alt 10 (OT.alt 11 OT.nil OT.nil) OT.nil) OT.nil) (OT.alt 9 (OT.alt 4 (OT.alt 10 (OT.alt 11 OT.nil OT.nil) OT.nil) OT.nil) OT.nil)) (OT.alt 9 (OT.alt 3 (OT.alt 4 (OT.alt 10 (OT.alt 11 OT.nil OT.nil) OT.nil) OT.nil) OT.nil) OT.nil)) OT.nil)) (by kernel_rfl) ?_)
  all_goals (conv => whnf)
  all_goals exact RetO.mk ⟨[], _, _, (by first | exact LeS.d (by first | exact LeD.u rfl | fail) | fail), LeO.fm rfl rfl .nil, rfl, rfl⟩
end Go.Proofs.YtgloielnnakknaaDoor
namespace Go.Proofs.YtgloielnnakknaaDoor
open Go.RowKit
abbrev spB : ByteArray := ⟨#[32]⟩
abbrev eqsB : ByteArray := ⟨#[61]⟩
abbrev colB : ByteArray := ⟨#[58]⟩
def nameM (mods : List Md) (j : Nat) : ByteArray := (nmOf mods j).getD emp
def attB (mods : List Md) (b : ByteArray) (a : At) : ByteArray := match a.mod with
  | none => b ++ (spB ++ a.name)
  | some j => (b ++ (spB ++ a.name)) ++ (eqsB ++ nameM mods j)
def attsB (mods : List Md) : ByteArray → List At → ByteArray
  | b, [] => b
  | b, a :: r => attsB mods (attB mods b a) r
def atsM (mods : List Md) (j : Nat) : List At := match mods[j]? with
  | some m => m.ats
  | none => []
def mdB (mods : List Md) (j : Nat) : ByteArray := attsB mods (emp ++ (nameM mods j ++ colB)) (atsM mods j)
def namesW (mods : List Md) : List ByteArray → List Nat → Option (List ByteArray)
  | out, [] => some out
  | out, j :: r => if 4000 < ((mdB mods j).size : Int) then none else namesW mods (out ++ [mdB mods j]) r
theorem cutM_size (s : ByteArray) : (cutM s).size ≤ s.size := by
  unfold cutM
  split
  · simp; omega
  · exact Nat.le_refl _
theorem lastP_size (s : ByteArray) : (lastP s).size ≤ s.size := by
  unfold lastP
  split
  · simp
  · exact Nat.le_refl _
theorem namesA_size {us : List Un} (hU : Uok us) {n : ByteArray} (h : n ∈ namesA us) : n.size ≤ 60 := by
  obtain ⟨u, hu, h⟩ := List.mem_flatMap.1 h
  rcases List.mem_cons.1 h with rfl | h
  · exact Nat.le_trans (lastP_size _) (hU.name u hu)
  · obtain ⟨t, ht, h⟩ := List.mem_flatMap.1 h
    obtain ⟨h1, h2⟩ := hU.step u hu t ht
    simp at h
    rcases h with rfl | rfl | rfl
    · exact h1
    · exact h2
    · exact Nat.le_trans (cutM_size _) h1
theorem nameM_size {us : List Un} (hU : Uok us) {s : Ld} (hI : Inv us s) (j : Nat) : (nameM s.mods j).size ≤ 60 := by
  unfold nameM nmOf
  cases h : s.mods[j]? with
  | none => simp; decide
  | some m => exact hasU_size hU (hI.nm m (List.mem_of_getElem? h))
theorem attsB_next {mods : List Md} {b : ByteArray} {l : List At} {q : Nat} {a : At} (h : l[q]? = some a) : attsB mods b (l.drop q) = attsB mods (attB mods b a) (l.drop (q + 1)) := by
  rw [List.drop_eq_getElem_cons (lt_get h), attsB, (List.getElem?_eq_some_iff.1 h).2]
theorem namesW_next {mods : List Md} {out : List ByteArray} {l : List Nat} {q j : Nat} (h : l[q]? = some j) : namesW mods out (l.drop q) = if 4000 < ((mdB mods j).size : Int) then none else namesW mods (out ++ [mdB mods j]) (l.drop (q + 1)) := by
  rw [List.drop_eq_getElem_cons (lt_get h), namesW, (List.getElem?_eq_some_iff.1 h).2]
abbrev nmOb : List (Nat × Ob) := [(1, .fm 0 []), (2, .fm 82 []), (77, .fm 75 [])]
end Go.Proofs.YtgloielnnakknaaDoor
namespace Go.Proofs.YtgloielnnakknaaDoor
open Go.RowKit
theorem fin_inv {l : List Un} (h : (validateM l).1 = 0) : Inv l (finS l) := (runM_P l 5001 initS 0 (init_inv h).1 (by simp [initS])).inv
theorem attB_size {mods : List Md} {b : ByteArray} {a : At} (ha : a.name.size ≤ 60) (hn : ∀ j, (nameM mods j).size ≤ 60) : (attB mods b a).size ≤ b.size + 122 ∧ b.size ≤ (attB mods b a).size := by
  have e1 : spB.size = 1 := rfl
  have e2 : eqsB.size = 1 := rfl
  unfold attB
  cases a.mod with
  | none => simp only [ByteArray.size_append, e1]; omega
  | some j => have := hn j; simp only [ByteArray.size_append, e1, e2]; omega
abbrev bu0 : List E := mkE [(1, 5, 1)] 0 [V.pn, V.nl]
set_option maxHeartbeats 4000000 in
theorem names_ok (l : List Un) (h1 : (validateM l).1 = 0) (h2 : (finS l).full = false) (res : List ByteArray) (hr : namesW (finS l).mods [] (finS l).table = some res) : CallsA Tryd.prog 18 [.d (.u (uns l))] nmOb (Iso (.t [.d (.ow 906 res.length), .a (fd (0, 0))]) [(906, .ar 9 1 (strs res))]) := by
  have hI := fin_inv h1
  obtain ⟨hU, _⟩ := valid_Uok h1
  generalize hz : finS l = z at h2 hr hI
  obtain ⟨zm, zt, zl, zf⟩ := z
  dsimp only at h2 hr
  subst h2
  have hl := loaded_T l h1 zm zt zl false hz
  rw [if_neg (by simp), if_neg (by simp)] at hl
  have htl := hI.tlen hU
  have htab := hI.tab
  have hnm := fun j => nameM_size hU hI j
  dsimp only at htl htab hnm
  have e1 : spB.size = 1 := rfl
  have e2 : eqsB.size = 1 := rfl
  have e3 : colB.size = 1 := rfl
  have e4 : emp.size = 0 := rfl
  refine callsA_of_vcO (T := tt) Tryd.func18 rfl rfl rfl rfl rfl ?_
  repeat' ((conv => whnf); first | refine Gs.go (i := 5) (Ghost.nlOw 6 906 9 1 rfl rfl) ?_ | refine Gs.id ?_ | with_reducible refine Brn.F rfl ?_ | (refine Bnd.mk (fun hm => ?_); (try simp only [smT] at hm)) | refine Rw.lit rfl ?_ | (refine CL.mk (Or.inr (Raw.callI [1,2] [1,2] rfl rfl rfl rfl rfl rfl rfl (hl) ?_)); rintro _ _ ⟨rfl, rfl⟩; refine Bk.mk rfl rfl ?_))
  all_goals (conv => whnf)
  refine ⟨⟨Nat × List ByteArray × List (List E), fun x => x.1 ≤ zt.length ∧ namesW zm x.2.1 (zt.drop x.1) = some res ∧ x.2.1.length ≤ x.1, fun x => zt.length - x.1, fun x => ⟨[(3, .d (.p 3 0)), (6, .d (.ow 906 x.2.1.length)), (24, .d (.r 1 0 1 1 zt.length)), (25, di zt.length), (26, di x.1)], (3, .bx 24 [.u (.int .i64 0), .u (.int .i64 0)]) :: (906, .ar 9 1 (strs x.2.1)) :: (77, .fm 75 x.2.2) :: ldOb l zm zt zl false⟩, (0, [], []), ⟨Nat.zero_le _, hr, Nat.le_refl _⟩, ⟨[(3, .k 3), (906, .k 906), (77, .k 77), (1, .k 1), (2, .k 2)], ⟨by (try dsimp only); (repeat (refine LeT.cons rfl (by first | exact LeS.d (by first | exact LeD.u rfl | exact LeD.p rfl | exact LeD.ow rfl rfl | exact LeD.u (by simp; done) | exact LeD.r (by simp; done) | fail) | fail) ?_)); exact LeT.nil, by (try dsimp only); repeat (first | exact LeO.nil | refine LeO.bx rfl rfl (by repeat (first | exact LeL.nil | refine LeL.cons (by first | exact LeD.u rfl | fail) ?_)) ?_ | refine LeO.ar rfl rfl (by first | rfl | fail) ?_ | refine LeO.fm rfl (by first | rfl | fail) ?_ | fail)⟩⟩, fun x hx => ?_⟩⟩
  obtain ⟨i, out, R⟩ := x
  obtain ⟨hi, he, hout⟩ := hx
  dsimp only at hi he hout ⊢
  by_cases h9 : i < zt.length
  · obtain ⟨j, hj⟩ : ∃ j, zt[i]? = some j := ⟨_, List.getElem?_eq_getElem h9⟩
    rw [namesW_next hj] at he
    have hjl := htab j (List.mem_of_getElem? hj)
    obtain ⟨⟨jn, jr, ja⟩, hjm⟩ : ∃ m, zm[j]? = some m := ⟨_, List.getElem?_eq_getElem hjl⟩
    have hal := hI.alen hU (List.mem_of_getElem? hjm)
    have hsub := hI.sub _ (List.mem_of_getElem? hjm)
    have hptr := hI.ptr _ (List.mem_of_getElem? hjm)
    have hjz := hasU_size hU (hI.nm _ (List.mem_of_getElem? hjm))
    dsimp only at hal hsub hptr hjz
    have hnj : nameM zm j = jn := by simp [nameM, nmOf, hjm]
    have haj : atsM zm j = ja := by simp [atsM, hjm]
    have hR0 : (R ++ [bu0])[R.length]? = some (buRow .pn emp) := by simp; rfl
    have hw0 := wrNew_T (R ++ [bu0]) R.length emp (jn ++ colB) (by rw [e4]; omega) (by simp only [ByteArray.size_append, e3]; omega) hR0
    have hR1 := set_at (b := buRow (.m 77 R.length 0) (emp ++ (jn ++ colB))) hR0
    generalize hM : mdB zm j = M at he
    rw [mdB, hnj, haj] at hM
    repeat' ((conv => whnf); first | refine Rw_get hj ?_ | refine Rw_md hjm ?_ | refine Cat.mk (by have q1 : (⟨#[58]⟩ : ByteArray).size = 1 := rfl; have q2 : (⟨#[32]⟩ : ByteArray).size = 1 := rfl; have q3 : (⟨#[61]⟩ : ByteArray).size = 1 := rfl; unfold maxLen; (try dsimp only); (try simp only [q1, q2, q3]); omega) ?_ | refine Gs.id ?_ | refine Brn.T (by (try simp only [smT]); first | rfl | omega | fail) ?_ | (refine Bnd.mk (fun hm => ?_); (try simp only [smT] at hm)) | refine Ixo.mk ⟨_, rfl, (by (try simp only [smT]); omega), ?_⟩ | refine Rw.lit rfl ?_ | (refine CL.mk (Or.inr (Raw.callI [77] [77] rfl rfl rfl rfl rfl rfl rfl (hw0) ?_)); rintro _ _ ⟨rfl, rfl⟩; refine Bk.mk rfl rfl ?_) | refine Spc.mk ⟨[(1,(5,1))], ?_⟩)
    all_goals (conv => whnf)
    refine ⟨⟨Nat × ByteArray × List (List E), fun y => y.1 ≤ ja.length ∧ attsB zm y.2.1 (ja.drop y.1) = M ∧ y.2.1.size ≤ 61 + 122 * y.1 ∧ 1 ≤ y.2.1.size ∧ y.2.2[R.length]? = some (buRow (.m 77 R.length 0) y.2.1), fun y => ja.length - y.1, fun y => ⟨[(3, .d (.p 3 0)), (6, .d (.ow 906 out.length)), (9, buP R.length), (24, .d (.r 1 0 1 1 zt.length)), (25, di zt.length), (26, di i), (39, .d (.r 2 j 2 2 ja.length)), (40, di ja.length), (41, di y.1)], (3, .bx 24 [.u (.int .i64 0), .u (.int .i64 0)]) :: (906, .ar 9 1 (strs out)) :: (77, .fm 75 y.2.2) :: ldOb l zm zt zl false⟩, (0, emp ++ (jn ++ colB), (R ++ [bu0]).set R.length (buRow (.m 77 R.length 0) (emp ++ (jn ++ colB)))), ⟨Nat.zero_le _, hM, by simp only [ByteArray.size_append, e3, e4]; omega, by simp only [ByteArray.size_append, e3]; omega, hR1⟩, ⟨[(3, .k 3), (906, .k 906), (77, .k 77), (1, .k 1), (2, .k 2)], ⟨by (try dsimp only); (repeat (refine LeT.cons rfl (by first | exact LeS.d (by first | exact LeD.u rfl | exact LeD.p rfl | exact LeD.ow rfl rfl | exact LeD.u (by simp; done) | exact LeD.r rfl | exact LeD.r (by simp; done) | fail) | fail) ?_)); exact LeT.nil, by (try dsimp only); repeat (first | exact LeO.nil | refine LeO.bx rfl rfl (by repeat (first | exact LeL.nil | refine LeL.cons (by first | exact LeD.u rfl | fail) ?_)) ?_ | refine LeO.ar rfl rfl (by first | rfl | fail) ?_ | refine LeO.fm rfl (by first | rfl | fail) ?_ | fail)⟩⟩, fun y hy => ?_⟩⟩
    obtain ⟨q, b, R1⟩ := y
    obtain ⟨hq, hb1, hb2, hb3, hRR⟩ := hy
    dsimp only at hq hb1 hb2 hb3 hRR ⊢
    by_cases h8 : q < ja.length
    · obtain ⟨⟨an, am⟩, hqa⟩ : ∃ a, ja[q]? = some a := ⟨_, List.getElem?_eq_getElem h8⟩
      rw [attsB_next hqa] at hb1
      have hanz := namesA_size hU (hsub _ (List.mem_of_getElem? hqa))
      have hpa := hptr _ (List.mem_of_getElem? hqa)
      have hsz := attB_size (b := b) (a := ⟨an, am⟩) hanz hnm
      dsimp only at hanz hpa
      have hw1 := wrOld_T R1 R.length b (spB ++ an) (by omega) (by simp only [ByteArray.size_append, e1]; omega) hRR
      have hRR2 := set_at (b := buRow (.m 77 R.length 0) (b ++ (spB ++ an))) hRR
      rcases am with _ | t
      · repeat' ((conv => whnf); first | refine Rw_md hjm ?_ | refine Rw_at hqa ?_ | refine Cat.mk (by have q1 : (⟨#[58]⟩ : ByteArray).size = 1 := rfl; have q2 : (⟨#[32]⟩ : ByteArray).size = 1 := rfl; have q3 : (⟨#[61]⟩ : ByteArray).size = 1 := rfl; unfold maxLen; (try dsimp only); (try simp only [q1, q2, q3]); omega) ?_ | refine Gs.id ?_ | with_reducible refine Brn.F rfl ?_ | refine Brn.T (by (try simp only [smT]); first | rfl | omega | fail) ?_ | refine Rng.mk (by (try simp only [smT]); omega) ?_ | refine Ixo.mk ⟨_, rfl, (by (try simp only [smT]); omega), ?_⟩ | (refine CL.mk (Or.inr (Raw.callI [77] [77] rfl rfl rfl rfl rfl rfl rfl (hw1) ?_)); rintro _ _ ⟨rfl, rfl⟩; refine Bk.mk rfl rfl ?_))
        all_goals (conv => whnf)
        all_goals exact ⟨(q + 1, b ++ (spB ++ an), R1.set R.length (buRow (.m 77 R.length 0) (b ++ (spB ++ an)))), ⟨by dsimp only; omega, hb1, by simp only [attB] at hsz; dsimp only; omega, by simp only [attB] at hsz; dsimp only; omega, hRR2⟩, by dsimp only; omega, [(3, .k 3), (906, .k 906), (77, .k 77), (1, .k 1), (2, .k 2)], ⟨by (try dsimp only); (repeat (refine LeT.cons rfl (by first | exact LeS.d (by first | exact LeD.u rfl | exact LeD.p rfl | exact LeD.ow rfl rfl | exact LeD.r rfl | fail) | fail) ?_)); exact LeT.nil, by (try dsimp only); repeat (first | exact LeO.nil | refine LeO.bx rfl rfl (by repeat (first | exact LeL.nil | refine LeL.cons (by first | exact LeD.u rfl | fail) ?_)) ?_ | refine LeO.ar rfl rfl (by first | rfl | fail) ?_ | refine LeO.fm rfl (by first | rfl | fail) ?_ | fail)⟩⟩
      · have htz := hpa t rfl
        obtain ⟨⟨tn, tr, ta⟩, htm⟩ : ∃ m, zm[t]? = some m := ⟨_, List.getElem?_eq_getElem htz⟩
        have hnt : nameM zm t = tn := by simp [nameM, nmOf, htm]
        have htns := hnm t
        rw [hnt] at htns
        simp only [attB, hnt] at hb1 hsz
        have hw2 := wrOld_T _ R.length (b ++ (spB ++ an)) (eqsB ++ tn) (by simp only [ByteArray.size_append, e1]; omega) (by simp only [ByteArray.size_append, e2]; omega) hRR2
        have hRR3 := set_at (b := buRow (.m 77 R.length 0) (b ++ (spB ++ an) ++ (eqsB ++ tn))) hRR2
        repeat' ((conv => whnf); first | refine Rw_md hjm ?_ | refine Rw_md htm ?_ | refine Rw_at hqa ?_ | refine Cat.mk (by have q1 : (⟨#[58]⟩ : ByteArray).size = 1 := rfl; have q2 : (⟨#[32]⟩ : ByteArray).size = 1 := rfl; have q3 : (⟨#[61]⟩ : ByteArray).size = 1 := rfl; unfold maxLen; (try dsimp only); (try simp only [q1, q2, q3]); omega) ?_ | refine Gs.id ?_ | with_reducible refine Brn.T rfl ?_ | refine Brn.T (by (try simp only [smT]); first | rfl | omega | fail) ?_ | refine Rng.mk (by (try simp only [smT]); omega) ?_ | refine Ixo.mk ⟨_, rfl, (by (try simp only [smT]); omega), ?_⟩ | (refine CL.mk (Or.inr (Raw.callI [77] [77] rfl rfl rfl rfl rfl rfl rfl (hw1) ?_)); rintro _ _ ⟨rfl, rfl⟩; refine Bk.mk rfl rfl ?_) | (refine CL.mk (Or.inr (Raw.callI [77] [77] rfl rfl rfl rfl rfl rfl rfl (hw2) ?_)); rintro _ _ ⟨rfl, rfl⟩; refine Bk.mk rfl rfl ?_))
        all_goals (conv => whnf)
        all_goals exact ⟨(q + 1, b ++ (spB ++ an) ++ (eqsB ++ tn), _), ⟨by dsimp only; omega, hb1, by dsimp only; omega, by dsimp only; omega, hRR3⟩, by dsimp only; omega, [(3, .k 3), (906, .k 906), (77, .k 77), (1, .k 1), (2, .k 2)], ⟨by (try dsimp only); (repeat (refine LeT.cons rfl (by first | exact LeS.d (by first | exact LeD.u rfl | exact LeD.p rfl | exact LeD.ow rfl rfl | exact LeD.r rfl | fail) | fail) ?_)); exact LeT.nil, by (try dsimp only); repeat (first | exact LeO.nil | refine LeO.bx rfl rfl (by repeat (first | exact LeL.nil | refine LeL.cons (by first | exact LeD.u rfl | fail) ?_)) ?_ | refine LeO.ar rfl rfl (by first | rfl | fail) ?_ | refine LeO.fm rfl (by first | rfl | fail) ?_ | fail)⟩⟩
    · obtain rfl : q = ja.length := by omega
      rw [List.drop_length, attsB] at hb1
      subst hb1
      have hlen := len_T R1 R.length _ b hRR
      have hstr := str_T R1 R.length _ b (by omega) hRR
      by_cases h4 : 4000 < (b.size : Int)
      · rw [if_pos h4] at he
        cases he
      · rw [if_neg h4] at he
        repeat' ((conv => whnf); first | refine Gs.id ?_ | refine Brn.F (by (try simp only [smT]); first | rfl | omega | fail) ?_ | refine Rng.mk (by (try simp only [smT]); omega) ?_ | refine Apd.mk (by first | rfl | simp) (by first | rfl | fail) (by (try simp only [smT]); first | omega | fail) (by unfold maxLen; first | (simp; omega) | fail) ?_ | (refine CL.mk (Or.inr (Raw.callI [77] [77] rfl rfl rfl rfl rfl rfl rfl (hlen) ?_)); rintro _ _ ⟨rfl, rfl⟩; refine Bk.mk rfl rfl ?_) | (refine CL.mk (Or.inr (Raw.callI [77] [77] rfl rfl rfl rfl rfl rfl rfl (hstr) ?_)); rintro _ _ ⟨rfl, rfl⟩; refine Bk.mk rfl rfl ?_))
        all_goals (conv => whnf)
        all_goals exact ⟨(i + 1, out ++ [b], R1.set R.length [.v (.m 77 R.length 0), .hl]), ⟨by dsimp only; omega, he, by simp; omega⟩, by dsimp only; omega, [(3, .k 3), (906, .k 66), (77, .k 77), (1, .k 1), (2, .k 2)], ⟨by (try dsimp only); (repeat (refine LeT.cons rfl (by first | exact LeS.d (by first | exact LeD.u rfl | exact LeD.p rfl | exact LeD.ow rfl (by simp) | exact LeD.r rfl | fail) | fail) ?_)); exact LeT.nil, by (try dsimp only); repeat (first | exact LeO.nil | refine LeO.bx rfl rfl (by repeat (first | exact LeL.nil | refine LeL.cons (by first | exact LeD.u rfl | fail) ?_)) ?_ | refine LeO.ar rfl rfl (by first | rfl | simp) ?_ | refine LeO.fm rfl (by first | rfl | fail) ?_ | fail)⟩⟩
  · obtain rfl : i = zt.length := by omega
    rw [List.drop_length, namesW] at he
    injection he with he
    subst he
    repeat' ((conv => whnf); first | refine Gs.id ?_ | refine Brn.F (by (try simp only [smT]); first | rfl | omega | fail) ?_ | fail)
    all_goals (conv => whnf)
    all_goals exact RetO.mk ⟨[(906, .k 906)], _, _, (by exact LeS.ts (by repeat (first | exact LeCs.nil | refine LeCs.cons (by first | exact LeC.d (by first | exact LeD.ow rfl rfl | fail) | exact LeC.a (by repeat (first | exact LeL.nil | refine LeL.cons (by first | exact LeD.u rfl | fail) ?_))) ?_))), (by repeat (first | exact LeO.nil | refine LeO.ar rfl rfl (by first | rfl | fail) ?_ | fail)), rfl, rfl⟩
end Go.Proofs.YtgloielnnakknaaDoor
namespace Go.Proofs.YtgloielnnakknaaDoor
open Go.RowKit
theorem nm_uns (l : List Un) : Nm (uns l) := .sl fun r hr x hx => by
  obtain ⟨u, _, rfl⟩ := List.mem_map.1 hr
  simp only [Un.row, List.mem_cons, List.not_mem_nil, or_false] at hx
  rcases hx with rfl | rfl
  · exact .str
  · refine .sl fun r hr x hx => ?_
    obtain ⟨t, _, rfl⟩ := List.mem_map.1 hr
    simp only [Stp.row, List.mem_cons, List.not_mem_nil, or_false] at hx
    rcases hx with rfl | rfl | rfl
    · exact .int
    · exact .str
    · exact .str
theorem no_fd (f : Int × Int) : NoC (.a (fd f)) := fun x hx => by
  simp only [fd, List.mem_cons, List.not_mem_nil, or_false] at hx
  rcases hx with rfl | rfl <;> exact .inl ⟨_, rfl, .int⟩
theorem no_own (k n : Nat) (f : Int × Int) : NoS (.t [.d (.ow k n), .a (fd f)]) := fun s hs => by
  simp only [List.mem_cons, List.not_mem_nil, or_false] at hs
  rcases hs with rfl | rfl
  · exact .inr ⟨_, _, rfl⟩
  · exact no_fd f
theorem no_nl (f : Int × Int) : NoS (.t [.d (.u .nl), .a (fd f)]) := fun s hs => by
  simp only [List.mem_cons, List.not_mem_nil, or_false] at hs
  rcases hs with rfl | rfl
  · exact .inl ⟨_, rfl, .nl⟩
  · exact no_fd f
theorem nm_arg (l : List Un) : ∀ s ∈ [(.d (.u (uns l)) : SV)], NmS s := fun s hs => by
  simp at hs; subst hs; exact ⟨_, rfl, nm_uns l⟩
/-- A fault of the loader. -/
def FltOf (l : List Un) (f : Int × Int) : Prop := ((validateM l).1 ≠ 0 ∧ f = validateM l) ∨ ((validateM l).1 = 0 ∧ (finS l).full = true ∧ f = (21, -1))
theorem load_flt (l : List Un) (f : Int × Int) (hf : FltOf l f) : CallsA Tryd.prog 14 [.d (.u (uns l))] [] (Is (.t [.d (.u .nl), .a (fd f)])) :=
  CallsA.hideO [(1, 0), (2, 82)] (nm_arg l) (no_nl f) (fun p hp => by cases hp) (load_bad l f hf)
theorem load_own (l : List Un) (h1 : (validateM l).1 = 0) (h2 : (finS l).full = false) : CallsA Tryd.prog 14 [.d (.u (uns l))] [] (Iso (.t [.d (.ow 905 (finS l).log.length), .a (fd (0, 0))]) [(905, .ar 43 2 ((finS l).log.map Ev.v))]) :=
  CallsA.hideO [(1, 0), (2, 82)] (nm_arg l) (no_own _ _ _) (fun p hp => by
    simp at hp
    subst hp
    refine ⟨_, _, _, rfl, fun r hr x hx => ?_⟩
    obtain ⟨a, _, rfl⟩ := List.mem_map.1 hr
    simp only [Ev.v, List.mem_cons, List.not_mem_nil, or_false] at hx
    rcases hx with rfl | rfl
    · exact .int
    · exact .str) (load_ok l h1 h2)
theorem names_own (l : List Un) (h1 : (validateM l).1 = 0) (h2 : (finS l).full = false) (res : List ByteArray) (hr : namesW (finS l).mods [] (finS l).table = some res) : CallsA Tryd.prog 18 [.d (.u (uns l))] [] (Iso (.t [.d (.ow 906 res.length), .a (fd (0, 0))]) [(906, .ar 9 1 (strs res))]) :=
  CallsA.hideO [(1, 0), (2, 82), (77, 75)] (nm_arg l) (no_own _ _ _) (fun p hp => by
    simp at hp
    subst hp
    refine ⟨_, _, _, rfl, fun r hr x hx => ?_⟩
    obtain ⟨a, _, rfl⟩ := List.mem_map.1 hr
    simp only [List.mem_cons, List.not_mem_nil, or_false] at hx
    subst hx
    exact .str) (names_ok l h1 h2 res hr)
/-- The two units of the check. -/
def circL : List Un := [⟨⟨#[109, 97, 105, 110]⟩, [⟨3, ⟨#[97]⟩, emp⟩]⟩, ⟨⟨#[97]⟩, [⟨3, ⟨#[109, 97, 105, 110]⟩, emp⟩]⟩]
theorem circle_T : CallsA Tryd.prog 25 [] [] (Is (.d (.u (uns circL)))) := by
  refine callsA_of_vc (T := tt) Tryd.func25 rfl rfl rfl rfl rfl ?_
  repeat' ((conv => whnf); first | refine Gs.go (i := 3) ((Ghost.frzA 4 rfl (by repeat ((conv => whnf); first | exact trivial | refine Len.mk (by first | rfl | fail) ?_))).trans (Ghost.frzA 6 rfl (by repeat ((conv => whnf); first | exact trivial | refine Len.mk (by first | rfl | fail) ?_)))) ?_ | refine Gs.id ?_ | refine Len.mk (by first | rfl | fail) ?_ | fail)
  all_goals (conv => whnf)
  · exact Ret.is (by rfl)
theorem circ_ok : (validateM circL).1 = 0 := by decide +kernel
theorem circ_full : (finS circL).full = false := by decide +kernel
theorem circ_log : (finS circL).log.map (fun e => (e.kind, e.name)) = [(1, mainB), (1, ⟨#[97]⟩), (5, mainB), (2, ⟨#[97]⟩), (2, mainB)] := by decide +kernel
def circN : List ByteArray := [⟨#[109, 97, 105, 110, 58, 32, 97, 61, 97]⟩, ⟨#[97, 58, 32, 109, 97, 105, 110, 61, 109, 97, 105, 110]⟩]
theorem circ_names : namesW (finS circL).mods [] (finS circL).table = some circN := by decide +kernel
end Go.Proofs.YtgloielnnakknaaDoor
namespace Go.Proofs.YtgloielnnakknaaDoor
open Go.RowKit
abbrev circR : List (List V) := [[.int .i64 1, .str mainB], [.int .i64 1, .str ⟨#[97]⟩], [.int .i64 5, .str mainB], [.int .i64 2, .str ⟨#[97]⟩], [.int .i64 2, .str mainB]]
theorem circ_rows : (finS circL).log.map Ev.v = circR := by
  have h : (finS circL).log.map Ev.v = ((finS circL).log.map fun e => (e.kind, e.name)).map fun p => [V.int .i64 p.1, V.str p.2] := by rw [List.map_map]; rfl
  rw [h, circ_log]; rfl
theorem circ_len : (finS circL).log.length = 5 := by
  have := congrArg List.length circ_log
  simpa using this
theorem circLoad_T : CallsA Tryd.prog 14 [.d (.u (uns circL))] [] (Iso (.t [.d (.ow 905 5), .a (fd (0, 0))]) [(905, .ar 43 2 circR)]) := by
  have h := load_own circL circ_ok circ_full
  rw [circ_rows, circ_len] at h
  exact h
theorem circNames_T : CallsA Tryd.prog 18 [.d (.u (uns circL))] [] (Iso (.t [.d (.ow 906 2), .a (fd (0, 0))]) [(906, .ar 9 1 (strs circN))]) := names_own circL circ_ok circ_full circN circ_names
def abB : ByteArray := ⟨#[97, 46, 98]⟩
def abL : List ByteArray := [⟨#[97]⟩, ⟨#[97, 46, 98]⟩]
theorem ab_chain : dottedM abB = true ∧ chainM abB = abL := by decide +kernel
theorem abChain_T : CallsA Tryd.prog 8 [.d (.u (.str ⟨#[97, 46, 98]⟩))] [] (Is (.t [.d (.u (strs' abL)), .a (fd (0, 0))])) := by
  have h := chainOk_T abB ab_chain.1
  rw [ab_chain.2] at h
  exact h
theorem imported_T : CallsA Tryd.prog 11 [] [] (Is (db true)) := by
  have h1 := strings_R circN circN
  have h2 := strings_R abL abL
  rw [decide_eq_true rfl] at h1 h2
  refine callsA_of_vc (T := tt) Tryd.func11 rfl rfl rfl rfl rfl ?_
  repeat' ((conv => whnf); first | refine Gs.id ?_ | with_reducible refine Brn.T rfl ?_ | with_reducible refine Brn.F rfl ?_ | refine Brn.T (by (try simp only [smT]); first | rfl | assumption | fail) ?_ | refine Brn.F (by (try simp only [smT]); first | rfl | assumption | fail) ?_ | (refine Brn.mk (fun hb => ?_) (fun hb => ?_) <;> (try simp only [smT] at hb) <;> (try (exact absurd trivial hb)) <;> (try (exfalso; omega))) | (refine Bnd.mk (fun hm => ?_); (try simp only [smT] at hm)) | refine Ixo.mk ⟨_, rfl, (by (try simp only [smT]); omega), ?_⟩ | refine Rw.lit rfl ?_ | refine Eqv.mk (by kernel_rfl) ?_ | (refine CL.mk (Or.inl ?_); (conv => whnf); first | refine Cl.is (circle_T) rfl (by first | (intro e; cases e; done) | fail) ?_ | refine Cl.is (abChain_T) rfl (by first | (intro e; cases e; done) | fail) ?_ | fail) | (refine CL.mk (Or.inl ?_); (conv => whnf); refine ClO.mk (Or.inl ?_); (repeat ((conv => whnf); refine Len.mk (by first | rfl | fail) ?_)); (conv => whnf); first | refine Cl.is (h1) rfl (by first | exact fun _ => rfl | fail) ?_ | refine Cl.is (h2) rfl (by first | exact fun _ => rfl | fail) ?_) | (refine CL.mk (Or.inr (Raw.callI [] [905] rfl rfl rfl rfl rfl rfl rfl (circLoad_T) ?_)); rintro _ _ ⟨rfl, rfl⟩; refine Bk.mk rfl rfl ?_) | (refine CL.mk (Or.inr (Raw.callI [] [906] rfl rfl rfl rfl rfl rfl rfl (circNames_T) ?_)); rintro _ _ ⟨rfl, rfl⟩; refine Bk.mk rfl rfl ?_))
  all_goals (conv => whnf)
  all_goals first | exact Ret.is rfl | (exfalso; have q : (mainB.toList == (⟨#[109, 97, 105, 110]⟩ : ByteArray).toList) = true := (by decide +kernel); simp_all)
end Go.Proofs.YtgloielnnakknaaDoor
namespace Go.Proofs.YtgloielnnakknaaDoor
open Go.RowKit
def hlL (l : List UInt8) : Nat → List (List UInt8)
  | 0 => []
  | i + 1 => if l[i]? = some 46 then hlL l i ++ [l.take i] else hlL l i
def chainL : List UInt8 → List (List UInt8)
  | [] => [[]]
  | b :: l => (if b = 46 then [[]] else []) ++ (chainL l).map (b :: ·)
theorem hlL_cons (b : UInt8) (l : List UInt8) : ∀ i, hlL (b :: l) (i + 1) = (if b = 46 then [[]] else []) ++ (hlL l i).map (b :: ·)
  | 0 => by
    simp only [hlL, List.getElem?_cons_zero, Option.some.injEq, List.map_nil, List.append_nil, List.take_zero, List.nil_append]
  | i + 1 => by
    rw [hlL, hlL_cons b l i, hlL]
    simp only [List.getElem?_cons_succ]
    split
    · simp
    · rfl
theorem hlL_chainL : ∀ l : List UInt8, hlL l l.length ++ [l] = chainL l
  | [] => rfl
  | b :: l => by
    rw [List.length_cons, hlL_cons, chainL, ← hlL_chainL l]
    simp
theorem heads_tl (s : ByteArray) : ∀ i, tl (headsB s i) = hlL s.data.toList i
  | 0 => rfl
  | i + 1 => by
    have ih := heads_tl s i
    have e : s.data[i]? = s.data.toList[i]? := by simp
    rw [headsB, hlL, e]
    split
    · have h2 := extract_tl s 0 i
      simp only [tl, List.map_append, List.map_cons, List.map_nil] at ih ⊢
      rw [ih, h2]; simp
    · exact ih
theorem chainM_tl (s : ByteArray) : tl (chainM s) = chainL s.data.toList := by
  have h := heads_tl s s.size
  have e : s.size = s.data.toList.length := by simp
  rw [← hlL_chainL, ← e, ← h]
  simp [tl, chainM]
def chainP : List (List UInt8) → List (List UInt8)
  | [] => []
  | x :: r => x :: (chainP r).map (x ++ 46 :: ·)
theorem chainP_dotL : ∀ l : List UInt8, chainP (dotL l) = chainL l
  | [] => rfl
  | b :: l => by
    have ih := chainP_dotL l
    rw [chainL, ← ih]
    by_cases hb : b = 46
    · subst hb
      rw [dotL, if_pos rfl, chainP, if_pos rfl]
      rfl
    · rw [dotL_cons hb, if_neg hb]
      cases h : dotL l with
      | nil => exact absurd h (dotL_ne l)
      | cons x r =>
        simp [preL, chainP]
def joinL : List (List UInt8) → List UInt8
  | [] => []
  | [x] => x
  | x :: y :: r => x ++ 46 :: joinL (y :: r)
theorem chainP_len : ∀ D, (chainP D).length = D.length
  | [] => rfl
  | x :: r => by simp [chainP, chainP_len r]
theorem chainP_get : ∀ (D : List (List UInt8)) (q : Nat), q < D.length → (chainP D)[q]? = some (joinL (D.take (q + 1)))
  | [], q, h => by simp at h
  | x :: r, 0, _ => by simp [chainP, joinL]
  | x :: r, q + 1, h => by
    have hq : q < r.length := by simpa using h
    have ih := chainP_get r q hq
    rw [chainP, List.getElem?_cons_succ, List.getElem?_map, ih]
    cases r with
    | nil => simp at hq
    | cons y t => simp [joinL]
theorem joinL_snoc (x : List UInt8) : ∀ (a : List (List UInt8)), a ≠ [] → joinL (a ++ [x]) = joinL a ++ 46 :: x
  | [], h => absurd rfl h
  | [y], _ => by simp [joinL]
  | y :: z :: r, _ => by
    have ih := joinL_snoc x (z :: r) (by simp)
    simp only [List.cons_append, joinL] at ih ⊢
    rw [ih]; simp
theorem joinB_tl (l : List ByteArray) : ∀ n, n ≤ l.length → (joinB l dot n).data.toList = joinL (tl (l.take n))
  | 0, _ => by simp [joinB, joinL]
  | n + 1, h => by
    have ih := joinB_tl l n (by omega)
    have hn : n < l.length := by omega
    have e : l.take (n + 1) = l.take n ++ [l[n]] := List.take_succ_eq_append_getElem hn
    have ed : dot.data.toList = [46] := rfl
    rw [joinB, e]
    simp only [List.getElem?_eq_getElem hn, Option.getD_some, tl, List.map_append, List.map_cons, List.map_nil, ByteArray.data_append, Array.toList_append] at ih ⊢
    by_cases h0 : 0 < n
    · rw [if_pos h0, joinL_snoc _ _ (by intro e; have h9 := congrArg List.length e; rw [List.length_map, List.length_take, List.length_nil] at h9; omega)]
      simp only [ByteArray.data_append, Array.toList_append, ih, ed]
      simp
    · have : n = 0 := by omega
      subst this
      rw [if_neg h0]
      simp [joinB, joinL]
theorem chain_parts_len (s : ByteArray) : (chainM s).length = (parts s).length := by
  have h1 := congrArg List.length (chainM_tl s)
  have h2 := congrArg List.length (parts_dotL s)
  rw [← chainP_dotL, chainP_len, ← h2] at h1
  simpa [tl] using h1
/-- The names of the reference's chain. -/
theorem chain_join (s : ByteArray) (q : Nat) (hq : q < (parts s).length) : (chainM s)[q]? = some (joinB ((parts s).take (q + 1)) dot (q + 1)) := by
  have hl := chain_parts_len s
  have hq' : q < (chainM s).length := by omega
  rw [List.getElem?_eq_getElem hq']
  congr 1
  have h1 : (tl (chainM s))[q]? = some ((chainM s)[q]).data.toList := by simp [tl, hq']
  rw [chainM_tl, ← chainP_dotL, chainP_get _ q (by rw [← parts_dotL]; simpa [tl] using hq), ← parts_dotL] at h1
  have h2 := joinB_tl ((parts s).take (q + 1)) (q + 1) (by simp; omega)
  injection h1 with h1
  have h3 : tl (((parts s).take (q + 1)).take (q + 1)) = (tl (parts s)).take (q + 1) := by simp [tl, List.map_take, List.take_take]
  rw [h3, h1] at h2
  have : [(chainM s)[q]] = [joinB ((parts s).take (q + 1)) dot (q + 1)] := tl_inj (by simp [tl, h2])
  simpa using this
end Go.Proofs.YtgloielnnakknaaDoor
namespace Go.Proofs.YtgloielnnakknaaDoor
open Go.RowKit
theorem parts_len (s : ByteArray) : (parts s).length ≤ s.size + 1 := by
  rw [← chain_parts_len]; exact chain_len s
theorem parts_size (s : ByteArray) : ∀ y ∈ parts s, y.size ≤ s.size := by
  have h : ∀ l : List UInt8, ∀ y ∈ dotL l, y.length ≤ l.length := by
    intro l
    induction l with
    | nil => intro y hy; simp [dotL] at hy; subst hy; simp
    | cons b l ih =>
      intro y hy
      by_cases hb : b = 46
      · subst hb
        rw [dotL, if_pos rfl] at hy
        rcases List.mem_cons.1 hy with rfl | hy
        · simp
        · have := ih y hy; simp; omega
      · rw [dotL_cons hb] at hy
        cases hd : dotL l with
        | nil => exact absurd hd (dotL_ne l)
        | cons x r =>
          rw [hd] at hy ih
          simp only [preL, List.singleton_append, List.mem_cons] at hy
          rcases hy with rfl | hy
          · have := ih x (by simp); simp; omega
          · have := ih y (by simp [hy]); simp; omega
  intro y hy
  have h1 : y.data.toList ∈ tl (parts s) := List.mem_map.2 ⟨y, hy, rfl⟩
  rw [parts_dotL] at h1
  have := h _ _ h1
  simpa using this
theorem total_le (l : List ByteArray) (c : Nat) (h : ∀ y ∈ l, y.size ≤ c) : ∀ n, total l dot n ≤ n * (c + 1)
  | 0 => by simp [total]
  | n + 1 => by
    have ih := total_le l c h n
    have hd : dot.size = 1 := rfl
    have : (l[n]?.getD (ByteArray.mk #[])).size ≤ c := by
      cases e : l[n]? with
      | none => simp; exact Nat.zero_le _
      | some y => exact h y (List.mem_of_getElem? e)
    rw [total, Nat.succ_mul, hd]
    omega
theorem chain_R (s : ByteArray) (hs : s.size ≤ 1000) : CallsA Tryd.prog 13 [dsr s] [] (Is (.d (.u (strs' (chainM s))))) := by
  have hsp := split46_R s (by omega)
  have hcl := chain_parts_len s
  have hpl := parts_len s
  have hps := parts_size s
  have hcj := chain_join s
  generalize chainM s = C at *
  generalize parts s = D at *
  refine callsA_of_vc (T := tt) Tryd.func13 rfl rfl rfl rfl rfl ?_
  repeat' ((conv => whnf); first | refine Gs.go (i := 3) (Ghost.nlOw 4 906 9 1 rfl rfl) ?_ | refine Gs.id ?_ | (refine CL.mk (Or.inl ?_); (conv => whnf); refine Cl.is (hsp) rfl (by first | (intro e; cases e; done) | fail) ?_) | fail)
  all_goals (conv => whnf)
  refine ⟨⟨Nat, fun i => i ≤ D.length, fun i => D.length - i, fun i => ⟨[(3, .d (.u (strs' D))), (4, .d (.ow 906 (C.take i).length)), (5, di i)], [(906, .ar 9 1 (strs (C.take i)))]⟩, 0, Nat.zero_le _, ⟨[(906, .k 906)], ⟨by (try dsimp only); (repeat (refine LeT.cons rfl (by first | exact LeS.d (by first | exact LeD.u rfl | exact LeD.ow rfl rfl | fail) | fail) ?_)); exact LeT.nil, by (try dsimp only); repeat (first | exact LeO.nil | refine LeO.ar rfl rfl (by first | rfl | fail) ?_ | fail)⟩⟩, fun i hi => ?_⟩⟩
  dsimp only at hi ⊢
  by_cases h9 : i < D.length
  · have hj : ∀ r, r = strs (D.take (i + 1)) → CallsA Tryd.prog 26 [.d (.u (.sl 1 r)), dsr dot] [] (Is (dsr (joinB (D.take (i + 1)) dot (i + 1)))) := fun r e => by
      have h1 : (D.take (i + 1)).length = i + 1 := by simp; omega
      have h2 := total_le (D.take (i + 1)) 1000 (fun y hy => by have := hps y (List.mem_of_mem_take hy); omega) (i + 1)
      have h3 := join_R (D.take (i + 1)) dot (by rw [h1]; omega)
      rw [h1] at h3
      rw [e]; exact h3
    have hci := hcj i h9
    have htk : C.take (i + 1) = C.take i ++ [joinB (D.take (i + 1)) dot (i + 1)] := by rw [List.take_add_one, hci]; rfl
    have hlen : (C.take i).length ≤ 1001 := by simp; omega
    generalize joinB (D.take (i + 1)) dot (i + 1) = y at *
    generalize hC1 : C.take i = C1 at *
    repeat' ((conv => whnf); first | refine Gs.id ?_ | refine Brn.T (by (try simp only [smT]); first | rfl | omega | fail) ?_ | (refine Bnd.mk (fun hm => ?_); (try simp only [smT] at hm)) | refine Rng.mk (by (try simp only [smT]); omega) ?_ | refine Apd.mk (by first | rfl | simp) (by first | rfl | fail) (by (try simp only [smT]); first | omega | fail) (by unfold maxLen; first | (simp; omega) | fail) ?_ | refine Slc.mk ⟨_, _, rfl, rfl, (by (try simp only [smT]); omega), (by (try simp only [smT]); omega), ?_⟩ | (refine CL.mk (Or.inl ?_); (conv => whnf); refine Cl.is (hj _ (by simp [List.map_take])) rfl (by first | exact fun _ => rfl | fail) ?_) | fail)
    all_goals (conv => whnf)
    all_goals
      refine ⟨i + 1, by omega, by omega, [(906, .k 21)], ?_⟩
      rw [htk]
      exact ⟨by (try dsimp only); (repeat (refine LeT.cons rfl (by first | exact LeS.d (by first | exact LeD.u rfl | exact LeD.ow rfl (by simp) | fail) | fail) ?_)); exact LeT.nil, by (try dsimp only); repeat (first | exact LeO.nil | refine LeO.ar rfl rfl (by first | simp) ?_ | fail)⟩
  · obtain rfl : i = D.length := by omega
    rw [← hcl, List.take_length]
    repeat' ((conv => whnf); first | refine Gs.id ?_ | refine Brn.F (by (try simp only [smT]); first | rfl | omega | fail) ?_ | (refine Bnd.mk (fun hm => ?_); (try simp only [smT] at hm)) | refine Len.mk (by first | rfl | (simp; done) | fail) ?_ | fail)
    all_goals (conv => whnf)
    all_goals exact Ret.is (by rfl)
end Go.Proofs.YtgloielnnakknaaDoor
namespace Go.Proofs.YtgloielnnakknaaDoor
open Go.RowKit
theorem Ix_at {l : List ByteArray} {n : Int} {p : Nat} {z : ByteArray} {K : List V → Prop} (hn : n = (p : Int)) (h : l[p]? = some z) (k : K [V.str z]) : Ix (strs l) n K := by
  subst hn
  exact Ix.map rfl (lt_get h) (by rw [(List.getElem?_eq_some_iff.1 h).2]; exact k)
end Go.Proofs.YtgloielnnakknaaDoor
namespace Go.Proofs.YtgloielnnakknaaDoor
open Go.RowKit
inductive Rs where
  | go (b o : List ByteArray)
  | stop
  | bad
def inB (n : ByteArray) (l : List ByteArray) : Bool := l.any fun m => decide (m = n)
def beginOk (n : ByteArray) (b : List ByteArray) : Bool := !inB n b && (decide ((chainM n).length ≤ 1) || inB (parB n) b)
def on1 : Rs → Ev → Rs
  | .go b o, e => if e.kind = 3 ∨ e.kind = 6 then .stop else if e.kind = 1 then (if beginOk e.name b = true then .go (b ++ [e.name]) (o ++ [e.name]) else .bad) else if e.kind = 2 then (if o.getLast? = some e.name then .go b o.dropLast else .bad) else .go b o
  | r, _ => r
def onL (r : Rs) (l : List Ev) : Rs := l.foldl on1 r
abbrev onS (s : Ld) : Rs := onL (.go [] []) s.log
abbrev names (s : Ld) : List ByteArray := s.mods.map Md.name
structure Alive (s : Ld) (o : List ByteArray) : Prop where
  on : onS s = .go (names s) o
  all : ∀ j, j < s.mods.length → j ∈ s.table
structure Pre (s : Ld) (i : Nat) (o : List ByteArray) : Prop where
  on : onS s = .go (names s).dropLast o
  all : ∀ j, j < s.mods.length → j ∈ s.table
  last : i + 1 = s.mods.length
  new : beginOk (nameS s i) (names s).dropLast = true
theorem inB_mem {n : ByteArray} {l : List ByteArray} : inB n l = true ↔ n ∈ l := by
  simp [inB]
theorem noteS_log {s : Ld} {k : Int} {n : ByteArray} : (noteS s k n).full = true ∨ (s.full = false ∧ (noteS s k n).log = s.log ++ [⟨k, n⟩]) := by
  unfold noteS noteLog
  cases h : noteFull s.log s.full
  · right
    refine ⟨?_, by simp⟩
    unfold noteFull at h
    simp at h; exact h.1
  · exact .inl rfl
theorem onS_note {s : Ld} {k : Int} {n : ByteArray} (h : (noteS s k n).full = false) : onS (noteS s k n) = on1 (onS s) ⟨k, n⟩ := by
  rcases noteS_log (s := s) (k := k) (n := n) with h1 | ⟨_, h2⟩
  · rw [h] at h1; cases h1
  · unfold onS onL; rw [h2, List.foldl_append]; rfl
theorem names_upd {s : Ld} {i : Nat} {f : Md → Md} (hf : ∀ m, (f m).name = m.name) : names (updS s i f) = names s := by
  apply List.ext_getElem?
  intro j
  simp only [names, updS, List.getElem?_map, updM_get]
  cases s.mods[j]? with
  | none => rfl
  | some m =>
    simp only [Option.map_some]
    split
    · rw [hf]
    · rfl
theorem Alive.upd {s : Ld} {o : List ByteArray} (h : Alive s o) {i : Nat} {f : Md → Md} (hf : ∀ m, (f m).name = m.name) : Alive (updS s i f) o :=
  ⟨by rw [names_upd hf]; exact h.on, fun j hj => h.all j (by simpa [updS, updM_len] using hj)⟩
theorem Alive.set {s : Ld} {o : List ByteArray} (h : Alive s o) (i : Nat) (n : ByteArray) (v : Option Nat) : Alive (setS s i n v) o := h.upd fun _ => rfl
theorem Alive.drop {s : Ld} {o : List ByteArray} (h : Alive s o) (i : Nat) (n : ByteArray) : Alive (dropS s i n) o := h.upd fun _ => rfl
theorem Alive.run {s : Ld} {o : List ByteArray} (h : Alive s o) (i : Nat) (d : Int) : Alive (runS s i d) o := h.upd fun _ => rfl
/-- Too many events, or all well so far. -/
def Fa (s : Ld) (o : List ByteArray) : Prop := s.full = true ∨ Alive s o
def Fd (s : Ld) : Prop := s.full = true ∨ onS s = .stop
def RO (us : List Un) (R : Ld → Nat → Ld × Bool) : Prop := ∀ s i o, Inv us s → i < s.mods.length → (s.full = true ∨ Pre s i o) → ((R s i).2 = true → Fa (R s i).1 o) ∧ ((R s i).2 = false → Fd (R s i).1)
def SO (us : List Un) (St : Ld → Nat → Stp → Ld × Bool) : Prop := ∀ s i t o, Inv us s → i < s.mods.length → (∃ u ∈ us, t ∈ u.steps) → Fa s o → ((St s i t).2 = true → Fa (St s i t).1 o) ∧ ((St s i t).2 = false → Fd (St s i t).1 ∨ Fa (St s i t).1 o)
theorem Fd.note {s : Ld} (h : Fd s) (k : Int) (n : ByteArray) : Fd (noteS s k n) := by
  rcases h with h | h
  · exact .inl (noteFull_mono h)
  · cases hf : (noteS s k n).full
    · exact .inr (by rw [onS_note hf, h]; rfl)
    · exact .inl hf
theorem Fa.fail {s : Ld} {o : List ByteArray} (h : Fa s o) {k : Int} (hk : k = 3 ∨ k = 6) (n : ByteArray) : Fd (noteS s k n) := by
  rcases h with h | h
  · exact .inl (noteFull_mono h)
  · cases hf : (noteS s k n).full
    · refine .inr ?_
      rw [onS_note hf, h.on]
      simp only [on1]
      rw [if_pos hk]
    · exact .inl hf
theorem Fa.other {s : Ld} {o : List ByteArray} (h : Fa s o) {k : Int} (hk : k = 4 ∨ k = 5) (n : ByteArray) : Fa (noteS s k n) o := by
  rcases h with h | h
  · exact .inl (noteFull_mono h)
  · cases hf : (noteS s k n).full
    · refine .inr ⟨?_, h.all⟩
      rw [onS_note hf, h.on]
      simp only [on1]
      rw [if_neg (by omega), if_neg (by omega), if_neg (by omega)]
      rfl
    · exact .inl hf
theorem stepsW_O {us : List Un} {St : Ld → Nat → Stp → Ld × Bool} (hP : SP us St) (hS : SO us St) (i : Nat) (o : List ByteArray) : ∀ (l : List Stp) (s : Ld), Inv us s → i < s.mods.length → (∀ t ∈ l, ∃ u ∈ us, t ∈ u.steps) → Fa s o → ((stepsW St i s l).2 = true → Fa (stepsW St i s l).1 o) ∧ ((stepsW St i s l).2 = false → Fd (stepsW St i s l).1 ∨ Fa (stepsW St i s l).1 o)
  | [], s, _, _, _, h => ⟨fun _ => h, fun e => by cases e⟩
  | t :: r, s, hI, hi, hl, h => by
    simp only [stepsW]
    split
    · exact ⟨fun e => (by cases e), fun _ => .inr h⟩
    · have g := hP s i t hI hi (hl t (by simp))
      obtain ⟨q1, q2⟩ := hS s i t o hI hi (hl t (by simp)) h
      split
      · rename_i e
        exact stepsW_O hP hS i o r _ g.inv (Nat.lt_of_lt_of_le hi g.keep.len) (fun t ht => hl t (by simp [ht])) (q1 e)
      · rename_i e
        exact ⟨fun e => (by cases e), fun _ => q2 (by simpa using e)⟩
theorem dropLast_last {α : Type} {l : List α} {i : Nat} {a : α} (h : l[i]? = some a) (hi : i + 1 = l.length) : l.dropLast ++ [a] = l := by
  have hne : l ≠ [] := fun e => by subst e; simp at hi
  have h1 := List.dropLast_concat_getLast hne
  have h2 : l.getLast hne = a := by
    rw [List.getLast_eq_getElem]
    have := (List.getElem?_eq_some_iff.1 h).2
    rw [← this]; congr 1; omega
  rw [← h2]; exact h1
theorem nameS_get {s : Ld} {i : Nat} (h : i < s.mods.length) : (names s)[i]? = some (nameS s i) := by
  have := nameS_nm h
  simpa [nmOf, names] using this
theorem runW_O {us : List Un} {St : Ld → Nat → Stp → Ld × Bool} (hP : SP us St) (hS : SO us St) : RO us (runW St us) := fun s i o hI hi h => by
  have h1 : Inv us (beginS s i) := (hI.note 1 _).run i 1
  have hi1 : i < (beginS s i).mods.length := by simpa [beginS, runS, updS, updM_len, noteS] using hi
  have hb : Fa (beginS s i) (o ++ [nameS s i]) := by
    rcases h with h | h
    · exact .inl (noteFull_mono h)
    · cases hf : (noteS s 1 (nameS s i)).full
      · have ha : Alive (noteS s 1 (nameS s i)) (o ++ [nameS s i]) := ⟨?_, h.all⟩
        · exact .inr (ha.run i 1)
        rw [onS_note hf, h.on]
        simp only [on1]
        rw [if_neg (by omega), if_pos trivial, if_pos h.new]
        have hnn : names (noteS s 1 (nameS s i)) = names s := rfl
        rw [dropLast_last (nameS_get hi) (by simpa [names] using h.last), hnn]
      · exact .inl hf
  obtain ⟨q1, q2⟩ := stepsW_O hP hS i (o ++ [nameS s i]) (unitS us (nameS s i)) (beginS s i) h1 hi1 (fun t ht => unitS_mem ht) hb
  have g := stepsW_P hP i (unitS us (nameS s i)) (beginS s i) h1 hi1 fun t ht => unitS_mem ht
  unfold runW
  generalize stepsW St i (beginS s i) (unitS us (nameS s i)) = p at q1 q2 g ⊢
  obtain ⟨s3, ok⟩ := p
  dsimp only at q1 q2 g ⊢
  have hn3 : nameS s3 i = nameS s i := by
    have := g.keep.nm (nameS_nm hi1)
    have e0 : nameS (beginS s i) i = nameS s i := by
      have : nmOf (beginS s i).mods i = nmOf s.mods i := nmOf_upd (by intro m; rfl) i
      simp only [nameS, this]
    rw [e0] at this
    simp [nameS, this]
  refine ⟨fun e => ?_, fun e => ?_⟩
  · subst e
    rcases q1 rfl with h | h
    · exact .inl (noteFull_mono h)
    · unfold endS
      cases hf : (noteS (runS s3 i (-1)) 2 (nameS s3 i)).full
      · refine .inr ⟨?_, (h.run i (-1)).all⟩
        rw [if_pos rfl, onS_note hf, (h.run i (-1)).on, hn3]
        simp only [on1]
        rw [if_neg (by omega), if_neg (by omega), if_pos trivial, if_pos (by simp)]
        simp
        rfl
      · exact .inl (by rw [if_pos rfl]; exact hf)
  · subst e
    unfold endS
    rw [if_neg (by simp)]
    rcases q2 rfl with h | h
    · exact Fd.note (s := runS s3 i (-1)) h 3 _
    · rcases h with h | h
      · exact .inl (noteFull_mono h)
      · exact Fa.fail (.inr (h.run i (-1))) (.inl rfl) _
theorem chain_one {n : ByteArray} (h : dotAt n < 0) : (chainM n).length ≤ 1 := by
  have hc := chn_chain n ((chainM n).length - 1) n (by simp [chainM])
  rcases hc with ⟨_, h1⟩ | ⟨h1, _⟩
  · omega
  · omega
theorem makeW_O {us : List Un} {R : Ld → Nat → Ld × Bool} (hR : RO us R) {s : Ld} {o : List ByteArray} (hI : Inv us s) {n : ByteArray} (hn : hasU us n = true) (hf : findS s n = none) (hp : 0 ≤ dotAt n → ∃ j, findS s (parB n) = some j) (h : Fa s o) : ((makeW R s n).2 = true → Fa (makeW R s n).1 o) ∧ ((makeW R s n).2 = false → Fd (makeW R s n).1) := by
  obtain ⟨a1, a2, a3, a4, a5, a6, a7⟩ := link_P hI hn hf
  have hpre : (linkS s n).full = true ∨ Pre (linkS s n) s.mods.length o := by
    rcases h with h | h
    · exact .inl (by rw [a6]; exact h)
    · refine .inr ?_
      have hnames : names (linkS s n) = names s ++ [n] := by
        unfold linkS
        split
        · rename_i p _
          have : names (setS (pushS s n) p (lastP n) (some s.mods.length)) = names (pushS s n) := names_upd (by intro m; rfl)
          rw [this]; simp [names, pushS]
        · simp [names, pushS]
      have hname : nameS (linkS s n) s.mods.length = n := by simp [nameS, a7]
      refine ⟨?_, fun j hj => ?_, a4.symm, ?_⟩
      · rw [hnames, List.dropLast_concat]
        show onL _ (linkS s n).log = _
        rw [a5]; exact h.on
      · rw [a3]
        rw [a4] at hj
        by_cases hlt : j < s.mods.length
        · exact List.mem_append_left _ (h.all j hlt)
        · have : j = s.mods.length := by omega
          subst this; simp
      · rw [hname, hnames, List.dropLast_concat]
        unfold beginOk
        have hnot : inB n (names s) = false := by
          cases hb : inB n (names s)
          · rfl
          · obtain ⟨m, hm, e⟩ := List.mem_map.1 (inB_mem.1 hb)
            obtain ⟨j, hj⟩ := List.getElem?_of_mem hm
            obtain ⟨k, hk⟩ := tfind_some (mods := s.mods) (n := n) (h.all j (lt_get hj)) (by simp [nmOf, hj, e])
            rw [findS, hk] at hf; cases hf
        rw [hnot]
        by_cases hd : 0 ≤ dotAt n
        · obtain ⟨j, hj⟩ := hp hd
          have h2 := (tfind_mem hj).2
          have : inB (parB n) (names s) = true := inB_mem.2 (by
            unfold nmOf at h2
            cases hm : s.mods[j]? with
            | none => rw [hm] at h2; cases h2
            | some m =>
              rw [hm] at h2
              injection h2 with h2
              exact List.mem_map.2 ⟨m, List.mem_of_getElem? hm, h2⟩)
          rw [this]; simp
        · have := chain_one (show dotAt n < 0 by omega)
          simp [this]
  obtain ⟨q1, q2⟩ := hR (linkS s n) s.mods.length o a1 (by omega) hpre
  unfold makeW
  split
  · rename_i e
    exact ⟨fun _ => q1 e, fun e' => (by rw [e] at e'; cases e')⟩
  · rename_i e
    refine ⟨fun e => (by cases e), fun _ => ?_⟩
    have h2 := q2 (by simpa using e)
    generalize (R (linkS s n) s.mods.length).1 = s3 at h2
    unfold goneS
    split
    · split
      · exact h2
      · exact h2
    · exact h2
theorem loadW_O {us : List Un} {R : Ld → Nat → Ld × Bool} (hP : RP us R) (hR : RO us R) {C : List ByteArray} (hC : Chn C) (o : List ByteArray) : ∀ (k q : Nat) (s : Ld), C.length - q = k → Inv us s → (∀ p, q = p + 1 → ∀ y, C[p]? = some y → ∃ j, findS s y = some j) → Fa s o → ((loadW R us s (C.drop q)).2 = true → Fa (loadW R us s (C.drop q)).1 o) ∧ ((loadW R us s (C.drop q)).2 = false → Fd (loadW R us s (C.drop q)).1)
  | 0, q, s, hk, _, _, h => by
    rw [List.drop_of_length_le (by omega)]
    exact ⟨fun _ => h, fun e => by cases e⟩
  | k + 1, q, s, hk, hI, hp, h => by
    obtain ⟨x, hx⟩ : ∃ x, C[q]? = some x := ⟨_, List.getElem?_eq_getElem (by omega)⟩
    rw [loadW_next hx]
    have hnext : ∀ s', (∃ j, findS s' x = some j) → ∀ p, q + 1 = p + 1 → ∀ y, C[p]? = some y → ∃ j, findS s' y = some j := fun s' hs' p e y hy => by
      obtain rfl : q = p := by omega
      rw [hx] at hy; injection hy with hy; subst hy; exact hs'
    cases hf : findS s x with
    | some j =>
      simp only
      refine loadW_O hP hR hC o k (q + 1) _ (by omega) (hI.note _ _) (hnext _ ⟨j, hf⟩) (h.other ?_ _)
      split
      · exact .inr rfl
      · exact .inl rfl
    | none =>
      simp only
      split
      · rename_i hh
        have hpar : 0 ≤ dotAt x → ∃ j, findS s (parB x) = some j := fun hd => by
          rcases hC q x hx with ⟨h1, _⟩ | ⟨_, p, h2, h3⟩
          · omega
          · exact hp p h2 _ h3
        obtain ⟨q1, q2⟩ := makeW_O hR hI hh hf hpar h
        obtain ⟨g1, g2⟩ := makeW_P hP hI hh hf
        split
        · rename_i e
          exact loadW_O hP hR hC o k (q + 1) _ (by omega) g1.inv (hnext _ (g2 e)) (q1 e)
        · rename_i e
          exact ⟨fun e => (by cases e), fun _ => q2 (by simpa using e)⟩
      · exact ⟨fun e => (by cases e), fun _ => h.fail (.inr rfl) _⟩
theorem Fa.upd {s : Ld} {o : List ByteArray} (h : Fa s o) (i : Nat) (f : Md → Md) (hf : ∀ m, (f m).name = m.name) : Fa (updS s i f) o := h.imp id fun h => h.upd hf
theorem stepW_O {us : List Un} (hno : ∀ u ∈ us, ∀ t ∈ u.steps, t.kind ≠ 5) {R : Ld → Nat → Ld × Bool} (hP : RP us R) (hR : RO us R) : SO us (stepW R us) := fun s i t o hI hi ⟨u, hu, htu⟩ h => by
  unfold stepW
  split
  · exact ⟨fun _ => h.upd _ _ fun _ => rfl, fun e => by cases e⟩
  split
  · split
    · exact ⟨fun _ => h.upd _ _ fun _ => rfl, fun e => by cases e⟩
    · exact ⟨fun e => (by cases e), fun _ => .inr h⟩
  split
  · rename_i e; exact absurd e (hno u hu t htu)
  have g := loadW_P hP (chainM t.name) s hI
  have g2 := loadW_O hP hR (chn_chain t.name) o _ 0 s rfl hI (fun p e => by cases e) h
  rw [List.drop_zero] at g2
  generalize loadW R us s (chainM t.name) = p at g g2
  obtain ⟨q1, q2⟩ := g2
  split
  · rename_i e
    have hp := q1 e
    split
    · exact ⟨fun _ => hp.upd _ _ fun _ => rfl, fun e => by cases e⟩
    · unfold partW
      split
      · exact ⟨fun e => (by cases e), fun _ => .inr hp⟩
      · split
        · exact ⟨fun _ => hp.upd _ _ fun _ => rfl, fun e => by cases e⟩
        · have g3 := loadW_O hP hR (chn_chain (wholeB t)) o _ 0 p.1 rfl g.inv (fun p e => by cases e) hp
          rw [List.drop_zero] at g3
          generalize loadW R us p.1 (chainM (wholeB t)) = q at g3
          obtain ⟨r1, r2⟩ := g3
          split
          · split
            · rename_i e2
              exact ⟨fun _ => (r1 e2).upd _ _ fun _ => rfl, fun e => by cases e⟩
            · rename_i e2
              exact ⟨fun e => (by cases e), fun _ => .inl (r2 (by simpa using e2))⟩
          · exact ⟨fun e => (by cases e), fun _ => .inr hp⟩
  · rename_i e
    exact ⟨fun e => (by cases e), fun _ => .inl (q2 (by simpa using e))⟩
theorem runM_O {us : List Un} (hno : ∀ u ∈ us, ∀ t ∈ u.steps, t.kind ≠ 5) : ∀ n, RO us (runM us n)
  | 0 => runW_O (fun s i t h _ _ => ⟨h, .refl s, fun e => by cases e⟩) fun s i t o _ _ _ h => ⟨fun e => (by cases e), fun _ => .inr h⟩
  | n + 1 => runW_O (stepW_P (runM_P us n)) (stepW_O hno (runM_P us n) (runM_O hno n))
theorem fin_once {l : List Un} (h : (validateM l).1 = 0) (hf : (finS l).full = false) (hno : ∀ u ∈ l, ∀ t ∈ u.steps, t.kind ≠ 5) : onS (finS l) = .stop ∨ ∃ b, onS (finS l) = .go b [] := by
  have hp : Pre initS 0 [] := ⟨rfl, by simp [initS], rfl, by decide +kernel⟩
  obtain ⟨q1, q2⟩ := runM_O hno 5001 initS 0 [] (init_inv h).1 (by simp [initS]) (.inr hp)
  unfold finS at hf ⊢
  cases hk : (runM l 5001 initS 0).2
  · rcases q2 hk with h | h
    · rw [hf] at h; cases h
    · exact .inl h
  · rcases q1 hk with h | h
    · rw [hf] at h; cases h
    · exact .inr ⟨_, h.on⟩
end Go.Proofs.YtgloielnnakknaaDoor
namespace Go.Proofs.YtgloielnnakknaaDoor
open Go.RowKit
def LI (s : Ld) : Prop := ∀ e ∈ s.log, e.name.size ≤ 200
def LR (us : List Un) (R : Ld → Nat → Ld × Bool) : Prop := ∀ s i, Inv us s → i < s.mods.length → LI s → LI (R s i).1
def LS (us : List Un) (St : Ld → Nat → Stp → Ld × Bool) : Prop := ∀ s i t, Inv us s → i < s.mods.length → (∃ u ∈ us, t ∈ u.steps) → LI s → LI (St s i t).1
theorem LI.note {s : Ld} (h : LI s) (k : Int) {n : ByteArray} (hn : n.size ≤ 200) : LI (noteS s k n) := by
  intro e he
  unfold noteS noteLog at he
  dsimp only at he
  split at he
  · exact h e he
  · rcases List.mem_append.1 he with he | he
    · exact h e he
    · simp at he; subst he; exact hn
theorem nameS_size {us : List Un} (hU : Uok us) {s : Ld} (hI : Inv us s) (i : Nat) : (nameS s i).size ≤ 60 := nameM_size hU hI i
theorem stepsW_L {us : List Un} {St : Ld → Nat → Stp → Ld × Bool} (hP : SP us St) (hS : LS us St) (i : Nat) : ∀ (l : List Stp) (s : Ld), Inv us s → i < s.mods.length → (∀ t ∈ l, ∃ u ∈ us, t ∈ u.steps) → LI s → LI (stepsW St i s l).1
  | [], s, _, _, _, h => h
  | t :: r, s, hI, hi, hl, h => by
    simp only [stepsW]
    split
    · exact h
    · have g := hP s i t hI hi (hl t (by simp))
      have h2 := hS s i t hI hi (hl t (by simp)) h
      split
      · exact stepsW_L hP hS i r _ g.inv (Nat.lt_of_lt_of_le hi g.keep.len) (fun t ht => hl t (by simp [ht])) h2
      · exact h2
theorem runW_L {us : List Un} (hU : Uok us) {St : Ld → Nat → Stp → Ld × Bool} (hP : SP us St) (hS : LS us St) : LR us (runW St us) := fun s i hI hi h => by
  have h1 : Inv us (beginS s i) := (hI.note 1 _).run i 1
  have hi1 : i < (beginS s i).mods.length := by simpa [beginS, runS, updS, updM_len, noteS] using hi
  have hb : LI (beginS s i) := h.note 1 (by have := nameS_size hU hI i; omega)
  have h2 := stepsW_L hP hS i (unitS us (nameS s i)) (beginS s i) h1 hi1 (fun t ht => unitS_mem ht) hb
  have g := stepsW_P hP i (unitS us (nameS s i)) (beginS s i) h1 hi1 fun t ht => unitS_mem ht
  unfold runW
  generalize stepsW St i (beginS s i) (unitS us (nameS s i)) = p at h2 g ⊢
  exact LI.note (s := runS p.1 i (-1)) h2 _ (by have := nameS_size hU g.inv i; omega)
theorem makeW_L {us : List Un} {R : Ld → Nat → Ld × Bool} (hR : LR us R) {s : Ld} (hI : Inv us s) {n : ByteArray} (hn : hasU us n = true) (hf : findS s n = none) (h : LI s) : LI (makeW R s n).1 := by
  obtain ⟨a1, a2, a3, a4, a5, a6, a7⟩ := link_P hI hn hf
  have hl : LI (linkS s n) := fun e he => h e (by rw [a5] at he; exact he)
  have h2 := hR (linkS s n) s.mods.length a1 (by omega) hl
  unfold makeW
  split
  · exact h2
  · generalize (R (linkS s n) s.mods.length).1 = s3 at h2
    unfold goneS
    split
    · split <;> exact h2
    · exact h2
theorem loadW_L {us : List Un} {R : Ld → Nat → Ld × Bool} (hP : RP us R) (hR : LR us R) : ∀ (l : List ByteArray) (s : Ld), (∀ x ∈ l, x.size ≤ 200) → Inv us s → LI s → LI (loadW R us s l).1
  | [], s, _, _, h => h
  | n :: r, s, hl, hI, h => by
    have hn := hl n (by simp)
    have hr : ∀ x ∈ r, x.size ≤ 200 := fun x hx => hl x (by simp [hx])
    simp only [loadW]
    split
    · exact loadW_L hP hR r _ hr (hI.note _ _) (h.note _ hn)
    · rename_i hf
      split
      · rename_i hh
        have g := (makeW_P hP hI hh hf).1
        have h2 := makeW_L hR hI hh hf h
        split
        · exact loadW_L hP hR r _ hr g.inv h2
        · exact h2
      · exact h.note _ hn
theorem stepW_L {us : List Un} (hU : Uok us) {R : Ld → Nat → Ld × Bool} (hP : RP us R) (hR : LR us R) : LS us (stepW R us) := fun s i t hI hi ⟨u, hu, htu⟩ h => by
  obtain ⟨z1, z2⟩ := hU.step u hu t htu
  have hc1 : ∀ x ∈ chainM t.name, x.size ≤ 200 := fun x hx => by have := chain_size t.name x hx; omega
  have hc2 : ∀ x ∈ chainM (wholeB t), x.size ≤ 200 := fun x hx => by
    have := chain_size (wholeB t) x hx
    have hd1 : dot.size = 1 := rfl
    have : (wholeB t).size ≤ 121 := by simp only [wholeB, ByteArray.size_append, hd1]; omega
    omega
  unfold stepW
  split
  · exact h
  split
  · split <;> exact h
  split
  · split
    · rename_i j e; exact hR s j hI (hI.find j e) h
    · exact h
  have g := loadW_P hP (chainM t.name) s hI
  have g2 := loadW_L hP hR (chainM t.name) s hc1 hI h
  generalize loadW R us s (chainM t.name) = p at g g2
  split
  · split
    · exact g2
    · unfold partW
      split
      · exact g2
      · split
        · exact g2
        · have g3 := loadW_L hP hR (chainM (wholeB t)) p.1 hc2 g.inv g2
          generalize loadW R us p.1 (chainM (wholeB t)) = q at g3
          split
          · split <;> exact g3
          · exact g2
  · exact g2
theorem runM_L {us : List Un} (hU : Uok us) : ∀ n, LR us (runM us n)
  | 0 => runW_L hU (fun s i t h _ _ => ⟨h, .refl s, fun e => by cases e⟩) fun s i t _ _ _ h => h
  | n + 1 => runW_L hU (stepW_P (runM_P us n)) (stepW_L hU (runM_P us n) (runM_L hU n))
theorem fin_names {l : List Un} (h : (validateM l).1 = 0) : ∀ e ∈ (finS l).log, e.name.size ≤ 200 :=
  runM_L (valid_Uok h).1 5001 initS 0 (init_inv h).1 (by simp [initS]) (fun e he => by cases he)
theorem onL_bad (l : List Ev) : onL .bad l = .bad := by
  induction l with
  | nil => rfl
  | cons e r ih => exact ih
theorem onL_next {b o : List ByteArray} {l : List Ev} {i : Nat} {e : Ev} (h : l[i]? = some e) : onL (.go b o) (l.drop i) = onL (on1 (.go b o) e) (l.drop (i + 1)) := by
  rw [List.drop_eq_getElem_cons (lt_get h), (List.getElem?_eq_some_iff.1 h).2]; rfl
theorem has_R (l : List ByteArray) (s : ByteArray) (hl : l.length ≤ 1000000) (n : Int) (hn : n = l.length) : CallsA Tryd.prog 20 [.d (.u (strs' l)), di n, dsr s] [] (Is (db (inB s l))) := by
  subst hn
  refine callsA_of_vc (T := tt) Tryd.func20 rfl rfl rfl rfl rfl ?_
  repeat' ((conv => whnf); first | refine Gs.id ?_ | fail)
  all_goals (conv => whnf)
  refine ⟨⟨Nat, fun i => i ≤ l.length ∧ inB s l = inB s (l.drop i), fun i => l.length - i, fun i => ⟨[(0, .d (.u (strs' l))), (1, di l.length), (2, dsr s), (7, di i)], []⟩, 0, ⟨Nat.zero_le _, rfl⟩, ⟨[], ⟨by (try dsimp only); (repeat (refine LeT.cons rfl (by first | exact LeS.d (by first | exact LeD.u rfl | fail) | fail) ?_)); exact LeT.nil, by (try dsimp only); repeat (first | exact LeO.nil | fail)⟩⟩, fun i hi => ?_⟩⟩
  obtain ⟨hi, he⟩ := hi
  dsimp only
  rw [he]
  by_cases h9 : i < l.length
  · obtain ⟨x, hx⟩ : ∃ x, l[i]? = some x := ⟨_, List.getElem?_eq_getElem h9⟩
    have e2 : (x.toList == s.toList) = decide (x = s) := toList_beq x s
    have e1 : inB s (l.drop i) = (decide (x = s) || inB s (l.drop (i + 1))) := by
      rw [List.drop_eq_getElem_cons h9, (List.getElem?_eq_some_iff.1 hx).2]; rfl
    rw [e1]
    by_cases hxs : x = s
    · rw [decide_eq_true hxs] at e2
      rw [decide_eq_true hxs, Bool.true_or]
      repeat' ((conv => whnf); first | refine Ix_at rfl hx ?_ | refine Gs.id ?_ | refine Brn.T (by (try simp only [smT]); first | rfl | assumption | omega | fail) ?_ | (refine Bnd.mk (fun hm => ?_); (try simp only [smT] at hm)) | fail)
      all_goals (conv => whnf)
      all_goals first | (exfalso; simp_all; done) | exact Ret.is rfl
    · rw [decide_eq_false hxs] at e2
      rw [decide_eq_false hxs, Bool.false_or]
      repeat' ((conv => whnf); first | refine Ix_at rfl hx ?_ | refine Gs.id ?_ | refine Brn.T (by (try simp only [smT]); first | rfl | omega | fail) ?_ | refine Brn.F (by (try simp only [smT]); first | rfl | assumption | fail) ?_ | (refine Bnd.mk (fun hm => ?_); (try simp only [smT] at hm)) | refine Rng.mk (by (try simp only [smT]); omega) ?_ | fail)
      all_goals (conv => whnf)
      all_goals first | (exfalso; simp_all; done) | exact ⟨i + 1, ⟨by omega, rfl⟩, by omega, [], ⟨by (try dsimp only); (repeat (refine LeT.cons rfl (by first | exact LeS.d (by first | exact LeD.u rfl | fail) | fail) ?_)); exact LeT.nil, by (try dsimp only); repeat (first | exact LeO.nil | fail)⟩⟩
  · obtain rfl : i = l.length := by omega
    have e1 : inB s (l.drop l.length) = false := by rw [List.drop_length]; rfl
    rw [e1]
    repeat' ((conv => whnf); first | refine Gs.id ?_ | with_reducible refine Brn.F rfl ?_ | refine Brn.F (by (try simp only [smT]); first | rfl | omega | fail) ?_ | fail)
    all_goals (conv => whnf)
    all_goals exact Ret.is rfl
end Go.Proofs.YtgloielnnakknaaDoor
namespace Go.Proofs.YtgloielnnakknaaDoor
open Go.RowKit
def no5 (l : List Stp) : Prop := ∀ t ∈ l, t.kind ≠ 5
structure Lb (l : List Un) : Prop where
  len : l.length ≤ 9000000000
  steps : ∀ u ∈ l, u.steps.length ≤ 9000000000
theorem Ix_un {l : List Un} {n : Int} {p : Nat} {u : Un} {K : List V → Prop} (hn : n = (p : Int)) (h : l[p]? = some u) (k : K u.row) : Ix (l.map Un.row) n K := by
  subst hn
  exact Ix.map rfl (lt_get h) (by rw [(List.getElem?_eq_some_iff.1 h).2]; exact k)
theorem Ix_st {l : List Stp} {n : Int} {p : Nat} {u : Stp} {K : List V → Prop} (hn : n = (p : Int)) (h : l[p]? = some u) (k : K u.row) : Ix (l.map Stp.row) n K := by
  subst hn
  exact Ix.map rfl (lt_get h) (by rw [(List.getElem?_eq_some_iff.1 h).2]; exact k)
theorem Rw_ev {l : List Ev} {n : Nat} {e : Ev} {K : List V → Prop} (h : l[n]? = some e) (k : K e.v) : Rw (l.map Ev.v) n K := ⟨_, by simp [h], k⟩
theorem Rw_st {l : List ByteArray} {n : Nat} {e : ByteArray} {K : List V → Prop} (h : l[n]? = some e) (k : K [V.str e]) : Rw (strs l) n K := ⟨_, by simp [h], k⟩
theorem once_flt_T (l : List Un) (f : Int × Int) (hf : FltOf l f) (h0 : f.1 ≠ 0) : CallsA Tryd.prog 6 [.d (.u (uns l))] [] (Is (db true)) := by
  have hl := load_flt l f hf
  have hi := imported_T
  obtain ⟨c, i⟩ := f
  dsimp only at h0
  refine callsA_of_vc (T := tt) Tryd.func6 rfl rfl rfl rfl rfl ?_
  repeat' ((conv => whnf); first | refine Gs.id ?_ | with_reducible refine Brn.T rfl ?_ | refine Brn.T (by (try simp only [smT]); first | rfl | assumption | fail) ?_ | (refine CL.mk (Or.inl ?_); (conv => whnf); first | refine Cl.is (hl) rfl (by first | exact fun _ => rfl | fail) ?_ | refine Cl.is (hi) rfl (by first | exact fun _ => rfl | fail) ?_) | fail)
  all_goals (conv => whnf)
  all_goals exact Ret.is rfl
abbrev logA (log : List Ev) : Nat × Ob := (905, .ar 43 2 (log.map Ev.v))
set_option maxHeartbeats 4000000 in
theorem once_ok_T (l : List Un) (hb : Lb l) (h1 : (validateM l).1 = 0) (h2 : (finS l).full = false) : CallsA Tryd.prog 6 [.d (.u (uns l))] [] (Is (db true)) := by
  have hl := load_own l h1 h2
  have hi := imported_T
  have hfin := fin_once h1 h2
  have hsz := fin_names h1
  have hlg := (fin_inv h1).log
  unfold onS at hfin
  generalize (finS l).log = log at *
  obtain ⟨hb1, hb2⟩ := hb
  refine callsA_of_vc (T := tt) Tryd.func6 rfl rfl rfl rfl rfl ?_
  repeat' ((conv => whnf); first | refine Gs.id ?_ | with_reducible refine Brn.F rfl ?_ | (refine CL.mk (Or.inr (Raw.callI [] [905] rfl rfl rfl rfl rfl rfl rfl (hl) ?_)); rintro _ _ ⟨rfl, rfl⟩; refine Bk.mk rfl rfl ?_))
  all_goals (conv => whnf)
  refine ⟨⟨Nat, fun i => i ≤ l.length ∧ ∀ u ∈ l.take i, no5 u.steps, fun i => l.length - i, fun i => ⟨[(0, .d (.u (uns l))), (3, .d (.ow 905 log.length)), (5, di i)], [logA log]⟩, 0, ⟨Nat.zero_le _, fun u hu => by simp at hu⟩, ⟨[(905, .k 905)], ⟨by (try dsimp only); (repeat (refine LeT.cons rfl (by first | exact LeS.d (by first | exact LeD.u rfl | exact LeD.ow rfl rfl | fail) | fail) ?_)); exact LeT.nil, by (try dsimp only); repeat (first | exact LeO.nil | refine LeO.ar rfl rfl (by first | rfl | fail) ?_ | fail)⟩⟩, fun i hx => ?_⟩⟩
  obtain ⟨hil, hno⟩ := hx
  dsimp only at hil hno ⊢
  by_cases h9 : i < l.length
  · obtain ⟨⟨un, us⟩, hu⟩ : ∃ u, l[i]? = some u := ⟨_, List.getElem?_eq_getElem h9⟩
    have hus := hb2 _ (List.mem_of_getElem? hu)
    dsimp only at hus
    repeat' ((conv => whnf); first | refine Gs.id ?_ | refine Brn.T (by (try simp only [smT]); first | rfl | omega | fail) ?_ | (refine Bnd.mk (fun hm => ?_); (try simp only [smT] at hm)) | fail)
    all_goals (conv => whnf)
    refine ⟨⟨Nat, fun k => k ≤ us.length ∧ no5 (us.take k), fun k => us.length - k, fun k => ⟨[(0, .d (.u (uns l))), (3, .d (.ow 905 log.length)), (5, di i), (6, di k)], [logA log]⟩, 0, ⟨Nat.zero_le _, fun u hu => by simp at hu⟩, ⟨[(905, .k 905)], ⟨by (try dsimp only); (repeat (refine LeT.cons rfl (by first | exact LeS.d (by first | exact LeD.u rfl | exact LeD.ow rfl rfl | fail) | fail) ?_)); exact LeT.nil, by (try dsimp only); repeat (first | exact LeO.nil | refine LeO.ar rfl rfl (by first | rfl | fail) ?_ | fail)⟩⟩, fun k hx => ?_⟩⟩
    obtain ⟨hk, hno2⟩ := hx
    dsimp only at hk hno2 ⊢
    by_cases h8 : k < us.length
    · obtain ⟨⟨tk, tn, tp⟩, ht⟩ : ∃ t, us[k]? = some t := ⟨_, List.getElem?_eq_getElem h8⟩
      by_cases h5 : tk = 5
      · subst h5
        repeat' ((conv => whnf); first | refine Ix_un rfl hu ?_ | refine Ix_st rfl ht ?_ | refine Gs.id ?_ | with_reducible refine Brn.T rfl ?_ | refine Brn.T (by (try simp only [smT]); first | rfl | omega | fail) ?_ | (refine Bnd.mk (fun hm => ?_); (try simp only [smT] at hm)) | (refine CL.mk (Or.inl ?_); (conv => whnf); refine Cl.is (hi) rfl (by first | exact fun _ => rfl | fail) ?_) | fail)
        all_goals (conv => whnf)
        all_goals exact Ret.is rfl
      · repeat' ((conv => whnf); first | refine Ix_un rfl hu ?_ | refine Ix_st rfl ht ?_ | refine Gs.id ?_ | refine Brn.T (by (try simp only [smT]); first | rfl | omega | fail) ?_ | refine Brn.F (by (try simp only [smT]); first | rfl | assumption | fail) ?_ | (refine Bnd.mk (fun hm => ?_); (try simp only [smT] at hm)) | refine Rng.mk (by (try simp only [smT]); omega) ?_ | fail)
        all_goals (conv => whnf)
        all_goals exact ⟨k + 1, ⟨by omega, fun t ht2 => by
          rw [List.take_add_one, ht] at ht2
          rcases List.mem_append.1 ht2 with ht2 | ht2
          · exact hno2 t ht2
          · simp at ht2; subst ht2; exact h5⟩, by omega, [(905, .k 905)], ⟨by (try dsimp only); (repeat (refine LeT.cons rfl (by first | exact LeS.d (by first | exact LeD.u rfl | exact LeD.ow rfl rfl | fail) | fail) ?_)); exact LeT.nil, by (try dsimp only); repeat (first | exact LeO.nil | refine LeO.ar rfl rfl (by first | rfl | fail) ?_ | fail)⟩⟩
    · obtain rfl : k = us.length := by omega
      rw [List.take_length] at hno2
      repeat' ((conv => whnf); first | refine Ix_un rfl hu ?_ | refine Gs.id ?_ | refine Brn.F (by (try simp only [smT]); first | rfl | omega | fail) ?_ | (refine Bnd.mk (fun hm => ?_); (try simp only [smT] at hm)) | refine Rng.mk (by (try simp only [smT]); omega) ?_ | fail)
      all_goals (conv => whnf)
      all_goals exact ⟨i + 1, ⟨by omega, fun u hu2 => by
        rw [List.take_add_one, hu] at hu2
        rcases List.mem_append.1 hu2 with hu2 | hu2
        · exact hno u hu2
        · simp at hu2; subst hu2; exact hno2⟩, by omega, [(905, .k 905)], ⟨by (try dsimp only); (repeat (refine LeT.cons rfl (by first | exact LeS.d (by first | exact LeD.u rfl | exact LeD.ow rfl rfl | fail) | fail) ?_)); exact LeT.nil, by (try dsimp only); repeat (first | exact LeO.nil | refine LeO.ar rfl rfl (by first | rfl | fail) ?_ | fail)⟩⟩
  · obtain rfl : i = l.length := by omega
    rw [List.take_length] at hno
    have hfin := hfin hno
    obtain ⟨RES, hres, hgood⟩ : ∃ r, onL (.go [] []) log = r ∧ (r = .stop ∨ ∃ b, r = .go b []) := ⟨_, rfl, hfin⟩
    repeat' ((conv => whnf); first | refine Gs.go (i := 14) ((Ghost.nlOw 7 907 9 1 rfl rfl).trans (Ghost.nlOw 8 908 9 1 rfl rfl)) ?_ | refine Gs.id ?_ | refine Brn.F (by (try simp only [smT]); first | rfl | omega | fail) ?_ | (refine Bnd.mk (fun hm => ?_); (try simp only [smT] at hm)) | fail)
    all_goals (conv => whnf)
    refine ⟨⟨Nat × List ByteArray × List ByteArray, fun x => x.1 ≤ log.length ∧ onL (.go x.2.1 x.2.2) (log.drop x.1) = RES ∧ x.2.1.length ≤ x.1 ∧ x.2.2.length ≤ x.1, fun x => log.length - x.1, fun x => ⟨[(3, .d (.ow 905 log.length)), (7, .d (.ow 907 x.2.1.length)), (8, .d (.ow 908 x.2.2.length)), (9, di x.1)], [logA log, (907, .ar 9 1 (strs x.2.1)), (908, .ar 9 1 (strs x.2.2))]⟩, (0, [], []), ⟨Nat.zero_le _, hres, Nat.le_refl _, Nat.le_refl _⟩, ⟨[(905, .k 905), (907, .k 907), (908, .k 908)], ⟨by (try dsimp only); (repeat (refine LeT.cons rfl (by first | exact LeS.d (by first | exact LeD.u rfl | exact LeD.ow rfl rfl | fail) | fail) ?_)); exact LeT.nil, by (try dsimp only); repeat (first | exact LeO.nil | refine LeO.ar rfl rfl (by first | rfl | fail) ?_ | fail)⟩⟩, fun x hx => ?_⟩⟩
    obtain ⟨i, b, o⟩ := x
    obtain ⟨hil, he, hbl, hol⟩ := hx
    dsimp only at hil he hbl hol ⊢
    by_cases h9 : i < log.length
    · obtain ⟨⟨k, n⟩, hk⟩ : ∃ e, log[i]? = some e := ⟨_, List.getElem?_eq_getElem h9⟩
      have hnz := hsz _ (List.mem_of_getElem? hk)
      dsimp only at hnz
      rw [onL_next hk] at he
      simp only [on1] at he
      by_cases h36 : k = 3 ∨ k = 6
      · repeat' ((conv => whnf); first | refine Rw_ev hk ?_ | refine Gs.id ?_ | with_reducible refine Brn.T rfl ?_ | refine Brn.T (by (try simp only [smT]); first | rfl | assumption | omega | fail) ?_ | refine Brn.F (by (try simp only [smT]); first | rfl | assumption | fail) ?_ | (refine Brn.mk (fun hb => ?_) (fun hb => ?_) <;> (try simp only [smT] at hb) <;> (try (exact absurd trivial hb)) <;> (try (exfalso; omega))) | (refine Bnd.mk (fun hm => ?_); (try simp only [smT] at hm)) | refine Ixo.mk ⟨_, rfl, (by (try simp only [smT]); omega), ?_⟩ | (refine CL.mk (Or.inl ?_); (conv => whnf); refine Cl.is (hi) rfl (by first | exact fun _ => rfl | fail) ?_) | fail)
        all_goals (conv => whnf)
        all_goals first | (exfalso; omega) | exact Ret.is rfl
      · rw [if_neg h36] at he
        by_cases hk1 : k = 1
        · subst hk1
          rw [if_pos rfl] at he
          cases hbo : beginOk n b
          · rw [hbo, if_neg (by simp), onL_bad] at he
            subst he
            rcases hgood with h | ⟨_, h⟩ <;> cases h
          · rw [hbo, if_pos rfl] at he
            unfold beginOk at hbo
            simp only [Bool.and_eq_true, Bool.not_eq_true', Bool.or_eq_true, decide_eq_true_eq] at hbo
            obtain ⟨hn1, hn2⟩ := hbo
            have hh1 := has_R b n (by omega) b.length rfl
            rw [hn1] at hh1
            have hch := chain_R n (by omega)
            have hcn := chn_chain n
            have hcl := chain_len n
            have hlast : (chainM n)[(chainM n).length - 1]? = some n := by simp [chainM]
            generalize chainM n = C at *
            by_cases hC1 : C.length ≤ 1
            · have hC2 : ¬ ((1 : Int) < ((strs C).length : Int)) := by simp; omega
              repeat' ((conv => whnf); first | refine Rw_ev hk ?_ | refine Gs.id ?_ | with_reducible refine Brn.T rfl ?_ | with_reducible refine Brn.F rfl ?_ | refine Brn.T (by (try simp only [smT]); first | rfl | omega | fail) ?_ | refine Brn.F (by (try simp only [smT]); first | rfl | omega | fail) ?_ | (refine Bnd.mk (fun hm => ?_); (try simp only [smT] at hm)) | refine Rng.mk (by (try simp only [smT]); omega) ?_ | refine Ixo.mk ⟨_, rfl, (by (try simp only [smT]); omega), ?_⟩ | refine Apd.mk (by first | rfl | simp) (by first | rfl | fail) (by (try simp only [smT]); first | omega | fail) (by unfold maxLen; first | (simp; omega) | fail) ?_ | (refine CL.mk (Or.inl ?_); (conv => whnf); refine Cl.is (hch) rfl (by first | (intro e; cases e; done) | fail) ?_) | (refine CL.mk (Or.inl ?_); (conv => whnf); refine ClO.mk (Or.inl ?_); (repeat ((conv => whnf); refine Len.mk (by first | rfl | (simp; done) | fail) ?_)); (conv => whnf); first | refine Cl.is (hh1) rfl (by first | exact fun _ => rfl | fail) ?_ | fail) | fail)
              all_goals (conv => whnf)
              all_goals exact ⟨(i + 1, b ++ [n], o ++ [n]), ⟨by dsimp only; omega, he, by simp; omega, by simp; omega⟩, by dsimp only; omega, [(905, .k 905), (907, .k 120), (908, .k 128)], ⟨by (try dsimp only); (repeat (refine LeT.cons rfl (by first | exact LeS.d (by first | exact LeD.u rfl | exact LeD.ow rfl rfl | exact LeD.ow rfl (by simp) | fail) | fail) ?_)); exact LeT.nil, by (try dsimp only); repeat (first | exact LeO.nil | refine LeO.ar rfl rfl (by first | rfl | simp) ?_ | fail)⟩⟩
            · have hpar := hn2.resolve_left hC1
              obtain ⟨p, hp1, hp2⟩ : ∃ p, C.length - 1 = p + 1 ∧ C[p]? = some (parB n) := by
                rcases hcn _ _ hlast with ⟨_, h⟩ | ⟨_, p, h, h'⟩
                · omega
                · exact ⟨p, h, h'⟩
              have hh2 := has_R b (parB n) (by omega) b.length rfl
              rw [hpar] at hh2
              have hC2 : (1 : Int) < ((strs C).length : Int) := by simp; omega
              repeat' ((conv => whnf); first | refine Rw_ev hk ?_ | refine Ix_at (p := p) (by simp; omega) hp2 ?_ | refine Gs.id ?_ | with_reducible refine Brn.T rfl ?_ | with_reducible refine Brn.F rfl ?_ | refine Brn.T (by (try simp only [smT]); first | rfl | omega | fail) ?_ | (refine Bnd.mk (fun hm => ?_); (try simp only [smT] at hm)) | refine Rng.mk (by (try simp only [smT]); omega) ?_ | refine Ixo.mk ⟨_, rfl, (by (try simp only [smT]); omega), ?_⟩ | refine Apd.mk (by first | rfl | simp) (by first | rfl | fail) (by (try simp only [smT]); first | omega | fail) (by unfold maxLen; first | (simp; omega) | fail) ?_ | (refine CL.mk (Or.inl ?_); (conv => whnf); refine Cl.is (hch) rfl (by first | (intro e; cases e; done) | fail) ?_) | (refine CL.mk (Or.inl ?_); (conv => whnf); refine ClO.mk (Or.inl ?_); (repeat ((conv => whnf); refine Len.mk (by first | rfl | (simp; done) | fail) ?_)); (conv => whnf); first | refine Cl.is (hh1) rfl (by first | exact fun _ => rfl | fail) ?_ | refine Cl.is (hh2) rfl (by first | exact fun _ => rfl | fail) ?_ | fail) | fail)
              all_goals (conv => whnf)
              all_goals exact ⟨(i + 1, b ++ [n], o ++ [n]), ⟨by dsimp only; omega, he, by simp; omega, by simp; omega⟩, by dsimp only; omega, [(905, .k 905), (907, .k 120), (908, .k 128)], ⟨by (try dsimp only); (repeat (refine LeT.cons rfl (by first | exact LeS.d (by first | exact LeD.u rfl | exact LeD.ow rfl rfl | exact LeD.ow rfl (by simp) | fail) | fail) ?_)); exact LeT.nil, by (try dsimp only); repeat (first | exact LeO.nil | refine LeO.ar rfl rfl (by first | rfl | simp) ?_ | fail)⟩⟩
        · rw [if_neg hk1] at he
          by_cases hk2 : k = 2
          · subst hk2
            rw [if_pos rfl] at he
            by_cases hol2 : o.getLast? = some n
            · rw [if_pos hol2] at he
              obtain ⟨o2, rfl⟩ : ∃ o2, o = o2 ++ [n] := ⟨o.dropLast, by
                obtain ⟨ys, hys⟩ := List.getLast?_eq_some_iff.1 hol2
                rw [hys]; simp⟩
              rw [List.dropLast_concat] at he
              have hlen : (o2 ++ [n]).length = o2.length + 1 := by simp
              have hon : (o2 ++ [n])[o2.length]? = some n := by simp
              have htk : (strs (o2 ++ [n])).take o2.length = strs o2 := by simp
              have hlen2 : (strs (o2 ++ [n])).length = o2.length + 1 := by simp
              generalize hO : o2 ++ [n] = O at *
              repeat' ((conv => whnf); first | refine Rw_ev hk ?_ | refine Ixo.mk ⟨o2.length, (by omega), (by omega), ?_⟩ | refine Rw_st hon ?_ | refine Slc.mk ⟨0, o2.length, rfl, (by omega), (by omega), (by omega), ?_⟩ | refine Gs.id ?_ | with_reducible refine Brn.T rfl ?_ | with_reducible refine Brn.F rfl ?_ | refine Brn.T (by (try simp only [smT]); first | rfl | omega | fail) ?_ | refine Brn.F (by (try simp only [smT]); first | rfl | omega | (simp [*]; done) | fail) ?_ | (refine Bnd.mk (fun hm => ?_); (try simp only [smT] at hm)) | refine Rng.mk (by (try simp only [smT]); omega) ?_ | refine Ixo.mk ⟨_, rfl, (by (try simp only [smT]); omega), ?_⟩ | refine Drw.of (T := tt) (i := 29) [] [] [(0, true), (1, true), (2, true), (3, true), (4, true), (5, true), (6, true), (7, true), (8, true), (9, true), (10, true), (11, true), (12, true), (13, true), (14, true)] (by kernel_rfl) ?_)
              all_goals (conv => whnf)
              all_goals exact ⟨(i + 1, b, o2), ⟨by dsimp only; omega, he, by dsimp only; omega, by dsimp only; omega⟩, by dsimp only; omega, [(905, .k 905), (907, .k 907), (908, .k 908)], (by (try dsimp only); (repeat (refine LeT.cons rfl (by first | exact LeS.d (by first | exact LeD.u rfl | exact LeD.ow rfl rfl | fail) | fail) ?_)); exact LeT.nil), LeO.ar rfl rfl rfl (LeO.ar rfl rfl rfl (LeO.tr (m := o2.length) rfl rfl (by omega) htk .nil))⟩
            · rw [if_neg hol2, onL_bad] at he
              subst he
              rcases hgood with h | ⟨_, h⟩ <;> cases h
          · rw [if_neg hk2] at he
            repeat' ((conv => whnf); first | refine Rw_ev hk ?_ | refine Gs.id ?_ | refine Brn.T (by (try simp only [smT]); first | rfl | omega | fail) ?_ | refine Brn.F (by (try simp only [smT]); first | rfl | assumption | omega | fail) ?_ | (refine Bnd.mk (fun hm => ?_); (try simp only [smT] at hm)) | refine Rng.mk (by (try simp only [smT]); omega) ?_ | refine Ixo.mk ⟨_, rfl, (by (try simp only [smT]); omega), ?_⟩ | fail)
            all_goals (conv => whnf)
            all_goals first | (exfalso; omega) | exact ⟨(i + 1, b, o), ⟨by dsimp only; omega, he, by dsimp only; omega, by dsimp only; omega⟩, by dsimp only; omega, [(905, .k 905), (907, .k 907), (908, .k 908)], ⟨by (try dsimp only); (repeat (refine LeT.cons rfl (by first | exact LeS.d (by first | exact LeD.u rfl | exact LeD.ow rfl rfl | fail) | fail) ?_)); exact LeT.nil, by (try dsimp only); repeat (first | exact LeO.nil | refine LeO.ar rfl rfl (by first | rfl | fail) ?_ | fail)⟩⟩
    · obtain rfl : i = log.length := by omega
      rw [List.drop_length] at he
      have ho : o = [] := by
        rcases hgood with h | ⟨b2, h⟩
        · rw [h] at he; cases he
        · rw [h] at he; injection he
      subst ho
      repeat' ((conv => whnf); first | refine Gs.id ?_ | with_reducible refine Brn.T rfl ?_ | refine Brn.F (by (try simp only [smT]); first | rfl | omega | fail) ?_ | (refine Bnd.mk (fun hm => ?_); (try simp only [smT] at hm)) | (refine CL.mk (Or.inl ?_); (conv => whnf); refine Cl.is (hi) rfl (by first | exact fun _ => rfl | fail) ?_) | fail)
      all_goals (conv => whnf)
      all_goals exact Ret.is rfl
theorem law_once_T (l : List Un) (hb : Lb l) : CallsA Tryd.prog 6 [.d (.u (uns l))] [] (Is (db true)) := by
  by_cases h1 : (validateM l).1 = 0
  · cases h2 : (finS l).full
    · exact once_ok_T l hb h1 h2
    · exact once_flt_T l (21, -1) (.inr ⟨h1, h2, rfl⟩) (by decide)
  · exact once_flt_T l (validateM l) (.inl ⟨h1, rfl⟩) h1
end Go.Proofs.YtgloielnnakknaaDoor
namespace Go.Proofs.YtgloielnnakknaaDoor
open Go.ChangeShapes Go.WideShapes Go.Deep

section
variable {H : Type} {enc : TypeId × Value → H} {P : Program} {w : World} {base : Nat} {spare : Nat → Bool} {held : Bool}

theorem cell_lt {p : Addr} {v : Value} (h : w.cell? p = some v) : p.block < w.heap.size := by
  by_cases hl : p.block < w.heap.size
  · exact hl
  · have : w.heap[p.block]? = none := by simp; omega
    simp [World.cell?, this] at h

end

section
variable {H : Type} {P : Program} {ts : List TypeId} {ds : List (DataW H)}
/-- What a field of a struct weighs is weighed. -/
theorem weights_field {t u : TypeId} {fs : Array Field} {parts : List (DataW H)} {j : Nat} {d : DataW H} (hu : P.underlying t = some (.struct fs)) (hf : (fs.toList.map (·.type))[j]? = some u) (hd : parts[j]? = some d) {n : Nat} (hn : n ∈ d.weights P u) : n ∈ (DataW.agg parts).weights P t := by
  simp only [DataW.weights, hu]
  exact DataW.weights_mem_each hf hd n hn
theorem weights_slice {t e : TypeId} {el sp : List (DataW H)} (hu : P.underlying t = some (.slice e)) : (el.length + sp.length) * P.bytesOf e ∈ (DataW.slice el sp).weights P t := by
  simp [DataW.weights, hu]
end
end Go.Proofs.YtgloielnnakknaaDoor
namespace Go.Proofs.YtgloielnnakknaaDoor
open Go.ChangeShapes Go.WideShapes Go.Deep Go.RowKit
/-- What a cell of an argument is. -/
inductive Sh where
  | int (k : IntKind)
  | bool
  | str
  | sl (by_ : Nat) (e : List Sh)
abbrev bigB : Nat := 9000000000
inductive HasSh : Sh → V → Prop
  | int {k : IntKind} {n : Int} (h : (Lit.int k n).wf = true) : HasSh (.int k) (.int k n)
  | bool {b : Bool} : HasSh .bool (.bool b)
  | str {s : ByteArray} (h : s.size ≤ bigB) : HasSh .str (.str s)
  | sl {by_ sz : Nat} {e : List Sh} {rs : List (List V)} (hl : rs.length * by_ ≤ bigB) (hm : rs.length ≤ maxLen) (hs : sz = e.length) (hr : ∀ r ∈ rs, r.length = sz) (h : ∀ r ∈ rs, ∀ (j : Nat) s x, e[j]? = some s → r[j]? = some x → HasSh s x) : HasSh (.sl by_ e) (.sl sz rs)
/-- Cells. -/
structure HasL (e : List Sh) (r : List V) : Prop where
  len : r.length = e.length
  has : ∀ (j : Nat) s x, e[j]? = some s → r[j]? = some x → HasSh s x
theorem HasL.nil : HasL [] [] := ⟨rfl, fun _ _ _ h => by simp at h⟩
theorem HasL.app {e f : List Sh} {r q : List V} (h : HasL e r) (k : HasL f q) : HasL (e ++ f) (r ++ q) := ⟨by simp [h.len, k.len], fun j s x h1 h2 => by
  by_cases hj : j < e.length
  · rw [List.getElem?_append_left hj] at h1
    rw [List.getElem?_append_left (by rw [h.len]; exact hj)] at h2
    exact h.has j s x h1 h2
  · rw [List.getElem?_append_right (by omega)] at h1
    rw [List.getElem?_append_right (by rw [h.len]; omega), h.len] at h2
    exact k.has _ s x h1 h2⟩
theorem HasL.one {s : Sh} {x : V} (h : HasSh s x) : HasL [s] [x] := ⟨rfl, fun j a b h1 h2 => by
  cases j with
  | zero => simp at h1 h2; subst h1 h2; exact h
  | succ j => simp at h1⟩
theorem HasL.cons_inv {s : Sh} {e : List Sh} {r : List V} (h : HasL (s :: e) r) : ∃ x q, r = x :: q ∧ HasSh s x ∧ HasL e q := by
  cases r with
  | nil => have := h.len; simp at this
  | cons x q => exact ⟨x, q, rfl, h.has 0 s x rfl rfl, by have := h.len; simpa using this, fun j a b h1 h2 => h.has (j + 1) a b (by simpa using h1) (by simpa using h2)⟩
theorem HasL.nil_inv {r : List V} (h : HasL [] r) : r = [] := List.eq_nil_of_length_eq_zero h.len
def shFs (g : Nat → Option (List Sh)) : List (Nat × TypeId) → Nat → Option (List Sh)
  | [], _ => some []
  | (off, t) :: r, o => bif Nat.beq off o then match g t with
      | none => none
      | some l => match shFs g r (o + l.length) with
        | none => none
        | some m => some (l ++ m)
    else none
/-- The shape of a type. -/
def shT (T : List (Nat × Ty)) : Nat → Nat → Option (List Sh)
  | 0, _ => none
  | f + 1, t => match lk t T with
    | none => none
    | some i => match i.k with
      | .in_ k => bif Nat.beq i.size 1 then some [.int k] else none
      | .bo => bif Nat.beq i.size 1 then some [.bool] else none
      | .sr => bif Nat.beq i.size 1 then some [.str] else none
      | .sl e => match lk e T with
        | none => none
        | some j => match shT T f e with
          | none => none
          | some l => bif Nat.beq l.length j.size && (Nat.blt 0 j.size && Nat.beq i.size 1) then some [.sl j.bytes l] else none
      | .st fs => match shFs (shT T f) fs 0 with
        | none => none
        | some l => bif Nat.beq l.length i.size then some l else none
      | _ => none
section
variable {H : Type} {enc : TypeId × Value → H} {P : Program} {T : List (Nat × Ty)} [hT : Tys P T] {w : World} {base : Nat} {spare : Nat → Bool} {held : Bool}
abbrev zW (w : World) : Fz := ⟨⟨fun b => b < w.heap.size, fun _ => [], fun _ => True⟩, w⟩
omit hT in
theorem weightsAll_mem {e : TypeId} : ∀ {ds : List (DataW H)} {d : DataW H}, d ∈ ds → ∀ m ∈ d.weights P e, m ∈ DataW.weightsAll P e ds
  | x :: r, d, h, m, hm => by
    simp only [DataW.weightsAll, List.mem_append]
    rcases List.mem_cons.1 h with rfl | h
    · exact .inl hm
    · exact .inr (weightsAll_mem h m hm)
/-- What a cell reader of type t tells. -/
def Opn (enc : TypeId × Value → H) (P : Program) (w : World) (base : Nat) (spare : Nat → Bool) (held : Bool) (t : TypeId) (sh : List Sh) : Prop :=
  ∀ (n : Nat) (cs : List Value) (y : DataW H × List MemPlace), DataW.trod enc P w base spare held n t cs = some y → (∀ m ∈ y.1.weights P t, m ≤ bigB) → ∃ xs : List V, HasL sh xs ∧ DenVL (zW w) xs cs
theorem opn_slice {t e : TypeId} {l : List Sh} {i j : Ty} (ht : lk t T = some i) (hi : i.k = .sl e) (hj : lk e T = some j) (hl : l.length = j.size) (hp : 0 < j.size) (ih : Opn enc P w base spare held e l) : Opn enc P w base spare held t [.sl j.bytes l] := by
  intro n cs y h hw
  have ku := (hT.ok t i ht).kind
  rw [hi] at ku
  have ku : P.underlying t = some (.slice e) := ku
  obtain ⟨f, z, q1, q2, q3, _⟩ := (hT.ok e j hj).info
  have hC : P.cellsOf e = j.size := by simp [Program.cellsOf, q1, q2]
  have hBy : P.bytesOf e = j.bytes := by simp [Program.bytesOf, q1, q3]
  rcases open_slice ku h with ⟨rfl, rfl⟩ | ⟨a, len, cap, k, n', D, Pl, rfl, hb, hlc, hmx, hk, hx, hcell⟩
  · exact ⟨[.sl j.size []], .one (.sl (by simp) (by simp) (by rw [hl]) (by simp) (by simp)), ⟨rfl, rfl, fun m d u e1 e2 => by
      cases m with
      | zero => simp at e1 e2; subst e1 e2; exact .sl (b := 0) (o := 0) [] rfl (Nat.le_refl _) (Nat.zero_le _) (by simp) (fun h => absurd rfl h) rfl (by simp) rfl (by simp)
      | succ m => simp at e1⟩⟩
  · have hlk : len ≤ k := by rw [hk]; split <;> omega
    have hwt : (((List.range len).map D).length + ((List.range (k - len)).map fun j => D (len + j)).length) * P.bytesOf e ≤ bigB := hw _ (by rw [hx]; exact weights_slice ku)
    have hwe : ∀ i, i < len → ∀ m ∈ (D i).weights P e, m ≤ bigB := fun i hi m hm => hw m (by
      rw [hx]
      simp only [DataW.weights, ku, List.mem_cons, List.mem_append]
      exact .inr (.inl (weightsAll_mem (List.mem_map.2 ⟨i, List.mem_range.2 hi, rfl⟩) m hm)))
    have hE : ∀ i, i < len → ∃ (xs : List V) (cs : List Value), HasL l xs ∧ DenVL (zW w) xs cs ∧ ∀ m, m < j.size → w.cell? (a.add (i * j.size + m)) = cs[m]? := by
      intro i hil
      obtain ⟨cs', hc, ht'⟩ := hcell i (by omega)
      obtain ⟨xs, h1, h2⟩ := ih _ _ _ ht' (hwe i hil)
      rw [hC] at hc
      obtain ⟨_, hcl, hat⟩ := World.cells?_some hc
      exact ⟨xs, cs', h1, h2, fun m hm => by rw [← add_of_add]; exact hat m hm⟩
    have hL : ∀ k, k ≤ len → ∃ (rs : List (List V)) (us : List Value), rs.length = k ∧ (∀ r ∈ rs, HasL l r) ∧ DenVL (zW w) rs.flatten us ∧ us.length = k * j.size ∧ ∀ m u, us[m]? = some u → w.cell? (a.add m) = some u := by
      intro k
      induction k with
      | zero => intro _; exact ⟨[], [], rfl, by simp, .nil, by simp, by simp⟩
      | succ k ihk =>
        intro hk
        obtain ⟨rs, us, h1, h2, h3, h4, h5⟩ := ihk (by omega)
        obtain ⟨xs, cs, g1, g2, g3⟩ := hE k (by omega)
        have gl : cs.length = j.size := by rw [g2.len, g1.len, hl]
        refine ⟨rs ++ [xs], us ++ cs, by simp [h1], fun r hr => ?_, by rw [List.flatten_append]; simpa using h3.app g2, by rw [List.length_append, h4, gl, Nat.add_mul, Nat.one_mul], fun m u hu => ?_⟩
        · rcases List.mem_append.1 hr with hr | hr
          · exact h2 r hr
          · rw [List.mem_singleton.1 hr]; exact g1
        · by_cases hm : m < k * j.size
          · rw [List.getElem?_append_left (by omega)] at hu
            exact h5 m u hu
          · rw [List.getElem?_append_right (by omega), h4] at hu
            have hlt : m - k * j.size < j.size := by have := (List.getElem?_eq_some_iff.1 hu).1; omega
            have := g3 _ hlt
            rw [show k * j.size + (m - k * j.size) = m by omega] at this
            rw [this, hu]
    obtain ⟨rs, us, h1, h2, h3, h4, h5⟩ := hL len (Nat.le_refl _)
    have hlen : len * j.bytes ≤ bigB := by
      simp only [List.length_map, List.length_range, hBy] at hwt
      exact Nat.le_trans (Nat.mul_le_mul_right _ (Nat.le_add_right _ _)) hwt
    have hr : ∀ r ∈ rs, r.length = j.size := fun r hr => by rw [(h2 r hr).len, hl]
    refine ⟨[.sl j.size rs], .one (.sl (by rw [h1]; exact hlen) (by omega) hl.symm hr (fun r hr => (h2 r hr).has)), ⟨rfl, rfl, fun m d u e1 e2 => ?_⟩⟩
    cases m with
    | succ m => simp at e1
    | zero =>
      simp at e1 e2
      subst e1 e2
      by_cases hrs : rs = []
      · subst hrs
        have : len = 0 := by simpa using h1.symm
        subst this
        exact .sl (b := 0) (o := 0) [] rfl (Nat.zero_le _) (Nat.zero_le _) hr (fun h => absurd rfl h) rfl (by simp) rfl (by simp)
      · have hus : 0 < us.length := by
          rw [h4]
          have : 0 < len := by rw [← h1]; exact List.length_pos_iff.2 hrs
          exact Nat.mul_pos this hp
        obtain ⟨b, off, spot⟩ := a
        have hc0 := h5 0 _ (List.getElem?_eq_getElem hus)
        have hspot : spot = none := by simpa [Addr.add] using World.cell?_spot hc0
        subst hspot
        have hlt := cell_lt hc0
        refine .sl (b := b) (o := off) us h1 hlc (by omega) hr (fun _ => ⟨rfl, by simpa [block_of_add] using hlt⟩) h3.len (fun m u hu => ?_) h3.one h3.den
        have := h5 m u hu
        rwa [add_plain] at this
theorem opn_struct {t : TypeId} {g : Nat → Option (List Sh)} {fs : List (Nat × TypeId)} {sh : List Sh} {i : Ty} (ht : lk t T = some i) (hi : i.k = .st fs) (hs : shFs g fs 0 = some sh) (hl : sh.length = i.size) (ih : ∀ u l, g u = some l → Opn enc P w base spare held u l) (hg : ∀ u l, g u = some l → P.cellsOf u = l.length) : Opn enc P w base spare held t sh := by
  intro n cs y h hw
  have ku := (hT.ok t i ht).kind
  rw [hi] at ku
  obtain ⟨fields, k1, k2⟩ := ku
  obtain ⟨f, z, q1, q2, _⟩ := (hT.ok t i ht).info
  have hC : P.cellsOf t = i.size := by simp [Program.cellsOf, q1, q2]
  obtain ⟨xs, n', _, rfl, hcl, hxl, hf⟩ := DataW.trod_struct k1 h
  rw [hC] at hcl
  have hwf : ∀ (m : Nat) (fd : Field) (x : DataW H × List MemPlace), fields[m]? = some fd → xs[m]? = some x → ∀ q ∈ x.1.weights P fd.type, q ≤ bigB := fun m fd x e1 e2 q hq => hw q (weights_field (j := m) k1 (by rw [List.getElem?_map, Array.getElem?_toList, e1]; rfl) (by rw [List.getElem?_map, e2]; rfl) hq)
  have key : ∀ (l : List (Nat × TypeId)) (m o : Nat) (sh : List Sh), (∀ (q : Nat) p, l[q]? = some p → fs[m + q]? = some p) → shFs g l o = some sh → ∃ vs : List V, HasL sh vs ∧ ((o + sh.length ≤ cs.length) → DenVL (zW w) vs ((cs.drop o).take sh.length)) := by
    intro l
    induction l with
    | nil => intro m o sh _ hs; simp [shFs] at hs; subst hs; exact ⟨[], .nil, fun _ => by simpa using DenVL.nil⟩
    | cons p r ihl =>
      intro m o sh hp hs
      obtain ⟨off, u⟩ := p
      simp only [shFs] at hs
      cases hb : Nat.beq off o <;> rw [hb] at hs
      · cases hs
      · simp only [cond_true] at hs
        have := Nat.eq_of_beq_eq_true hb
        subst this
        cases hgu : g u with
        | none => simp only [hgu] at hs; cases hs
        | some l1 =>
          simp only [hgu] at hs
          cases hr : shFs g r (off + l1.length) with
          | none => simp only [hr] at hs; cases hs
          | some l2 =>
            simp only [hr] at hs
            injection hs with hs
            subst hs
            obtain ⟨vs, v1, v2⟩ := ihl (m + 1) _ l2 (fun q p hq => by have := hp (q + 1) p (by simpa using hq); rwa [show m + (q + 1) = m + 1 + q by omega] at this) hr
            have hfs := hp 0 (off, u) rfl
            rw [Nat.add_zero, ← k2, List.getElem?_map] at hfs
            cases hfd : fields.toList[m]? with
            | none => rw [hfd] at hfs; cases hfs
            | some fd =>
              rw [hfd] at hfs
              simp only [Option.map_some, Option.some.injEq, Prod.mk.injEq] at hfs
              obtain ⟨e1, e2⟩ := hfs
              rw [Array.getElem?_toList] at hfd
              have hrd := hf m fd hfd
              rw [e1, e2, hg u l1 hgu] at hrd
              have hmx : m < xs.length := by rw [hxl]; exact (Array.getElem?_eq_some_iff.1 hfd).1
              have hxm := List.getElem?_eq_getElem hmx
              rw [hxm] at hrd
              have hww := hwf m fd _ hfd hxm
              rw [e2] at hww
              obtain ⟨ws, w1, w2⟩ := ih u l1 hgu _ _ _ hrd hww
              refine ⟨ws ++ vs, w1.app v1, fun ho => ?_⟩
              simp only [List.length_append] at ho
              have h2 := v2 (by omega)
              have hsp : (cs.drop off).take (l1 ++ l2).length = (cs.drop off).take l1.length ++ (cs.drop (off + l1.length)).take l2.length := by
                rw [List.length_append, List.take_add, List.drop_drop]
              rw [hsp]
              exact w2.app h2
  obtain ⟨vs, v1, v2⟩ := key fs 0 0 sh (fun q p h => by rwa [Nat.zero_add]) hs
  refine ⟨vs, v1, ?_⟩
  have := v2 (by omega)
  rwa [List.drop_zero, List.take_of_length_le (by omega)] at this
omit hT in
theorem den_one {x : V} {v : Value} (h : DenV (zW w) x v) : DenVL (zW w) [x] [v] := ⟨rfl, by simp [h.one], fun m d u e1 e2 => by
  cases m with
  | zero => simp at e1 e2; subst e1 e2; exact h
  | succ m => simp at e1⟩
theorem shT_cells : ∀ {f t : Nat} {sh : List Sh}, shT T f t = some sh → P.cellsOf t = sh.length
  | 0, t, sh, h => by cases h
  | f + 1, t, sh, h => by
    simp only [shT] at h
    cases ht : lk t T with
    | none => rw [ht] at h; cases h
    | some i =>
      rw [ht] at h
      simp only at h
      obtain ⟨q, z, q1, q2, _⟩ := (hT.ok t i ht).info
      have hC : P.cellsOf t = i.size := by simp [Program.cellsOf, q1, q2]
      rw [hC]
      split at h
      · cases hb : Nat.beq i.size 1 <;> rw [hb] at h
        · cases h
        · injection h with h; subst h; exact Nat.eq_of_beq_eq_true hb
      · cases hb : Nat.beq i.size 1 <;> rw [hb] at h
        · cases h
        · injection h with h; subst h; exact Nat.eq_of_beq_eq_true hb
      · cases hb : Nat.beq i.size 1 <;> rw [hb] at h
        · cases h
        · injection h with h; subst h; exact Nat.eq_of_beq_eq_true hb
      · rename_i e hk
        split at h
        · cases h
        · rename_i j hj
          split at h
          · cases h
          · rename_i l hl
            cases hb : (Nat.beq l.length j.size && (Nat.blt 0 j.size && Nat.beq i.size 1)) <;> rw [hb] at h
            · cases h
            · injection h with h; subst h
              simp only [Bool.and_eq_true] at hb
              exact Nat.eq_of_beq_eq_true hb.2.2
      · split at h
        · cases h
        · rename_i l hl
          cases hb : Nat.beq l.length i.size <;> rw [hb] at h
          · cases h
          · injection h with h; subst h; exact (Nat.eq_of_beq_eq_true hb).symm
      · cases h
/-- An argument of a readable type is a tree of its shape. -/
theorem opn : ∀ {f t : Nat} {sh : List Sh}, shT T f t = some sh → Opn enc P w base spare held t sh
  | 0, t, sh, h => by cases h
  | f + 1, t, sh, h => by
    simp only [shT] at h
    cases ht : lk t T with
    | none => rw [ht] at h; cases h
    | some i =>
      rw [ht] at h
      simp only at h
      split at h
      · rename_i k hk
        cases hb : Nat.beq i.size 1 <;> rw [hb] at h
        · cases h
        · injection h with h; subst h
          have ku := (hT.ok t i ht).kind
          rw [hk] at ku
          have ku : P.underlying t = some (.int k) := ku
          intro n cs y hy _
          obtain ⟨z, rfl, _, hz⟩ := DataW.trod_int ku hy
          exact ⟨[.int k z], .one (.int hz), den_one (.int _ _)⟩
      · rename_i hk
        cases hb : Nat.beq i.size 1 <;> rw [hb] at h
        · cases h
        · injection h with h; subst h
          have ku := (hT.ok t i ht).kind
          rw [hk] at ku
          have ku : P.underlying t = some .bool := ku
          intro n cs y hy _
          obtain ⟨z, rfl, _⟩ := DataW.trod_bool ku hy
          exact ⟨[.bool z], .one .bool, den_one (.bool _)⟩
      · rename_i hk
        cases hb : Nat.beq i.size 1 <;> rw [hb] at h
        · cases h
        · injection h with h; subst h
          have ku := (hT.ok t i ht).kind
          rw [hk] at ku
          have ku : P.underlying t = some .string := ku
          intro n cs y hy hw
          obtain ⟨z, rfl, rfl, hz⟩ := DataW.trod_string ku hy
          have := hw z.data.toList.length (show _ ∈ [z.data.toList.length] from List.mem_singleton.2 rfl)
          have e : z.data.toList.length = z.size := Array.length_toList
          rw [e] at this
          exact ⟨[.str z], .one (.str this), den_one (.str _ hz)⟩
      · rename_i e hk
        split at h
        · cases h
        · rename_i j hj
          split at h
          · cases h
          · rename_i l hl
            cases hb : (Nat.beq l.length j.size && (Nat.blt 0 j.size && Nat.beq i.size 1)) <;> rw [hb] at h
            · cases h
            · injection h with h; subst h
              simp only [Bool.and_eq_true] at hb
              exact opn_slice ht hk hj (Nat.eq_of_beq_eq_true hb.1) (by simpa [Nat.blt_eq] using hb.2.1) (opn hl)
      · rename_i fs hk
        split at h
        · cases h
        · rename_i l hl
          cases hb : Nat.beq l.length i.size <;> rw [hb] at h
          · cases h
          · injection h with h; subst h
            exact opn_struct ht hk hl (Nat.eq_of_beq_eq_true hb) (fun u l hu => opn hu) (fun u l hu => shT_cells hu)
      · cases h
/-- An argument of one cell. -/
theorem arg_open {f t : Nat} {s : Sh} {v : Value} {d : DataW H} {p : List MemPlace} (hs : shT T f t = some [s]) (h : DataW.Trod enc P w base spare held t v d p) (hz : ∀ n ∈ d.weights P t, n ≤ bigB) (hv : v.cells = #[v]) : ∃ x, HasSh s x ∧ ∀ ρ, DenS ρ (zW w) (.d (.u x)) v := by
  obtain ⟨n, hn⟩ := h
  rw [hv] at hn
  obtain ⟨xs, h1, h2⟩ := opn hs n _ _ hn hz
  obtain ⟨x, q, rfl, h3, h4⟩ := h1.cons_inv
  have := h4.nil_inv
  subst this
  exact ⟨x, h3, fun ρ => .d (.u (h2.den 0 x v rfl rfl))⟩
end
end Go.Proofs.YtgloielnnakknaaDoor
namespace Go.Proofs.YtgloielnnakknaaDoor
open Go.ChangeShapes Go.WideShapes Go.ChangeAt Go.RowKit

section
variable {H : Type} {enc : TypeId × Value → H} {P : Program}

theorem trodAll_stays (hl : laidOutB P = true) {W W' : World} {sp' : Nat → Bool} : ∀ {ts : List TypeId} {vs : List Value} {ds : List (DataW H)} {ps : List MemPlace}, (∀ t ∈ ts, P.readableRec t = true ∧ t < P.types.size) →
    DataW.TrodAll enc P W 0 (fun _ => true) true ts vs ds ps → (∀ p ∈ ps, W.sameAt W' p) → (∀ p ∈ ps, sp' p.block = true) → DataW.TrodAll enc P W' 0 sp' true ts vs ds ps
  | [], [], [], _, _, h, _, _ => h
  | _ :: _, _ :: _, _ :: _, _, hT, ⟨p, q, h1, h2, e⟩, hm, hs =>
    ⟨p, q, WideElems.Trod_stays hl (hT _ (List.mem_cons.2 (Or.inl rfl))).1 (hT _ (List.mem_cons.2 (Or.inl rfl))).2 h1 (fun x hx => hm x (by rw [e]; exact List.mem_append_left _ hx)) (fun x hx => hs x (by rw [e]; exact List.mem_append_left _ hx)),
      trodAll_stays hl (fun t ht => hT t (List.mem_cons.2 (Or.inr ht))) h2 (fun x hx => hm x (by rw [e]; exact List.mem_append_right _ hx)) (fun x hx => hs x (by rw [e]; exact List.mem_append_right _ hx)), e⟩
  | [], [], _ :: _, _, _, h, _, _ => h.elim
  | [], _ :: _, _, _, _, h, _, _ => h.elim
  | _ :: _, [], _, _, _, h, _, _ => h.elim
  | _ :: _, _ :: _, [], _, _, h, _, _ => h.elim

/-- One closed fact: each parameter's type can be read and is a row of the table. -/
def paramsRead (P : Program) (fn : Func) : Bool := fn.params.toList.all fun t => P.readableRec t && decide (t < P.types.size)

theorem post_of_below {f : Func} {s : ChangeSpec} {apart fresh handsOn again : Bool} {W W' : World} {args : Array Value} {ds : List (DataW H)} {before : List MemPlace} {tb : TypeId}
    (hl : laidOutB P = true) (hT : paramsRead P f = true) (hres : f.resultTypes = #[tb]) (htb : P.underlying tb = some .bool) (hvars : s.vars = [])
    (hsp : s.fn H ds = { results := [.lit (.bool true)], args := ds })
    (hW : DataW.Whole enc P f.params.toList s.vars apart W args.toList ds [] before) (hb : Below W.heap.size W W') :
    s.post enc P f apart fresh handsOn again W args (.bool true) W' := by
  have hT' : ∀ t ∈ f.params.toList, P.readableRec t = true ∧ t < P.types.size := fun t ht => by
    have := List.all_eq_true.1 hT t ht
    simpa using this
  have hlt := hW.lt
  have hW' := hW
  obtain ⟨p, q, hA, hV, he, hz, hn⟩ := hW
  have hq : q = [] := by
    rw [hvars] at hV
    exact (trodVars_none hV).2
  subst hq
  rw [List.append_nil] at he
  subst he
  have hR : ∀ (b : Nat) (sp : Nat → Bool) (hd : Bool), DataW.TrodAll enc P W' b sp hd f.resultTypes.toList ((Value.bool true).resultList f.resultTypes.size) (s.fn H (ds ++ [])).results [] := by
    intro b sp hd
    rw [List.append_nil, hsp, hres]
    exact trodAll_mk1 (shut_bool htb _)
  have hG : ∀ sp : Nat → Bool, (∀ p' ∈ before, sp p'.block = true) → DataW.TrodAll enc P W' 0 sp true f.params.toList args.toList (s.fn H (ds ++ [])).args before := by
    intro sp h
    rw [List.append_nil, hsp]
    exact trodAll_stays hl hT' hA (fun x hx => hb.same (hlt x hx)) h
  have hU : ∀ sp : Nat → Bool, DataW.TrodVars enc P W' sp s.vars (s.fn H (ds ++ [])).vars [] := by
    intro sp
    rw [hvars, List.append_nil, hsp]
    rfl
  refine ⟨ds, [], before, [], before, [], hW', hR _ _ _, hG _ (fun x hx => by simpa using hlt x hx), hU _, hb.frame _, fun _ => ?_⟩
  refine ⟨ok_one hres rfl (okWide_bool_mk htb _), _, _, ([] ++ before) ++ [], ⟨[] ++ before, [], trodAll_append (hG _ (fun _ _ => rfl)) (hR _ _ _), hU _, rfl, ?_, ?_⟩, ?_⟩
  · intro b off hp
    have hp' := by simpa using hp
    rw [hb.frozen (hlt _ hp')]
    exact hz b off hp'
  · intro ha
    simpa using hn ha
  · intro x hx _
    simpa using hx
end

end Go.Proofs.YtgloielnnakknaaDoor
namespace Go.Proofs.YtgloielnnakknaaDoor
theorem bulk_one {H : Type} (d : DataW H) : 1 ≤ Rows.uptoBulk d := by
  cases d with
  | lit l => cases l <;> simp [Rows.uptoBulk]
  | nil => simp [Rows.uptoBulk]
  | ptr d => simp [Rows.uptoBulk]
  | slice elems spare => simp [Rows.uptoBulk]
  | agg parts => simp [Rows.uptoBulk]
  | iface t d => simp [Rows.uptoBulk]
  | map entries => simp [Rows.uptoBulk]
  | held h => simp [Rows.uptoBulk]
theorem bulk_len {H : Type} : ∀ (l : List (DataW H)), l.length ≤ Rows.uptoBulkAll l
  | [] => by simp [Rows.uptoBulkAll]
  | x :: r => by have := bulk_one x; have := bulk_len r; simp only [Rows.uptoBulkAll, List.length_cons]; omega
theorem bulk_entry {H : Type} (x : Lit × DataW H) : Rows.uptoBulk x.2 + 1 ≤ Rows.uptoBulkEntry x := by
  obtain ⟨l, d⟩ := x
  cases l <;> simp [Rows.uptoBulkEntry] <;> omega
theorem bulk_entries {H : Type} : ∀ (l : List (Lit × DataW H)), l.length ≤ Rows.uptoBulkEntries l
  | [] => by simp [Rows.uptoBulkEntries]
  | x :: r => by have := bulk_entry x; have := bulk_entries r; simp only [Rows.uptoBulkEntries, List.length_cons]; omega
theorem bulk_mem {H : Type} {d : DataW H} {l : List (DataW H)} (h : d ∈ l) : Rows.uptoBulk d ≤ Rows.uptoBulkAll l := by
  induction l with
  | nil => cases h
  | cons x r ih =>
    simp only [Rows.uptoBulkAll]
    rcases List.mem_cons.1 h with rfl | h
    · omega
    · have := ih h; omega
theorem le_of_mul {m a b C : Nat} (h : m ≤ a * C) (hab : a ≤ b) : m ≤ b * C := Nat.le_trans h (Nat.mul_le_mul_right C hab)
/-- The types of a type's parts are in the table; what they weigh. -/
def closedT (P : Program) : Bool := (List.range P.types.size).all fun t => decide (P.bytesOf t ≤ 4096) && match P.underlying t with
  | some (.slice e) => decide (e < P.types.size)
  | some (.pointer e) => decide (e < P.types.size)
  | some (.array _ e) => decide (e < P.types.size)
  | some (.map k e) => decide (k < P.types.size) && decide (e < P.types.size)
  | some (.struct fs) => (fs.toList.map (·.type)).all fun e => decide (e < P.types.size)
  | _ => true
theorem closed_at {P : Program} (hP : closedT P = true) {t : TypeId} (h : t < P.types.size) : P.bytesOf t ≤ 4096 ∧ (∀ e, P.underlying t = some (.slice e) → e < P.types.size) ∧ (∀ e, P.underlying t = some (.pointer e) → e < P.types.size) ∧ (∀ n e, P.underlying t = some (.array n e) → e < P.types.size) ∧ (∀ k e, P.underlying t = some (.map k e) → k < P.types.size ∧ e < P.types.size) ∧ (∀ fs, P.underlying t = some (.struct fs) → ∀ e ∈ fs.toList.map (·.type), e < P.types.size) := by
  have h1 := List.all_eq_true.1 hP t (List.mem_range.2 h)
  rw [Bool.and_eq_true] at h1
  obtain ⟨h1, h2⟩ := h1
  refine ⟨of_decide_eq_true h1, fun e q => ?_, fun e q => ?_, fun n e q => ?_, fun k e q => ?_, fun fs q => ?_⟩
  · rw [q] at h2; exact of_decide_eq_true h2
  · rw [q] at h2; exact of_decide_eq_true h2
  · rw [q] at h2; exact of_decide_eq_true h2
  · rw [q] at h2
    rw [Bool.and_eq_true] at h2
    exact ⟨of_decide_eq_true h2.1, of_decide_eq_true h2.2⟩
  · rw [q] at h2
    exact fun e he => of_decide_eq_true (List.all_eq_true.1 h2 e he)
theorem one_C {C : Nat} (hC : C = 8192) : 1 ≤ C := by rw [hC]; decide
theorem two_C {P : Program} {C : Nat} (hC : C = 8192) (hP : closedT P = true) {e k : TypeId} (h : e < P.types.size) (h' : k < P.types.size) : P.bytesOf e + P.bytesOf k ≤ C := by
  have h1 := (closed_at hP h).1
  have h2 := (closed_at hP h').1
  rw [hC]
  exact Nat.add_le_add h1 h2
mutual
theorem wb {H : Type} {P : Program} {C : Nat} (hC : C = 8192) (hP : closedT P = true) : ∀ (d : DataW H) (t : TypeId), t < P.types.size → ∀ m ∈ d.weights P t, m ≤ Rows.uptoBulk d * C
  | .lit l, t, hlt, m, h => by
    cases l with
    | string b =>
      simp only [DataW.weights, List.mem_singleton] at h
      subst h
      simp only [Rows.uptoBulk]
      exact Nat.le_trans (Nat.le_succ _) (Nat.le_trans (Nat.le_of_eq (Nat.mul_one _).symm) (Nat.mul_le_mul_left _ (one_C hC)))
    | _ => simp [DataW.weights] at h
  | .nil, t, hlt, m, h => by simp [DataW.weights] at h
  | .ptr d, t, hlt, m, h => by
    simp only [DataW.weights] at h
    simp only [Rows.uptoBulk]
    split at h
    · rename_i e q; exact le_of_mul (wb hC hP d _ ((closed_at hP hlt).2.2.1 e q) m h) (by omega)
    · cases h
  | .slice es sp, t, hlt, m, h => by
    simp only [DataW.weights] at h
    simp only [Rows.uptoBulk]
    split at h
    · rename_i e q
      have he := (closed_at hP hlt).2.1 e q
      rcases List.mem_cons.1 h with rfl | h
      · have h1 := bulk_len es
        have h2 := bulk_len sp
        exact le_of_mul (Nat.mul_le_mul (show es.length + sp.length ≤ Rows.uptoBulkAll es + Rows.uptoBulkAll sp by omega) (Nat.le_trans (Nat.le_add_right _ _) (two_C hC hP he he))) (by omega)
      · rcases List.mem_append.1 h with h | h
        · exact le_of_mul (wbAll hC hP es e he m h) (by omega)
        · exact le_of_mul (wbAll hC hP sp e he m h) (by omega)
    · cases h
  | .agg ps, t, hlt, m, h => by
    simp only [DataW.weights] at h
    simp only [Rows.uptoBulk]
    split at h
    · rename_i fs q; exact le_of_mul (wbEach hC hP ps _ ((closed_at hP hlt).2.2.2.2.2 fs q) m h) (by omega)
    · rename_i n e q; exact le_of_mul (wbAll hC hP ps _ ((closed_at hP hlt).2.2.2.1 n e q) m h) (by omega)
    · cases h
  | .iface n d, t, hlt, m, h => by simp [DataW.weights] at h
  | .map es, t, hlt, m, h => by
    simp only [DataW.weights] at h
    simp only [Rows.uptoBulk]
    split at h
    · rename_i k e q
      obtain ⟨hk, he⟩ := (closed_at hP hlt).2.2.2.2.1 k e q
      rcases List.mem_cons.1 h with rfl | h
      · exact le_of_mul (Nat.mul_le_mul (bulk_entries es) (two_C hC hP hk he)) (by omega)
      · exact le_of_mul (wbEntries hC hP es e he m h) (by omega)
    · cases h
  | .held x, t, hlt, m, h => by simp [DataW.weights] at h
theorem wbAll {H : Type} {P : Program} {C : Nat} (hC : C = 8192) (hP : closedT P = true) : ∀ (l : List (DataW H)) (t : TypeId), t < P.types.size → ∀ m ∈ DataW.weightsAll P t l, m ≤ Rows.uptoBulkAll l * C
  | [], t, hlt, m, h => by simp [DataW.weightsAll] at h
  | d :: r, t, hlt, m, h => by
    simp only [DataW.weightsAll, List.mem_append] at h
    simp only [Rows.uptoBulkAll]
    rcases h with h | h
    · exact le_of_mul (wb hC hP d t (by first | exact hlt | exact hlt _ (by simp)) m h) (by omega)
    · exact le_of_mul (wbAll hC hP r t hlt m h) (by omega)
theorem wbEach {H : Type} {P : Program} {C : Nat} (hC : C = 8192) (hP : closedT P = true) : ∀ (l : List (DataW H)) (ts : List TypeId), (∀ t ∈ ts, t < P.types.size) → ∀ m ∈ DataW.weightsEach P ts l, m ≤ Rows.uptoBulkAll l * C
  | [], ts, hlt, m, h => by cases ts <;> simp [DataW.weightsEach] at h
  | d :: r, [], hlt, m, h => by simp [DataW.weightsEach] at h
  | d :: r, t :: ts, hlt, m, h => by
    simp only [DataW.weightsEach, List.mem_append] at h
    simp only [Rows.uptoBulkAll]
    rcases h with h | h
    · exact le_of_mul (wb hC hP d t (by first | exact hlt | exact hlt _ (by simp)) m h) (by omega)
    · exact le_of_mul (wbEach hC hP r ts (fun t ht => hlt t (by simp [ht])) m h) (by omega)
theorem wbEntries {H : Type} {P : Program} {C : Nat} (hC : C = 8192) (hP : closedT P = true) : ∀ (l : List (Lit × DataW H)) (t : TypeId), t < P.types.size → ∀ m ∈ DataW.weightsEntries P t l, m ≤ Rows.uptoBulkEntries l * C
  | [], t, hlt, m, h => by simp [DataW.weightsEntries] at h
  | x :: r, t, hlt, m, h => by
    simp only [DataW.weightsEntries, List.mem_append] at h
    simp only [Rows.uptoBulkEntries]
    rcases h with h | h
    · exact le_of_mul (wbEntry hC hP x t hlt m h) (by omega)
    · exact le_of_mul (wbEntries hC hP r t hlt m h) (by omega)
theorem wbEntry {H : Type} {P : Program} {C : Nat} (hC : C = 8192) (hP : closedT P = true) : ∀ (x : Lit × DataW H) (t : TypeId), t < P.types.size → ∀ m ∈ DataW.weightsEntry P t x, m ≤ Rows.uptoBulkEntry x * C
  | (l, d), t, hlt, m, h => by
    have hb := wb hC hP d t hlt
    cases l with
    | string b =>
      simp only [DataW.weightsEntry, List.mem_cons] at h
      simp only [Rows.uptoBulkEntry]
      rcases h with rfl | h
      · exact le_of_mul (a := b.length) (Nat.le_trans (Nat.le_of_eq (Nat.mul_one _).symm) (Nat.mul_le_mul_left _ (one_C hC))) (by omega)
      · exact le_of_mul (hb m h) (by omega)
    | _ =>
      simp only [DataW.weightsEntry] at h
      simp only [Rows.uptoBulkEntry]
      exact le_of_mul (hb m h) (by omega)
end
/-- What an argument weighs. -/
theorem bulk_weights {H : Type} {P : Program} {C : Nat} (hC : C = 8192) (hP : closedT P = true) {ds : List (DataW H)} {d : DataW H} {t : TypeId} (h : Rows.uptoBulkAll ds ≤ 1048576) (hlt : t < P.types.size) (hd : d ∈ ds) {m : Nat} (hm : m ∈ d.weights P t) : m ≤ 9000000000 :=
  Nat.le_trans (wb hC hP d t hlt m hm) (Nat.le_trans (Nat.mul_le_mul (Nat.le_trans (bulk_mem hd) h) (Nat.le_of_eq hC)) (by decide))
end Go.Proofs.YtgloielnnakknaaDoor
namespace Go.Proofs.YtgloielnnakknaaDoor
open Go.ChangeShapes Go.WideShapes Go.ChangeAt Go.RowKit
theorem law_liftedU {C : Checked} {os : Os} {f : FuncId} {fn : Func} {s : ChangeSpec} {tb : TypeId} {apart fresh : Bool} {conds : List PathCond} {laid : List (String × DataW Unit)} (started : os.Started) (H : Type) (enc : TypeId × Value → H) (F : Stop.Interp)
    (own : ownKnob C.prog.godebug = none) (noInit : C.prog.inits.idxOf? f = none) (hfn : C.prog.funcs[f]? = some fn)
    (witness : ∃ (w : World) (tape : Tape) (i : Input), w.os = os ∧ (w.forCall tape i).Shaped C.prog ∧ i.vars = [] ∧ Input.okWide C.prog (w.forCall tape i) .any w.heap.size f i ∧
      (Rows.OpenSpec.upto s).preRow enc C.prog fn conds apart laid (w.forCall tape i).memory i.args ∧ ({} : Assume).holds C.prog (lone (Frame.enter C.prog f i.args .normal) [] (w.forCall tape i)))
    (hl : laidOutB C.prog = true) (hT : paramsRead C.prog fn = true) (hres : fn.resultTypes = #[tb]) (htb : C.prog.underlying tb = some .bool) (hvars : s.vars = [])
    (hsp : ∀ ds : List (DataW H), ds.length = fn.params.size → s.fn H ds = { results := [.lit (.bool true)], args := ds })
    (walk : ∀ (W : World) (base : Nat) (args : Array Value) (ds : List (DataW H)) (p : List MemPlace),
      (∀ (j : Nat) t v, fn.params[j]? = some t → args[j]? = some v → Value.okWide C.prog W .any base t v) →
      DataW.TrodAll enc C.prog W 0 (fun _ => true) true fn.params.toList args.toList ds p → (∀ x ∈ p, x.block < W.heap.size) →
      Rows.uptoBulkAll ds ≤ 1048576 →
      Calls C.prog f args W fun e W' => e = .returned (.bool true) ∧ Below W.heap.size W W') :
    ReturnsInHanded {} C os f .any ((Rows.OpenSpec.upto s).preRow enc C.prog fn conds apart laid) (((Rows.OpenSpec.upto s).at F).post enc C.prog fn apart fresh false false) := by
  refine returnsInHanded_of_row (s := Rows.OpenSpec.upto s) own started noInit hfn witness ?_
  intro W base args ds gs before hval hW0 _ hk _ _ _ _
  have hW : DataW.Whole enc C.prog fn.params.toList s.vars apart W args.toList ds gs before := hW0
  have hgs : gs = [] := by
    obtain ⟨p, q, hA, hV, he, _, _⟩ := hW
    rw [hvars] at hV
    exact (trodVars_none hV).1
  subst hgs
  have hlen : ds.length = fn.params.size := by
    obtain ⟨p, q, hA, _⟩ := hW
    have hlt : ∀ {ts : List TypeId} {vs : List Value} {ds : List (DataW H)} {ps : List MemPlace}, DataW.TrodAll enc C.prog W 0 (fun _ => true) true ts vs ds ps → ds.length = ts.length := by
      intro ts
      induction ts with
      | nil => intro vs ds ps h; cases vs <;> cases ds <;> first | rfl | exact h.elim
      | cons t ts ih =>
        intro vs ds ps h
        cases vs with
        | nil => exact h.elim
        | cons v vs =>
          cases ds with
          | nil => exact h.elim
          | cons d ds =>
            obtain ⟨p, q, _, h2, _⟩ := h
            simp [ih h2]
    simpa using hlt hA
  have hb := of_decide_eq_true (hk _ rfl)
  rw [List.append_nil] at hb
  have hlt := hW.lt
  have hp : ∃ p, DataW.TrodAll enc C.prog W 0 (fun _ => true) true fn.params.toList args.toList ds p ∧ ∀ x ∈ p, x.block < W.heap.size := by
    obtain ⟨p, q, hA, hV, he, _, _⟩ := hW
    exact ⟨p, hA, fun x hx => hlt x (by rw [he]; exact List.mem_append_left _ hx)⟩
  obtain ⟨p, hA, hpl⟩ := hp
  refine (walk W base args ds p hval hA hpl hb).mono fun e W' ⟨he, hb⟩ => ?_
  exact ⟨_, he, post_of_below hl hT hres htb hvars (hsp ds hlen) hW hb⟩
end Go.Proofs.YtgloielnnakknaaDoor
namespace Go.Proofs.YtgloielnnakknaaDoor
open Go.ChangeShapes Go.WideShapes Go.ChangeAt Go.RowKit
theorem laid_out : laidOutB Tryd.prog = true := by kernel_rfl
theorem own_knob : ownKnob Tryd.prog.godebug = none := by kernel_rfl
mutual
def cellsD : DataW Unit → List Value
  | .lit (.int k n) => [.int k n]
  | .agg ps => cellsDs ps
  | _ => []
def cellsDs : List (DataW Unit) → List Value
  | [] => []
  | d :: r => cellsD d ++ cellsDs r
end
def setCs (cs : List Value) : Obj → Obj
  | .cells _ t frozen => .cells cs.toArray t frozen
  | o => o
noncomputable def laidWorld (os : Os) : World :=
  { World.holding Tryd.prog os ⟨#[], #[], []⟩ with heap := ((World.holding Tryd.prog os ⟨#[], #[], []⟩).heap.modify 1 (setCs (cellsD Rows.laid_unicode_utf8_first))).modify 2 (setCs (cellsD Rows.laid_unicode_utf8_acceptRanges)) }
abbrev laidL : List (String × DataW Unit) := [("unicode/utf8.acceptRanges", Rows.laid_unicode_utf8_acceptRanges), ("unicode/utf8.first", Rows.laid_unicode_utf8_first)]
theorem laid_met (os : Os) (args : Array Value) : laidMet Tryd.prog laidL ((laidWorld os).forCall (fun _ _ => 0) ⟨#[], args, []⟩).memory :=
  laidMet_of_run' 8 (by kernel_rfl) (by kernel_rfl)
theorem closed_T : closedT Tryd.prog = true := by kernel_rfl
end Go.Proofs.YtgloielnnakknaaDoor
namespace Go.Proofs.YtgloielnnakknaaDoor
open Go.ChangeShapes Go.WideShapes Go.Deep Go.RowKit
abbrev shSteps : Sh := .sl 40 [.int .i64, .str, .str]
abbrev shUnits : Sh := .sl 40 [.str, shSteps]
theorem shUnits_eq : shT tt 6 32 = some [shUnits] := by rfl
structure SOk (t : Stp) : Prop where
  name : t.name.size ≤ 9000000000
  part : t.part.size ≤ 9000000000
structure UOk (u : Un) : Prop where
  name : u.name.size ≤ 9000000000
  len : u.steps.length ≤ 9000000000
  steps : ∀ t ∈ u.steps, SOk t
structure LOk (l : List Un) : Prop where
  len : l.length ≤ 9000000000
  units : ∀ u ∈ l, UOk u
theorem LOk.lb {l : List Un} (h : LOk l) : Lb l := ⟨h.len, fun u hu => (h.units u hu).len⟩
theorem rows_ofP {α β : Type} {f : α → β} {P : α → Prop} : ∀ {rs : List β}, (∀ r ∈ rs, ∃ a, r = f a ∧ P a) → ∃ l : List α, rs = l.map f ∧ ∀ a ∈ l, P a
  | [], _ => ⟨[], rfl, fun _ h => by cases h⟩
  | r :: rs, h => by
    obtain ⟨a, rfl, ha⟩ := h r (by simp)
    obtain ⟨l, rfl, hl⟩ := rows_ofP (rs := rs) fun q hq => h q (by simp [hq])
    exact ⟨a :: l, rfl, fun b hb => by
      rcases List.mem_cons.1 hb with rfl | hb
      · exact ha
      · exact hl b hb⟩
theorem steps_of {x : V} (h : HasSh shSteps x) : ∃ l : List Stp, x = .sl 3 (l.map Stp.row) ∧ l.length ≤ 9000000000 ∧ ∀ t ∈ l, SOk t := by
  cases h with | sl hl hm hs hr h =>
  rename_i rs
  subst hs
  have : ∀ r ∈ rs, ∃ a : Stp, r = a.row ∧ SOk a := fun r hr' => by
    obtain ⟨x0, q, rfl, h0, hq⟩ := HasL.cons_inv ⟨hr r hr', h r hr'⟩
    obtain ⟨x1, q, rfl, h1, hq⟩ := hq.cons_inv
    obtain ⟨x2, q, rfl, h2, hq⟩ := hq.cons_inv
    have := hq.nil_inv
    subst this
    cases h0 with | int =>
    cases h1 with | str h1 =>
    cases h2 with | str h2 =>
    exact ⟨⟨_, _, _⟩, rfl, h1, h2⟩
  obtain ⟨l, rfl, hl2⟩ := rows_ofP this
  refine ⟨l, rfl, ?_, hl2⟩
  rw [List.length_map] at hl
  have : bigB = 9000000000 := rfl
  omega
theorem units_of {x : V} (h : HasSh shUnits x) : ∃ l : List Un, x = uns l ∧ LOk l := by
  cases h with | sl hl hm hs hr h =>
  rename_i rs
  subst hs
  have : ∀ r ∈ rs, ∃ a : Un, r = a.row ∧ UOk a := fun r hr' => by
    obtain ⟨x0, q, rfl, h0, hq⟩ := HasL.cons_inv ⟨hr r hr', h r hr'⟩
    obtain ⟨x1, q, rfl, h1, hq⟩ := hq.cons_inv
    have := hq.nil_inv
    subst this
    cases h0 with | str h0 =>
    obtain ⟨b, rfl, hb1, hb2⟩ := steps_of h1
    exact ⟨⟨_, b⟩, rfl, h0, hb1, hb2⟩
  obtain ⟨l, rfl, hl2⟩ := rows_ofP this
  refine ⟨l, rfl, ?_, hl2⟩
  rw [List.length_map] at hl
  have : bigB = 9000000000 := rfl
  omega
end Go.Proofs.YtgloielnnakknaaDoor
namespace Go.Proofs.YtgloielnnakknaaDoor
open Go.ChangeShapes Go.WideShapes Go.ChangeAt Go.RowKit
abbrev rhoN : Rho := ⟨fun _ => none, fun _ _ _ => none⟩
set_option maxRecDepth 100000 in
theorem once_lifted (os : Os) (started : os.Started) (H : Type) (enc : TypeId × Value → H) (F : Stop.Interp) :
    ReturnsInHanded {} Tryd.checked os 6 .any ((Rows.OpenSpec.upto Rows.modulesRunOnceSpec).preRow enc Tryd.prog Tryd.f6 Rows.modulesRunOnceUptoRow.domain false Rows.modulesRunOnceUptoRow.laid) (((Rows.OpenSpec.upto Rows.modulesRunOnceSpec).at F).post enc Tryd.prog Tryd.f6 false true false false) := by
  have hx : ∃ places, DataW.whole enc Tryd.prog ((laidWorld os).forCall (fun _ _ => 0) ⟨#[], #[.slice none 0 0], []⟩).memory Tryd.f6.params.toList Rows.modulesRunOnceSpec.vars false #[Value.slice none 0 0].toList 8 = some ([.nil], [], places) := ⟨[], by kernel_rfl⟩
  obtain ⟨places, hx⟩ := hx
  refine law_liftedU (C := Tryd.checked) (s := Rows.modulesRunOnceSpec) (tb := 4) started H enc F own_knob (by kernel_rfl) Tryd.func6
    (witness_row_at (enc := enc) (C := Tryd.checked) false (laidWorld os) #[.slice none 0 0] rfl (by kernel_rfl) (by kernel_rfl) (by kernel_rfl)
      (OpenSpec.preRow_of_cond 8 hx (by kernel_rfl) (fun k hk => by cases hk; kernel_rfl) (by kernel_rfl) (laid_met os _)))
    laid_out (by kernel_rfl) (by kernel_rfl) Tryd.underlying4 rfl ?_ ?_
  · intro ds hl
    match ds, hl with
    | [d], _ => rfl
  · intro W base args ds p hval hA hp hz
    have hval' : ∀ (j : Nat) t v, Tryd.f6.params[j]? = some t → args[j]? = some v → Value.okWide Tryd.prog W .any base t v := hval
    have hA' : DataW.TrodAll enc Tryd.prog W 0 (fun _ => true) true Tryd.f6.params.toList args.toList ds p := hA
    rw [Tryd.params6] at hA' hval'
    obtain ⟨v0, d0, rfl, rfl, h0⟩ := trodAll_one hA'
    obtain ⟨A0, l0, c0, rfl⟩ := okWide_slice Tryd.underlying32 (hval' 0 _ v0 rfl rfl)
    obtain ⟨x, q1, q2⟩ := arg_open (T := tt) shUnits_eq h0 (fun n hn => bulk_weights rfl closed_T hz (by decide +kernel) List.mem_cons_self hn) rfl
    obtain ⟨l, rfl, hok⟩ := units_of q1
    refine calls_of_A (vs := [.slice A0 l0 c0]) (law_once_T l hok.lb) ⟨rfl, fun j s v e1 e2 => ?_, fun _ h => h⟩
    match j with
    | 0 => simp at e1 e2; subst e1 e2; exact q2 rhoN
    | j + 1 => simp at e1
theorem once_said : Rows.ModulesRunOnceUptoSaid :=
  OpenClaim.holds_of_cond 6 Tryd.f6 rfl rfl rfl rfl rfl rfl rfl ⟨rfl, rfl, rfl, rfl, rfl⟩ rfl rfl rfl rfl rfl (by kernel_rfl) Tryd.func6 (by kernel_rfl)
    (of_decide_eq_true (by kernel_rfl)) (by unfold Func.isWrapper; first | (rw [if_pos (by decide +kernel)]; kernel_rfl) | (rw [if_neg (by decide +kernel)]; exact ⟨rfl, rfl⟩))
    (fun os started H enc _ F => by rw [OpenClaim.pre_eq_preRow]; exact once_lifted os started H enc F)
theorem once_plain (f : FuncId) (fn : Func) (hf : Tryd.pinned.checked.prog.funcNamed "brindlewood/brindlewoodlaw6.ModulesRunOnce" = some f) (hfn : Tryd.pinned.checked.prog.funcs[f]? = some fn) :
    false = Tryd.pinned.checked.prog.looks [] ∧ ∀ (j : Nat) t, fn.params[j]? = some t → Tryd.pinned.checked.prog.wantsStandIn t = false := by
  obtain rfl : f = 6 := Option.some.inj ((show Tryd.prog.funcNamed "brindlewood/brindlewoodlaw6.ModulesRunOnce" = some 6 by kernel_rfl).symm.trans hf) |>.symm
  obtain rfl : fn = Tryd.f6 := (Option.some.inj (Tryd.func6.symm.trans hfn)).symm
  refine ⟨by kernel_rfl, fun j t ht => ?_⟩
  rw [Tryd.params6] at ht
  obtain rfl : t = 32 := by simpa using Array.mem_of_getElem? ht
  exact (show Tryd.prog.wantsStandIn 32 = false by kernel_rfl)
theorem once_holds : Rows.ModulesRunOnceUptoCardSaid :=
  Claim7.holds_tied_plain_at .later [] _ _ _ _ once_said (fun _ h => by cases h) (by kernel_rfl) (fun _ h => by cases h) modulesRunOnceUpto_row_tie rfl ⟨rfl, rfl⟩ (by kernel_rfl) rfl once_plain (by kernel_rfl)
#print axioms once_holds
end Go.Proofs.YtgloielnnakknaaDoor
