/-
  EventloopSimulateMatchesSpec: for all jobs the law returns true, and the jobs read afterwards as they read before. No condition.
-/
import Derived.Test.YtgiebofmfkacgaaQa5
namespace Go.Proofs.Ytgiebofmfkacgaa
open Go.RowKit
set_option maxHeartbeats 8000000 in
theorem pk5c (jobs : List Jb) (n f : Nat) (ts : List Tk6) (now nx : Int) (log : List Rc) (t0 : Tk6) (R : Sg) (j k : Nat) (A o : List Ac) (T1 : List Tk6) (t3 t4 t5 t6 : Bool) (t7 t8 t9 t10 : Int) (p : PStep jobs n f ts now nx log ⟨j, k, t3, t4, t5, t6, t7, t8, t9, t10⟩ j k A o T1) (m : Nat) (ha : A[k]? = some ⟨5, m⟩) (al : m ≠ n) (am : m < ts.length) (u1 u2 : Int) (u3 u4 u5 u6 : Bool) (u7 u8 u9 u10 : Int) (hu : ts[m]? = some ⟨u1, u2, u3, u4, u5, u6, u7, u8, u9, u10⟩) (e5 : u5 = false) (e6 : u6 = false) (hrd : u8 < 0 ∨ now < u7) (hR1 : aliveG ⟨T1, now, nx, log⟩ n m = true → goG jobs n f (cancG ⟨T1, now, nx, log⟩ m) = R) (hR2 : aliveG ⟨T1, now, nx, log⟩ n m = false → goG jobs n f ⟨T1, now, nx, log⟩ = R) (Ke : Nat → Kt) : vcC Try.prog tt Try.f49.ntmps (RetKO tt Try.f49.results.toList (Iso (sgA jobs R) (sgO R))) (bodyOf Try.f49.body) (PNext jobs n f R) Ke (prS jobs n ⟨ts, now, nx, log⟩ t0).tm (prS jobs n ⟨ts, now, nx, log⟩ t0).ob := by
  have hn := p.hn
  have hrw : ∀ {K : List V → Prop}, K (⟨j, k, t3, t4, t5, t6, t7, t8, t9, t10⟩ : Tk6).v → Rw (ts.map Tk6.v) n K := fun k => Rw.get (by rw [List.getElem?_map, p.rd]; rfl) k
  have hix' : ∀ {K : List V → Prop}, K (bif t4 then [avs o, avs A] else [avs A, avs o]) → Ix (jobs.map Jb.v) (j : Int) K := fun q => p.ix q
  have hkA := p.hk
  have hia : ∀ {K : List V → Prop}, K (⟨5, m⟩ : Ac).v → Ix (A.map Ac.v) (k : Int) K := fun q => Ix.map rfl p.hk (by rw [(List.getElem?_eq_some_iff.1 ha).2]; exact q)
  have hb1 := p.hs.nextb
  have hb2 := p.hs.le
  have hb3 := p.hs.log
  have hA := p.hA
  dsimp only at hb1 hb2 hb3
  have hTr : (ts.map Tk6.v).set n (⟨(j : Int), (k : Int) + 1, t3, t4, t5, t6, t7, t8, t9, t10⟩ : Tk6).v = T1.map Tk6.v := by rw [p.hT]; simp
  have hl := p.len
  have hs0 := p.hs.next
  have hnow := p.hs.now
  have hnowb := p.hs.nowb
  dsimp only at hs0 hnow hnowb
  have hT1n : T1[n]? = some ⟨j, (k : Int) + 1, t3, t4, t5, t6, t7, t8, t9, t10⟩ := by rw [p.hT, List.getElem?_set, if_pos rfl, if_pos hn]
  have hnT : n < T1.length := by rw [hl]; exact hn
  have hnext : goG jobs n f ⟨T1, now, nx, log⟩ = R → ∀ b4 : Bool, PInv jobs n R (f, ⟨T1, now, nx, log⟩, ⟨j, k, t3, b4, t5, t6, t7, t8, t9, t10⟩) := fun e b4 => PInv.of p.hs' hnT p.act .refl (by omega) (by omega) (by omega) e
  obtain ⟨b4, hb4⟩ : ∃ b4, t4 = b4 := ⟨_, rfl⟩
  have hrm : (ts.map Tk6.v)[m]? = some (⟨u1, u2, u3, u4, u5, u6, u7, u8, u9, u10⟩ : Tk6).v := by rw [List.getElem?_map, hu]; rfl
  have hTm : T1[m]? = some ⟨u1, u2, u3, u4, u5, u6, u7, u8, u9, u10⟩ := by rw [p.hT, List.getElem?_set_ne (Ne.symm al), hu]
  have hr0 := r0_T m ts.length am
  have hal : aliveG ⟨T1, now, nx, log⟩ n m = !u5 := by
    simp only [aliveG]
    rw [Int.toNat_natCast, hTm, decide_eq_true (by omega)]
    have : ((m : Int) != (n : Int)) = true := by simp; omega
    rw [this]
    simp
  rw [hal] at hR1 hR2
  subst e5 e6
  have hR1 := hR1 rfl
  rw [cancG, hTm] at hR1
  dsimp only at hR1
  have hmT : m < T1.length := by omega
  simp only [Bool.false_eq_true, if_false] at hR1
  obtain ⟨T3, hT3⟩ : ∃ T3, T3 = T1.set m ⟨u1, u2, u3, u4, false, true, u7, u8, -1, u10⟩ := ⟨_, rfl⟩
  have hm3 : modG ⟨T1, now, nx, log⟩ m (fun t => { t with cancelled := true, waits := -1 }) = ⟨T3, now, nx, log⟩ := by
    simp only [modG]
    rw [modify_set _ _ _ hmT, (List.getElem?_eq_some_iff.1 hTm).2, hT3]
  rw [hm3] at hR1
  have hl3 : T3.length = ts.length := by rw [hT3]; simp [hl]
  have hJ3 : SameJ T1 T3 := by rw [hT3]; exact SameJ.set hTm rfl rfl rfl
  have hmn : ¬ n = m := fun e => al e.symm
  rw [if_pos hrd] at hR1
  obtain ⟨T4, hT4⟩ : ∃ T4, T4 = T3.modify m fun t => { t with due := now, stamp := nx } := ⟨_, rfl⟩
  have hR1 : goG jobs n f ⟨T4, now, nx + 1, log⟩ = R := by rw [hT4]; exact hR1
  have hJ4 : SameJ T3 T4 := by rw [hT4]; exact SameJ.mod _ _ (fun _ => rfl) (fun _ => rfl) fun _ => rfl
  have hnext : ∀ b4 : Bool, PInv jobs n R (f, ⟨T4, now, nx + 1, log⟩, ⟨j, k, t3, b4, t5, t6, t7, t8, t9, t10⟩) := fun b4 => PInv.of p.hs' hnT p.act (hJ3.trans hJ4) (by omega) (by omega) (by omega) hR1
  clear hR1 hR2
  cases t4
  all_goals
    (conv => whnf)
    repeat' ((conv => whnf); first | refine Ixo.mk ⟨n, rfl, hn, ?_⟩ | refine hrw ?_ | refine hix' ?_ | refine hia ?_ | refine Ixo.mk ⟨m, rfl, am, ?_⟩ | refine Rw_ne hrm (Ne.symm al) ?_ | refine Rw.self (by simp [am]) ?_ | refine Gs.id ?_ | with_reducible refine Brn.T rfl ?_ | with_reducible refine Brn.F rfl ?_ | refine Brn.T (by (try simp only [smT]); first | rfl | assumption | omega) ?_ | refine Brn.F (by (try simp only [smT]); first | rfl | assumption | omega) ?_ | (refine Brn.mk (fun hb => ?_) (fun hb => ?_) <;> (try simp only [smT] at hb) <;> (try (exact absurd trivial hb)) <;> (try (exfalso; omega))) | (refine Bnd.mk (fun hm => ?_); (try simp only [smT] at hm)) | refine Rng.mk (by (try simp only [smT]); omega) ?_ | (refine CL.mk (Or.inr (Raw.callI [901,902] [901,902] rfl rfl rfl rfl rfl rfl rfl (ready_R2 jobs T3 now nx log m (by omega) (by omega) hs0 _ _ hl3.symm rfl _ _ (by rw [hT3, p.hT]; simp) rfl T4 hT4) ?_)); rintro _ _ ⟨rfl, rfl⟩; refine Bk.mk rfl rfl ?_) | refine Drw.of (T := tt) (i := 21) [] [] [(0, true), (1, true), (2, true), (3, true), (4, true), (5, true), (6, true), (7, true), (8, true), (9, true), (10, true), (11, true), (12, true), (13, true), (14, true), (15, true), (16, true), (17, true), (18, true), (19, true), (20, false), (21, true), (22, true), (23, true), (24, true), (25, true), (26, true)] (by kernel_rfl) ?_ | refine Drw.of (T := tt) (i := 39) [] [] [(0, true), (1, true), (2, true), (3, true), (4, true), (5, true), (6, true), (7, true), (8, true), (9, true), (10, true), (11, true), (12, true), (13, true), (14, true), (15, true), (16, true), (17, true), (18, true), (19, true)] (by kernel_rfl) ?_ | (refine CL.mk (Or.inl ?_); (conv => whnf); refine Cl.is (hr0) rfl (by exact fun _ => rfl) ?_))
  all_goals (conv => whnf)
  all_goals
    refine ⟨_, hnext b4, by dsimp only; omega, [(2, .k 2), (4, .k 4), (5, .k 5), (901, .k 901), (902, .k 902)], ?_⟩
    subst hb4
    exact ⟨by (try dsimp only); (repeat (refine LeT.cons rfl (by exact LeS.d (by first | exact LeD.u rfl | exact LeD.p rfl)) ?_)); exact LeT.nil, by (try dsimp only); repeat (first | exact LeO.nil | refine LeO.bx rfl rfl (by repeat (first | exact LeL.nil | refine LeL.cons (by first | exact LeD.u rfl | exact LeD.ow rfl rfl) ?_)) ?_ | refine LeO.ar rfl rfl (by rfl) ?_)⟩
end Go.Proofs.Ytgiebofmfkacgaa
namespace Go.Proofs.Ytgiebofmfkacgaa
open Go.RowKit
set_option maxHeartbeats 8000000 in
theorem pk5d (jobs : List Jb) (n f : Nat) (ts : List Tk6) (now nx : Int) (log : List Rc) (t0 : Tk6) (R : Sg) (j k : Nat) (A o : List Ac) (T1 : List Tk6) (t3 t4 t5 t6 : Bool) (t7 t8 t9 t10 : Int) (p : PStep jobs n f ts now nx log ⟨j, k, t3, t4, t5, t6, t7, t8, t9, t10⟩ j k A o T1) (m : Nat) (ha : A[k]? = some ⟨5, m⟩) (al : m ≠ n) (am : m < ts.length) (u1 u2 : Int) (u3 u4 u5 u6 : Bool) (u7 u8 u9 u10 : Int) (hu : ts[m]? = some ⟨u1, u2, u3, u4, u5, u6, u7, u8, u9, u10⟩) (e5 : u5 = false) (e6 : u6 = false) (hrd : ¬ (u8 < 0 ∨ now < u7)) (hR1 : aliveG ⟨T1, now, nx, log⟩ n m = true → goG jobs n f (cancG ⟨T1, now, nx, log⟩ m) = R) (hR2 : aliveG ⟨T1, now, nx, log⟩ n m = false → goG jobs n f ⟨T1, now, nx, log⟩ = R) (Ke : Nat → Kt) : vcC Try.prog tt Try.f49.ntmps (RetKO tt Try.f49.results.toList (Iso (sgA jobs R) (sgO R))) (bodyOf Try.f49.body) (PNext jobs n f R) Ke (prS jobs n ⟨ts, now, nx, log⟩ t0).tm (prS jobs n ⟨ts, now, nx, log⟩ t0).ob := by
  have hn := p.hn
  have hrw : ∀ {K : List V → Prop}, K (⟨j, k, t3, t4, t5, t6, t7, t8, t9, t10⟩ : Tk6).v → Rw (ts.map Tk6.v) n K := fun k => Rw.get (by rw [List.getElem?_map, p.rd]; rfl) k
  have hix' : ∀ {K : List V → Prop}, K (bif t4 then [avs o, avs A] else [avs A, avs o]) → Ix (jobs.map Jb.v) (j : Int) K := fun q => p.ix q
  have hkA := p.hk
  have hia : ∀ {K : List V → Prop}, K (⟨5, m⟩ : Ac).v → Ix (A.map Ac.v) (k : Int) K := fun q => Ix.map rfl p.hk (by rw [(List.getElem?_eq_some_iff.1 ha).2]; exact q)
  have hb1 := p.hs.nextb
  have hb2 := p.hs.le
  have hb3 := p.hs.log
  have hA := p.hA
  dsimp only at hb1 hb2 hb3
  have hTr : (ts.map Tk6.v).set n (⟨(j : Int), (k : Int) + 1, t3, t4, t5, t6, t7, t8, t9, t10⟩ : Tk6).v = T1.map Tk6.v := by rw [p.hT]; simp
  have hl := p.len
  have hs0 := p.hs.next
  have hnow := p.hs.now
  have hnowb := p.hs.nowb
  dsimp only at hs0 hnow hnowb
  have hT1n : T1[n]? = some ⟨j, (k : Int) + 1, t3, t4, t5, t6, t7, t8, t9, t10⟩ := by rw [p.hT, List.getElem?_set, if_pos rfl, if_pos hn]
  have hnT : n < T1.length := by rw [hl]; exact hn
  have hnext : goG jobs n f ⟨T1, now, nx, log⟩ = R → ∀ b4 : Bool, PInv jobs n R (f, ⟨T1, now, nx, log⟩, ⟨j, k, t3, b4, t5, t6, t7, t8, t9, t10⟩) := fun e b4 => PInv.of p.hs' hnT p.act .refl (by omega) (by omega) (by omega) e
  obtain ⟨b4, hb4⟩ : ∃ b4, t4 = b4 := ⟨_, rfl⟩
  have hrm : (ts.map Tk6.v)[m]? = some (⟨u1, u2, u3, u4, u5, u6, u7, u8, u9, u10⟩ : Tk6).v := by rw [List.getElem?_map, hu]; rfl
  have hTm : T1[m]? = some ⟨u1, u2, u3, u4, u5, u6, u7, u8, u9, u10⟩ := by rw [p.hT, List.getElem?_set_ne (Ne.symm al), hu]
  have hr0 := r0_T m ts.length am
  have hal : aliveG ⟨T1, now, nx, log⟩ n m = !u5 := by
    simp only [aliveG]
    rw [Int.toNat_natCast, hTm, decide_eq_true (by omega)]
    have : ((m : Int) != (n : Int)) = true := by simp; omega
    rw [this]
    simp
  rw [hal] at hR1 hR2
  subst e5 e6
  have hR1 := hR1 rfl
  rw [cancG, hTm] at hR1
  dsimp only at hR1
  have hmT : m < T1.length := by omega
  simp only [Bool.false_eq_true, if_false] at hR1
  obtain ⟨T3, hT3⟩ : ∃ T3, T3 = T1.set m ⟨u1, u2, u3, u4, false, true, u7, u8, -1, u10⟩ := ⟨_, rfl⟩
  have hm3 : modG ⟨T1, now, nx, log⟩ m (fun t => { t with cancelled := true, waits := -1 }) = ⟨T3, now, nx, log⟩ := by
    simp only [modG]
    rw [modify_set _ _ _ hmT, (List.getElem?_eq_some_iff.1 hTm).2, hT3]
  rw [hm3] at hR1
  have hl3 : T3.length = ts.length := by rw [hT3]; simp [hl]
  have hJ3 : SameJ T1 T3 := by rw [hT3]; exact SameJ.set hTm rfl rfl rfl
  have hmn : ¬ n = m := fun e => al e.symm
  rw [if_neg hrd] at hR1
  have hnext : ∀ b4 : Bool, PInv jobs n R (f, ⟨T3, now, nx, log⟩, ⟨j, k, t3, b4, t5, t6, t7, t8, t9, t10⟩) := fun b4 => PInv.of p.hs' hnT p.act hJ3 (by omega) (by omega) (by omega) hR1
  have hrd1 : 0 ≤ u8 := by omega
  have hrd2 : u7 ≤ now := by omega
  clear hR1 hR2 hrd
  cases t4
  all_goals
    (conv => whnf)
    repeat' ((conv => whnf); first | refine Ixo.mk ⟨n, rfl, hn, ?_⟩ | refine hrw ?_ | refine hix' ?_ | refine hia ?_ | refine Ixo.mk ⟨m, rfl, am, ?_⟩ | refine Rw_ne hrm (Ne.symm al) ?_ | refine Rw.self (by simp [am]) ?_ | refine Gs.id ?_ | with_reducible refine Brn.T rfl ?_ | with_reducible refine Brn.F rfl ?_ | refine Brn.T (by (try simp only [smT]); first | rfl | omega) ?_ | refine Brn.F (by (try simp only [smT]); first | rfl | assumption | omega) ?_ | (refine Bnd.mk (fun hm => ?_); (try simp only [smT] at hm)) | refine Rng.mk (by (try simp only [smT]); omega) ?_ | refine Drw.of (T := tt) (i := 21) [] [] [(0, true), (1, true), (2, true), (3, true), (4, true), (5, true), (6, true), (7, true), (8, true), (9, true), (10, true), (11, true), (12, true), (13, true), (14, true), (15, true), (16, true), (17, true), (18, true), (19, true), (20, false), (21, true), (22, true), (23, true), (24, true), (25, true), (26, true)] (by kernel_rfl) ?_ | refine Drw.of (T := tt) (i := 39) [] [] [(0, true), (1, true), (2, true), (3, true), (4, true), (5, true), (6, true), (7, true), (8, true), (9, true), (10, true), (11, true), (12, true), (13, true), (14, true), (15, true), (16, true), (17, true), (18, true), (19, true)] (by kernel_rfl) ?_ | (refine CL.mk (Or.inl ?_); (conv => whnf); refine Cl.is (hr0) rfl (by exact fun _ => rfl) ?_))
  all_goals (conv => whnf)
  all_goals
    refine ⟨_, hnext b4, by dsimp only; omega, [(2, .k 2), (4, .k 4), (5, .k 5), (901, .k 901), (902, .k 902)], ?_⟩
    subst hb4
    exact ⟨by (try dsimp only); (repeat (refine LeT.cons rfl (by exact LeS.d (by first | exact LeD.u rfl | exact LeD.p rfl)) ?_)); exact LeT.nil, by (try dsimp only); repeat (first | exact LeO.nil | refine LeO.bx rfl rfl (by repeat (first | exact LeL.nil | refine LeL.cons (by first | exact LeD.u rfl | exact LeD.ow rfl rfl | exact LeD.ow rfl (by simp [hT3, p.hT])) ?_)) ?_ | refine LeO.ar rfl rfl (by first | rfl | simp [hT3, p.hT]) ?_)⟩
end Go.Proofs.Ytgiebofmfkacgaa
namespace Go.Proofs.Ytgiebofmfkacgaa
open Go.RowKit
set_option maxHeartbeats 8000000 in
theorem pk5e (jobs : List Jb) (n f : Nat) (ts : List Tk6) (now nx : Int) (log : List Rc) (t0 : Tk6) (R : Sg) (j k : Nat) (A o : List Ac) (T1 : List Tk6) (t3 t4 t5 t6 : Bool) (t7 t8 t9 t10 : Int) (p : PStep jobs n f ts now nx log ⟨j, k, t3, t4, t5, t6, t7, t8, t9, t10⟩ j k A o T1) (m : Nat) (ha : A[k]? = some ⟨5, m⟩) (al : m ≠ n) (am : m < ts.length) (u1 u2 : Int) (u3 u4 u5 u6 : Bool) (u7 u8 u9 u10 : Int) (hu : ts[m]? = some ⟨u1, u2, u3, u4, u5, u6, u7, u8, u9, u10⟩) (e5 : u5 = true) (hR1 : aliveG ⟨T1, now, nx, log⟩ n m = true → goG jobs n f (cancG ⟨T1, now, nx, log⟩ m) = R) (hR2 : aliveG ⟨T1, now, nx, log⟩ n m = false → goG jobs n f ⟨T1, now, nx, log⟩ = R) (Ke : Nat → Kt) : vcC Try.prog tt Try.f49.ntmps (RetKO tt Try.f49.results.toList (Iso (sgA jobs R) (sgO R))) (bodyOf Try.f49.body) (PNext jobs n f R) Ke (prS jobs n ⟨ts, now, nx, log⟩ t0).tm (prS jobs n ⟨ts, now, nx, log⟩ t0).ob := by
  have hn := p.hn
  have hrw : ∀ {K : List V → Prop}, K (⟨j, k, t3, t4, t5, t6, t7, t8, t9, t10⟩ : Tk6).v → Rw (ts.map Tk6.v) n K := fun k => Rw.get (by rw [List.getElem?_map, p.rd]; rfl) k
  have hix' : ∀ {K : List V → Prop}, K (bif t4 then [avs o, avs A] else [avs A, avs o]) → Ix (jobs.map Jb.v) (j : Int) K := fun q => p.ix q
  have hkA := p.hk
  have hia : ∀ {K : List V → Prop}, K (⟨5, m⟩ : Ac).v → Ix (A.map Ac.v) (k : Int) K := fun q => Ix.map rfl p.hk (by rw [(List.getElem?_eq_some_iff.1 ha).2]; exact q)
  have hb1 := p.hs.nextb
  have hb2 := p.hs.le
  have hb3 := p.hs.log
  have hA := p.hA
  dsimp only at hb1 hb2 hb3
  have hTr : (ts.map Tk6.v).set n (⟨(j : Int), (k : Int) + 1, t3, t4, t5, t6, t7, t8, t9, t10⟩ : Tk6).v = T1.map Tk6.v := by rw [p.hT]; simp
  have hl := p.len
  have hs0 := p.hs.next
  have hnow := p.hs.now
  have hnowb := p.hs.nowb
  dsimp only at hs0 hnow hnowb
  have hT1n : T1[n]? = some ⟨j, (k : Int) + 1, t3, t4, t5, t6, t7, t8, t9, t10⟩ := by rw [p.hT, List.getElem?_set, if_pos rfl, if_pos hn]
  have hnT : n < T1.length := by rw [hl]; exact hn
  have hnext : goG jobs n f ⟨T1, now, nx, log⟩ = R → ∀ b4 : Bool, PInv jobs n R (f, ⟨T1, now, nx, log⟩, ⟨j, k, t3, b4, t5, t6, t7, t8, t9, t10⟩) := fun e b4 => PInv.of p.hs' hnT p.act .refl (by omega) (by omega) (by omega) e
  obtain ⟨b4, hb4⟩ : ∃ b4, t4 = b4 := ⟨_, rfl⟩
  have hrm : (ts.map Tk6.v)[m]? = some (⟨u1, u2, u3, u4, u5, u6, u7, u8, u9, u10⟩ : Tk6).v := by rw [List.getElem?_map, hu]; rfl
  have hTm : T1[m]? = some ⟨u1, u2, u3, u4, u5, u6, u7, u8, u9, u10⟩ := by rw [p.hT, List.getElem?_set_ne (Ne.symm al), hu]
  have hr0 := r0_T m ts.length am
  have hal : aliveG ⟨T1, now, nx, log⟩ n m = !u5 := by
    simp only [aliveG]
    rw [Int.toNat_natCast, hTm, decide_eq_true (by omega)]
    have : ((m : Int) != (n : Int)) = true := by simp; omega
    rw [this]
    simp
  rw [hal] at hR1 hR2
  subst e5
  have hnext := hnext (hR2 rfl)
  clear hR1 hR2
  cases t4
  all_goals
    (conv => whnf)
    repeat' ((conv => whnf); first | refine Ixo.mk ⟨n, rfl, hn, ?_⟩ | refine hrw ?_ | refine hix' ?_ | refine hia ?_ | refine Ixo.mk ⟨m, rfl, am, ?_⟩ | refine Rw_ne hrm (Ne.symm al) ?_ | refine Gs.id ?_ | with_reducible refine Brn.T rfl ?_ | with_reducible refine Brn.F rfl ?_ | refine Brn.T (by (try simp only [smT]); first | rfl | omega) ?_ | refine Brn.F (by (try simp only [smT]); first | rfl | omega) ?_ | (refine Bnd.mk (fun hm => ?_); (try simp only [smT] at hm)) | refine Rng.mk (by (try simp only [smT]); omega) ?_ | refine Drw.of (T := tt) (i := 21) [] [] [(0, true), (1, true), (2, true), (3, true), (4, true), (5, true), (6, true), (7, true), (8, true), (9, true), (10, true), (11, true), (12, true), (13, true), (14, true), (15, true), (16, true), (17, true), (18, true), (19, true), (20, false), (21, true), (22, true), (23, true), (24, true), (25, true), (26, true)] (by kernel_rfl) ?_ | (refine CL.mk (Or.inl ?_); (conv => whnf); refine Cl.is (hr0) rfl (by exact fun _ => rfl) ?_))
  all_goals (conv => whnf)
  all_goals
    refine ⟨_, hnext b4, by dsimp only; omega, [(2, .k 2), (4, .k 4), (5, .k 5), (901, .k 901), (902, .k 902)], ?_⟩
    subst hb4
    exact ⟨by (try dsimp only); (repeat (refine LeT.cons rfl (by exact LeS.d (by first | exact LeD.u rfl | exact LeD.p rfl)) ?_)); exact LeT.nil, by (try dsimp only); repeat (first | exact LeO.nil | refine LeO.bx rfl rfl (by repeat (first | exact LeL.nil | refine LeL.cons (by first | exact LeD.u rfl | exact LeD.ow rfl rfl | exact LeD.ow rfl (by simp [p.hT])) ?_)) ?_ | refine LeO.ar rfl rfl (by first | rfl | simp [p.hT]) ?_)⟩
end Go.Proofs.Ytgiebofmfkacgaa
namespace Go.Proofs.Ytgiebofmfkacgaa
open Go.RowKit
theorem pk5 (jobs : List Jb) (n f : Nat) (ts : List Tk6) (now nx : Int) (log : List Rc) (t0 : Tk6) (R : Sg) (j k : Nat) (A o : List Ac) (T1 : List Tk6) (t3 t4 t5 t6 : Bool) (t7 t8 t9 t10 : Int) (p : PStep jobs n f ts now nx log ⟨j, k, t3, t4, t5, t6, t7, t8, t9, t10⟩ j k A o T1) (m : Nat) (ha : A[k]? = some ⟨5, m⟩) (hR1 : aliveG ⟨T1, now, nx, log⟩ n m = true → goG jobs n f (cancG ⟨T1, now, nx, log⟩ m) = R) (hR2 : aliveG ⟨T1, now, nx, log⟩ n m = false → goG jobs n f ⟨T1, now, nx, log⟩ = R) (Ke : Nat → Kt) : vcC Try.prog tt Try.f49.ntmps (RetKO tt Try.f49.results.toList (Iso (sgA jobs R) (sgO R))) (bodyOf Try.f49.body) (PNext jobs n f R) Ke (prS jobs n ⟨ts, now, nx, log⟩ t0).tm (prS jobs n ⟨ts, now, nx, log⟩ t0).ob := by
  by_cases h : m ≠ n ∧ m < ts.length
  · obtain ⟨al, am⟩ := h
    have hu : ts[m]? = some ts[m] := List.getElem?_eq_getElem am
    generalize ts[m] = u at hu
    obtain ⟨u1, u2, u3, u4, u5, u6, u7, u8, u9, u10⟩ := u
    rcases e5 : u5 with _ | _
    · rcases e6 : u6 with _ | _
      · by_cases hrd : u8 < 0 ∨ now < u7
        · exact pk5c jobs n f ts now nx log t0 R j k A o T1 t3 t4 t5 t6 t7 t8 t9 t10 p m ha al am u1 u2 u3 u4 u5 u6 u7 u8 u9 u10 hu e5 e6 hrd hR1 hR2 Ke
        · exact pk5d jobs n f ts now nx log t0 R j k A o T1 t3 t4 t5 t6 t7 t8 t9 t10 p m ha al am u1 u2 u3 u4 u5 u6 u7 u8 u9 u10 hu e5 e6 hrd hR1 hR2 Ke
      · exact pk5b jobs n f ts now nx log t0 R j k A o T1 t3 t4 t5 t6 t7 t8 t9 t10 p m ha al am u1 u2 u3 u4 u5 u6 u7 u8 u9 u10 hu e5 e6 hR1 hR2 Ke
    · exact pk5e jobs n f ts now nx log t0 R j k A o T1 t3 t4 t5 t6 t7 t8 t9 t10 p m ha al am u1 u2 u3 u4 u5 u6 u7 u8 u9 u10 hu e5 hR1 hR2 Ke
  · exact pk5a jobs n f ts now nx log t0 R j k A o T1 t3 t4 t5 t6 t7 t8 t9 t10 p m ha (by omega) hR1 hR2 Ke
end Go.Proofs.Ytgiebofmfkacgaa
namespace Go.Proofs.Ytgiebofmfkacgaa
open Go.RowKit
theorem proc_loop (jobs : List Jb) (hJ : Jok jobs) (n : Nat) (f : Nat) (g : Sg) (t0 : Tk6) (R : Sg) (hI : PInv jobs n R (f, g, t0)) (tm : List (Nat × SV)) (ob : List (Nat × Ob)) (src : _) (hl : LeSt src ⟨tm, ob⟩ (prS jobs n g t0)) (Kn : Kt) (Ke : Nat → Kt) : vcC Try.prog tt Try.f49.ntmps (RetKO tt Try.f49.results.toList (Iso (sgA jobs R) (sgO R))) ((Try.f49.body.bind firstLoop).getD .skip) Kn Ke tm ob := by
  (conv => whnf)
  refine ⟨⟨Nat × Sg × Tk6, PInv jobs n R, fun q => q.1, fun q => prS jobs n q.2.1 q.2.2, (f, g, t0), hI, ⟨src, hl⟩, fun ⟨f, g, t0⟩ hI => ?_⟩⟩
  obtain ⟨hs, hn, hf, hR⟩ := hI
  dsimp only at hs hn hf hR
  obtain ⟨ts, now, nx, log⟩ := g
  have hget : ts[n]? = some ts[n] := List.getElem?_eq_getElem hn
  obtain ⟨⟨j, hj1, hj2⟩, hat⟩ := hs.job n _ hget
  have hfn := hf _ hget
  obtain ⟨k, hk⟩ : ∃ k : Nat, (ts[n]).at_ = (k : Int) := ⟨(ts[n]).at_.toNat, by omega⟩
  have hix : ∀ {K : List V → Prop}, K (jobs[j]).v → Ix (jobs.map Jb.v) (j : Int) K := fun k => Ix.map rfl hj2 k
  have hJ1 := hJ.acts j hj2
  have hJ2 := hJ.guard j hj2
  have hact : actsG jobs ts[n] = if (ts[n]).guarding then (jobs[j]).guard else (jobs[j]).acts := by simp [actsG, hj1, hj2]
  have hget0 := hget
  generalize ts[n] = t at *
  obtain ⟨t1, t2, t3, t4, t5, t6, t7, t8, t9, t10⟩ := t
  dsimp only at hj1 hk hfn hact
  subst hj1 hk
  obtain ⟨f, rfl⟩ : ∃ f', f = f' + 1 := ⟨f - 1, by omega⟩
  rw [goG] at hR
  dsimp only at hR
  rw [hget] at hR
  dsimp only at hR
  rw [hact] at hR hfn
  generalize jobs[j] = jb at *
  have key : ∃ A o, (∀ {K : List V → Prop}, K (bif t4 then [avs o, avs A] else [avs A, avs o]) → Ix (jobs.map Jb.v) (j : Int) K) ∧ (if t4 then jb.guard else jb.acts) = A ∧ (A.length ≤ 30 ∧ ∀ a ∈ A, okB jobs a) := by
    obtain ⟨ac, gu⟩ := jb
    cases t4
    · exact ⟨ac, gu, fun h => hix h, rfl, hJ1⟩
    · exact ⟨gu, ac, fun h => hix h, rfl, hJ2⟩
  obtain ⟨A, o, hix', hA, hJA⟩ := key
  rw [hA] at hR hfn
  have hAct : actsG jobs ⟨(j : Int), (k : Int) + 1, t3, t4, t5, t6, t7, t8, t9, t10⟩ = A := hact.trans hA
  clear hix hJ1 hJ2 hact hA
  by_cases h9 : k < A.length
  · obtain ⟨⟨o1, o2⟩, o3, o4, o5⟩ := hJA.2 A[k] (List.getElem_mem h9)
    have ha : A[k]? = some A[k] := List.getElem?_eq_getElem h9
    rw [Int.toNat_natCast, ha] at hR
    dsimp only at hR
    have hm : ∀ x : Tk6 → Tk6, modG ⟨ts, now, nx, log⟩ n x = ⟨ts.set n (x ⟨(j : Int), (k : Int), t3, t4, t5, t6, t7, t8, t9, t10⟩), now, nx, log⟩ := fun x => by simp only [modG, modify_set _ _ _ hn, (List.getElem?_eq_some_iff.1 hget).2]
    rw [hm] at hR
    dsimp only at hR
    generalize A[k] = a at *
    obtain ⟨ak, an⟩ := a
    dsimp only at o1 o2 o3 o4 o5 hR
    obtain ⟨m, rfl⟩ : ∃ m : Nat, an = (m : Int) := ⟨an.toNat, by omega⟩
    obtain ⟨T1, hT1⟩ : ∃ T1, T1 = ts.set n ⟨(j : Int), (k : Int) + 1, t3, t4, t5, t6, t7, t8, t9, t10⟩ := ⟨_, rfl⟩
    rw [← hT1] at hR
    have hTl : T1.length = ts.length := by rw [hT1]; simp
    have hs' : Sok jobs ⟨T1, now, nx, log⟩ (f + 1) := by
      refine ⟨(show T1.length ≤ 60 from hTl ▸ hs.le), fun i t hi => ?_, hs.next, hs.nextb, hs.log, hs.now, hs.nowb⟩
      dsimp only at hi
      rw [hT1, List.getElem?_set] at hi
      by_cases hin : n = i
      · subst hin
        rw [if_pos rfl, if_pos hn] at hi
        obtain rfl := Option.some.inj hi
        exact ⟨⟨j, rfl, hj2⟩, Int.add_nonneg (Int.natCast_nonneg _) (by decide)⟩
      · rw [if_neg hin] at hi
        exact hs.job i t hi
    have hnext : actN jobs ⟨T1, now, nx, log⟩ n f := fun t hi => by
      dsimp only at hi
      rw [hT1, List.getElem?_set, if_pos rfl, if_pos hn] at hi
      injection hi with hi
      subst hi
      rw [hAct]
      have e : ((k : Int) + 1).toNat = k + 1 := by omega
      dsimp only
      rw [e]
      omega
    have p : PStep jobs n f ts now nx log ⟨(j : Int), (k : Int), t3, t4, t5, t6, t7, t8, t9, t10⟩ j k A o T1 := ⟨hs, hn, rfl, rfl, hget, hix', h9, hJA.1, hT1, hs', hnext⟩
    by_cases k1 : ak = 1
    · subst k1
      rw [if_pos rfl] at hR
      exact pk1 jobs n f ts now nx log t0 R j k A o T1 t3 t4 t5 t6 t7 t8 t9 t10 p m ha hR Ke
    rw [if_neg k1] at hR
    by_cases k2 : ak = 2
    · subst k2
      rw [if_pos rfl] at hR
      exact pk2 jobs n f ts now nx log t0 R j k A o T1 t3 t4 t5 t6 t7 t8 t9 t10 p m ha (by have := o4 rfl; omega) hR Ke
    rw [if_neg k2] at hR
    by_cases k3 : ak = 3
    · subst k3
      rw [if_pos rfl] at hR
      exact pk3 jobs n f ts now nx log t0 R j k A o T1 t3 t4 t5 t6 t7 t8 t9 t10 p m ha (by have := o5 rfl; omega) (fun h => by rw [if_pos h] at hR; exact hR) (fun h => by rw [if_neg h] at hR; exact hR) Ke
    rw [if_neg k3] at hR
    by_cases k4 : ak = 4
    · subst k4
      rw [if_pos rfl] at hR
      exact pk4 jobs n f ts now nx log t0 R j k A o T1 t3 t4 t5 t6 t7 t8 t9 t10 p m ha (fun h => by rw [if_pos h] at hR; exact hR) (fun h => by rw [if_neg (by rw [h]; decide)] at hR; exact hR) Ke
    rw [if_neg k4] at hR
    obtain rfl : ak = 5 := by omega
    rw [Int.toNat_natCast] at hR
    exact pk5 jobs n f ts now nx log t0 R j k A o T1 t3 t4 t5 t6 t7 t8 t9 t10 p m ha (fun h => by rw [if_pos h] at hR; exact hR) (fun h => by rw [if_neg (by rw [h]; decide)] at hR; exact hR) Ke
  · have hke : k = A.length := by omega
    subst hke
    rw [Int.toNat_natCast, List.getElem?_eq_none (Nat.le_refl _)] at hR
    dsimp only at hR
    exact proc_end jobs n f ts now nx log t0 R j A o t3 t4 t5 t6 t7 t8 t9 t10 hs hn hget hix' hJA.1 hR Ke
end Go.Proofs.Ytgiebofmfkacgaa
namespace Go.Proofs.Ytgiebofmfkacgaa
open Go.RowKit
theorem actsG_len {jobs : List Jb} (hJ : Jok jobs) {t : Tk6} (h : ∃ j : Nat, t.job = (j : Int) ∧ j < jobs.length) : (actsG jobs t).length ≤ 30 := by
  obtain ⟨j, h1, h2⟩ := h
  have e : jobs.getD t.job.toNat ⟨[], []⟩ = jobs[j] := by simp [h1, List.getD, h2]
  rw [actsG, e]
  split
  · exact (hJ.guard j h2).1
  · exact (hJ.acts j h2).1
theorem PInv.start {jobs : List Jb} (hJ : Jok jobs) {ts : List Tk6} {now nx : Int} {log log' : List Rc} {n : Nat} (hs : Sok jobs ⟨ts, now, nx, log⟩ 40) (hn : n < ts.length) (tn : Tk6) (h1 : ∃ j : Nat, tn.job = (j : Int) ∧ j < jobs.length) (h2 : 0 ≤ tn.at_) (h3 : tn.at_.toNat ≤ (actsG jobs tn).length) (h4 : log'.length ≤ log.length + 1) {R : Sg} (hR : goG jobs n 31 ⟨ts.set n tn, now, nx, log'⟩ = R) (t0 : Tk6) : PInv jobs n R (31, ⟨ts.set n tn, now, nx, log'⟩, t0) := by
  refine ⟨⟨?_, ?_, ?_, ?_, ?_, hs.now, hs.nowb⟩, ?_, ?_, hR⟩
  · have := hs.le; simpa using this
  · intro i t q
    dsimp only at q
    rw [List.getElem?_set] at q
    by_cases hi : n = i
    · subst hi
      rw [if_pos rfl, if_pos hn] at q
      injection q with q
      subst q
      exact ⟨h1, h2⟩
    · rw [if_neg hi] at q
      exact hs.job i t q
  · exact hs.next
  · have := hs.nextb; dsimp only at *; omega
  · have := hs.log; dsimp only at *; omega
  · simpa using hn
  · intro t q
    dsimp only at q
    rw [List.getElem?_set, if_pos rfl, if_pos hn] at q
    injection q with q
    subst q
    have := actsG_len hJ h1
    exact ⟨h3, by dsimp only; omega⟩
set_option maxHeartbeats 8000000 in
theorem proceed_R (jobs : List Jb) (hJ : Jok jobs) (ts : List Tk6) (now nx : Int) (log : List Rc) (n : Nat) (hs : Sok jobs ⟨ts, now, nx, log⟩ 40) (hn : n < ts.length) (hal : ∀ t, ts[n]? = some t → t.at_.toNat ≤ (actsG jobs t).length) (R : Sg) (hR : procG jobs ⟨ts, now, nx, log⟩ n = R) : CallsA Try.prog 49 [sgA jobs ⟨ts, now, nx, log⟩, di n] (sgO ⟨ts, now, nx, log⟩) (Iso (sgA jobs R) (sgO R)) := by
  have hget : ts[n]? = some ts[n] := List.getElem?_eq_getElem hn
  obtain ⟨hjob, hat⟩ := hs.job n _ hget
  have hal := hal _ hget
  have hset : ∀ (a : Tk6) (f : Tk6 → Tk6), (ts.set n a).modify n f = ts.set n (f a) := fun a f => by
    rw [modify_set _ _ _ (by simpa using hn)]; simp
  have hmod : ∀ f : Tk6 → Tk6, ts.modify n f = ts.set n (f ts[n]) := fun f => modify_set _ _ _ hn
  rw [procG, hget] at hR
  simp only [modG, recG, hmod, hset] at hR
  have hrw : ∀ {K : List V → Prop}, K (ts[n]).v → Rw (ts.map Tk6.v) n K := fun k => Rw.map hn k
  have hb1 := hs.nextb
  have hb2 := hs.le
  have hb3 := hs.log
  have hb4 := hs.next
  dsimp only at hb1 hb2 hb3 hb4
  clear hmod
  generalize ts[n] = t at *
  obtain ⟨t1, t2, t3, t4, t5, t6, t7, t8, t9, t10⟩ := t
  dsimp only at hjob hat hal hR
  obtain ⟨T0, hT0⟩ : ∃ T0, T0 = ts.set n ⟨t1, t2, t3, t4, t5, t6, t7, -1, t9, t10⟩ := ⟨_, rfl⟩
  have hl0 : T0.length = ts.length := by rw [hT0]; simp
  have hn0 : n < T0.length := by rw [hl0]; exact hn
  have hT0r : (ts.map Tk6.v).set n (⟨t1, t2, t3, t4, t5, t6, t7, -1, t9, t10⟩ : Tk6).v = T0.map Tk6.v := by rw [hT0]; simp
  have hT0n : T0[n]? = some ⟨t1, t2, t3, t4, t5, t6, t7, -1, t9, t10⟩ := by rw [hT0]; simp [hn]
  have hrw0 : ∀ {K : List V → Prop}, K (⟨t1, t2, t3, t4, t5, t6, t7, -1, t9, t10⟩ : Tk6).v → Rw (T0.map Tk6.v) n K := fun k => Rw.get (by rw [List.getElem?_map, hT0n]; rfl) k
  cases t6
  · simp only [Bool.false_eq_true, if_false] at hR
    cases t3
    · simp only [if_true] at hR
      have hI := PInv.start (t0 := ⟨t1, t2, false, t4, t5, false, t7, -1, t9, t10⟩) hJ hs hn ⟨t1, t2, true, t4, t5, false, t7, -1, t9, t10⟩ hjob hat hal (by simp) hR
      refine callsA_of_vcO (T := tt) Try.func49 rfl rfl rfl rfl rfl ?_
      repeat' ((conv => whnf); first | refine Ixo.mk ⟨n, rfl, hn, ?_⟩ | refine Ixo.mk ⟨n, rfl, hn0, ?_⟩ | refine hrw ?_ | refine hrw0 ?_ | refine Rw.self (by simp [hn]) ?_ | refine Gs.id ?_ | with_reducible refine Brn.T rfl ?_ | with_reducible refine Brn.F rfl ?_ | (refine CL.mk (Or.inr (Raw.callI [901,902] [901,902] rfl rfl rfl rfl rfl rfl rfl (record_R' jobs T0 now nx log n 1 t1 _ _ hl0.symm rfl _ _ hT0r rfl (by omega)) ?_)); rintro _ _ ⟨rfl, rfl⟩; refine Bk.mk rfl rfl ?_))
      exact proc_loop jobs hJ n 31 _ _ R hI _ _ [(2, .k 2), (4, .k 4), (5, .k 5), (901, .k 901), (902, .k 902)] ⟨by (try dsimp only); (repeat (refine LeT.cons rfl (by exact LeS.d (by first | exact LeD.u rfl | exact LeD.p rfl)) ?_)); exact LeT.nil, by (try dsimp only); repeat (first | exact LeO.nil | refine LeO.bx rfl rfl (by repeat (first | exact LeL.nil | refine LeL.cons (by first | exact LeD.u rfl | exact LeD.ow rfl rfl | exact LeD.ow rfl (by simp [hT0])) ?_)) ?_ | refine LeO.ar rfl rfl (by first | rfl | simp [hT0]) ?_)⟩ (fun _ _ => True) _
    · simp only [Bool.true_eq_false, if_false] at hR
      have hI := PInv.start (t0 := ⟨t1, t2, true, t4, t5, false, t7, -1, t9, t10⟩) hJ hs hn ⟨t1, t2, true, t4, t5, false, t7, -1, t9, t10⟩ hjob hat hal (by simp) hR
      refine callsA_of_vcO (T := tt) Try.func49 rfl rfl rfl rfl rfl ?_
      repeat' ((conv => whnf); first | refine Ixo.mk ⟨n, rfl, hn, ?_⟩ | refine hrw ?_ | refine Rw.self (by simp [hn]) ?_ | refine Gs.id ?_ | with_reducible refine Brn.F rfl ?_)
      exact proc_loop jobs hJ n 31 _ _ R hI _ _ [(2, .k 2), (4, .k 4), (5, .k 5), (901, .k 901), (902, .k 902)] ⟨by (try dsimp only); (repeat (refine LeT.cons rfl (by exact LeS.d (by first | exact LeD.u rfl | exact LeD.p rfl)) ?_)); exact LeT.nil, by (try dsimp only); repeat (first | exact LeO.nil | refine LeO.bx rfl rfl (by repeat (first | exact LeL.nil | refine LeL.cons (by first | exact LeD.u rfl | exact LeD.ow rfl rfl | exact LeD.ow rfl (by simp [hT0])) ?_)) ?_ | refine LeO.ar rfl rfl (by first | rfl | simp [hT0]) ?_)⟩ (fun _ _ => True) _
  · simp only [if_true] at hR
    by_cases hb : t3 = false ∨ t4 = true
    · rw [if_pos hb] at hR
      obtain ⟨T2, hT2⟩ : ∃ T2, T2 = ts.set n ⟨t1, t2, t3, t4, t5, false, t7, -1, t9, t10⟩ := ⟨_, rfl⟩
      rw [← hT2] at hR
      have hl2 : T2.length = ts.length := by rw [hT2]; simp
      have hT2r : (T0.map Tk6.v).set n (⟨t1, t2, t3, t4, t5, false, t7, -1, t9, t10⟩ : Tk6).v = T2.map Tk6.v := by rw [hT2, hT0]; simp
      have hn2 : n < T2.length := by omega
      have hlg : (log ++ [(⟨now, n, 4, 0⟩ : Rc)]).length ≤ 1000000 := by simp; omega
      have h2 : T2.length ≤ 60 := by omega
      have h3 : nx + T2.length ≤ 1000000000 := by omega
      rcases hb with hb | hb
      all_goals
        subst hb
        refine callsA_of_vcO (T := tt) Try.func49 rfl rfl rfl rfl rfl ?_
        repeat' ((conv => whnf); first | refine Ixo.mk ⟨n, rfl, hn, ?_⟩ | refine Ixo.mk ⟨n, rfl, hn0, ?_⟩ | refine hrw ?_ | refine hrw0 ?_ | refine Rw.self (by simp [hn]) ?_ | refine Gs.id ?_ | with_reducible refine Brn.T rfl ?_ | refine Brn.T (by (try simp only [smT]); first | rfl | assumption) ?_ | refine Brn.F (by (try simp only [smT]); first | rfl | assumption) ?_ | (refine Brn.mk (fun hb => ?_) (fun hb => ?_) <;> (try simp only [smT] at hb) <;> (try (exact absurd trivial hb)) <;> (try (exfalso; omega))) | (refine CL.mk (Or.inr (Raw.callI [901,902] [901,902] rfl rfl rfl rfl rfl rfl rfl (record_R' jobs T0 now nx log n 4 0 _ _ hl0.symm rfl _ _ hT0r rfl (by omega)) ?_)); rintro _ _ ⟨rfl, rfl⟩; refine Bk.mk rfl rfl ?_) | (refine CL.mk (Or.inr (Raw.callI [901,902] [901,902] rfl rfl rfl rfl rfl rfl rfl (ended_R' jobs T2 now nx (log ++ [(⟨now, n, 4, 0⟩ : Rc)]) n _ _ (by simp [hl0, hl2]) rfl _ _ hT2r rfl hn2 h3 hb4 hlg h2 R hR) ?_)); rintro _ _ ⟨rfl, rfl⟩; refine Bk.mk rfl rfl ?_))
        all_goals (conv => whnf)
        all_goals refine RetO.mk ⟨[(901, .k 901), (902, .k 902)], _, _, (by exact LeS.a (by repeat (first | exact LeL.nil | refine LeL.cons (by first | exact LeD.u rfl | exact LeD.ow rfl rfl) ?_))), (by repeat (first | exact LeO.nil | refine LeO.ar rfl rfl (by rfl) ?_)), rfl, rfl⟩
    · rw [if_neg hb] at hR
      obtain rfl : t3 = true := by cases t3 <;> simp_all
      obtain rfl : t4 = false := by cases t4 <;> simp_all
      have hI := PInv.start (t0 := ⟨t1, t2, true, false, t5, true, t7, -1, t9, t10⟩) hJ hs hn ⟨t1, 0, true, true, t5, false, t7, -1, t9, t10⟩ hjob (by simp) (by simp) (by simp) hR
      refine callsA_of_vcO (T := tt) Try.func49 rfl rfl rfl rfl rfl ?_
      repeat' ((conv => whnf); first | refine Ixo.mk ⟨n, rfl, hn, ?_⟩ | refine Ixo.mk ⟨n, rfl, hn0, ?_⟩ | refine hrw ?_ | refine hrw0 ?_ | refine Rw.self (by first | (simp [hn]; done) | (simp [hn0]; done)) ?_ | refine Gs.id ?_ | with_reducible refine Brn.T rfl ?_ | with_reducible refine Brn.F rfl ?_ | (refine CL.mk (Or.inr (Raw.callI [901,902] [901,902] rfl rfl rfl rfl rfl rfl rfl (record_R' jobs T0 now nx log n 4 0 _ _ hl0.symm rfl _ _ hT0r rfl (by omega)) ?_)); rintro _ _ ⟨rfl, rfl⟩; refine Bk.mk rfl rfl ?_))
      exact proc_loop jobs hJ n 31 _ _ R hI _ _ [(2, .k 2), (4, .k 4), (5, .k 5), (901, .k 901), (902, .k 902)] ⟨by (try dsimp only); (repeat (refine LeT.cons rfl (by exact LeS.d (by first | exact LeD.u rfl | exact LeD.p rfl)) ?_)); exact LeT.nil, by (try dsimp only); repeat (first | exact LeO.nil | refine LeO.bx rfl rfl (by repeat (first | exact LeL.nil | refine LeL.cons (by first | exact LeD.u rfl | exact LeD.ow rfl rfl | exact LeD.ow rfl (by simp [hT0])) ?_)) ?_ | refine LeO.ar rfl rfl (by first | rfl | simp [hT0]) ?_)⟩ (fun _ _ => True) _
end Go.Proofs.Ytgiebofmfkacgaa
namespace Go.Proofs.Ytgiebofmfkacgaa
def upI (f : Int → Int) (n v : Int) : Int → Int := fun x => if x = n then v else f x
theorem upI_self {f : Int → Int} {n v : Int} : upI f n v n = v := if_pos rfl
theorem upI_ne {f : Int → Int} {n v x : Int} (h : x ≠ n) : upI f n v x = f x := if_neg h
/-- A clock as stamps. -/
structure CR (c : Ck) (nx : Int) (st du : Int → Int) : Prop where
  mem : ∀ p ∈ due c, 0 ≤ st p.1 ∧ du p.1 = p.2
  all : ∀ x, 0 ≤ st x → x ∈ c.rs ++ c.ts.map (·.task)
  ord : (due c).Pairwise (fun p q => p.2 < q.2 ∨ p.2 = q.2 ∧ st p.1 < st q.1)
  ser : ∀ m ∈ c.ts, ∀ m' ∈ c.ts, m.ser < m'.ser → st m.task < st m'.task
  lt : ∀ x, st x < nx
theorem mem_due {c : Ck} {x : Int} : x ∈ c.rs ++ c.ts.map (·.task) ↔ ∃ p ∈ due c, p.1 = x := by
  have : c.rs ++ c.ts.map (·.task) = (due c).map Prod.fst := by simp [due, Function.comp_def]
  rw [this, List.mem_map]
theorem CR.mono {c : Ck} {nx nx' : Int} {st du : Int → Int} (h : CR c nx st du) (k : nx ≤ nx') : CR c nx' st du := ⟨h.mem, h.all, h.ord, h.ser, fun x => Int.lt_of_lt_of_le (h.lt x) k⟩
/-- A task is queued; its timer is gone. -/
theorem CR.woken {c : Ck} {nx : Int} {st du : Int → Int} (h : CR c nx st du) (hv : Valid c) (h0 : 0 ≤ nx) {x : Int} (hx : x ∉ c.rs) : CR ⟨c.now, c.ser, c.rs ++ [x], c.ts.filter (·.task != x)⟩ (nx + 1) (upI st x nx) (upI du x c.now) := by
  have e1 : ∀ r ∈ c.rs, r ≠ x := fun r hr e => hx (e ▸ hr)
  have e2 : ∀ m ∈ c.ts.filter (·.task != x), m ∈ c.ts ∧ m.task ≠ x := fun m hm => by
    have := List.mem_filter.1 hm
    exact ⟨this.1, by simpa using this.2⟩
  have m1 : ∀ r ∈ c.rs, (r, c.now) ∈ due c := fun r hr => by simp [due, hr]
  have m2 : ∀ m ∈ c.ts, (m.task, m.at_) ∈ due c := fun m hm => by
    simp only [due, List.mem_append, List.mem_map]
    exact .inr ⟨m, hm, rfl⟩
  have ho := h.ord
  simp only [due, List.pairwise_append, List.pairwise_map] at ho
  obtain ⟨o1, o2, o3⟩ := ho
  refine ⟨fun p hp => ?_, fun y hy => ?_, ?_, fun m hm m' hm' hs => ?_, fun y => ?_⟩
  · simp only [due, List.map_append, List.mem_append, List.mem_map, List.map_cons, List.map_nil, List.mem_singleton] at hp
    rcases hp with (⟨r, hr, rfl⟩ | rfl) | ⟨m, hm, rfl⟩
    · rw [upI_ne (e1 r hr), upI_ne (e1 r hr)]
      exact h.mem _ (m1 r hr)
    · rw [upI_self, upI_self]; exact ⟨h0, rfl⟩
    · obtain ⟨q1, q2⟩ := e2 m hm
      rw [upI_ne q2, upI_ne q2]
      exact h.mem _ (m2 m q1)
  · by_cases hyx : y = x
    · subst hyx; simp
    · rw [upI_ne hyx] at hy
      have := h.all y hy
      simp only [List.mem_append, List.mem_map, List.mem_filter] at this ⊢
      rcases this with q | ⟨m, q1, rfl⟩
      · exact .inl (.inl q)
      · exact .inr ⟨m, ⟨q1, by simpa using hyx⟩, rfl⟩
  · simp only [due, List.pairwise_append, List.pairwise_map]
    refine ⟨⟨?_, by simp, fun a ha b hb => ?_⟩, ?_, fun a ha b hb => ?_⟩
    · exact List.Pairwise.imp_of_mem (fun {a b} ha hb q => by rw [upI_ne (e1 a ha), upI_ne (e1 b hb)]; exact q) o1
    · obtain rfl := List.mem_singleton.1 hb
      rw [upI_self, upI_ne (e1 a ha)]
      exact .inr ⟨trivial, h.lt a⟩
    · refine List.Pairwise.imp_of_mem (fun {a b} ha hb q => ?_) (o2.filter _)
      rw [upI_ne (e2 a ha).2, upI_ne (e2 b hb).2]; exact q
    · simp only [List.map_append, List.mem_append, List.mem_map, List.map_cons, List.map_nil, List.mem_singleton] at ha hb
      obtain ⟨m, hm, rfl⟩ := hb
      obtain ⟨q1, q2⟩ := e2 m hm
      have ht := (okT_iff _ _ _).1 (hv.times m q1)
      rcases ha with ⟨r, hr, rfl⟩ | rfl
      · exact .inl (by dsimp only; exact ht.1)
      · exact .inl (by dsimp only; exact ht.1)
  · obtain ⟨q1, q2⟩ := e2 m hm
    obtain ⟨q3, q4⟩ := e2 m' hm'
    rw [upI_ne q2, upI_ne q4]
    exact h.ser m q1 m' q3 hs
  · by_cases hyx : y = x
    · subst hyx; rw [upI_self]; omega
    · rw [upI_ne hyx]; have := h.lt y; omega
theorem CR.enq {c : Ck} {nx : Int} {st du : Int → Int} (h : CR c nx st du) (hv : Valid c) (h0 : 0 ≤ nx) {x : Int} (hx : x ∉ c.rs ++ c.ts.map (·.task)) : CR (enq c x) (nx + 1) (upI st x nx) (upI du x c.now) := by
  have e : c.ts.filter (·.task != x) = c.ts := List.filter_eq_self.2 fun m hm => by
    have : m.task ≠ x := fun e => hx (by simp only [List.mem_append, List.mem_map]; exact .inr ⟨m, hm, e⟩)
    simpa using this
  have := h.woken hv h0 (x := x) fun q => hx (List.mem_append_left _ q)
  rw [e] at this
  exact this
/-- A timer is set. -/
theorem CR.slept {c : Ck} {nx : Int} {st du : Int → Int} (h : CR c nx st du) (hv : Valid c) (h0 : 0 ≤ nx) {x d : Int} (hx : x ∉ c.rs ++ c.ts.map (·.task)) (hd : 0 < d) (hv' : Valid ⟨c.now, c.ser + 1, c.rs, sleptT ⟨c.now + d, c.ser, x⟩ c.ts⟩) : CR ⟨c.now, c.ser + 1, c.rs, sleptT ⟨c.now + d, c.ser, x⟩ c.ts⟩ (nx + 1) (upI st x nx) (upI du x (c.now + d)) := by
  have hp := slept_tasks ⟨c.now + d, c.ser, x⟩ c.ts
  have e1 : ∀ r ∈ c.rs, r ≠ x := fun r hr e => hx (List.mem_append_left _ (e ▸ hr))
  have e2 : ∀ m ∈ c.ts, m.task ≠ x := fun m hm e => hx (by simp only [List.mem_append, List.mem_map]; exact .inr ⟨m, hm, e⟩)
  have e3 : ∀ m, m ∈ sleptT ⟨c.now + d, c.ser, x⟩ c.ts ↔ m = ⟨c.now + d, c.ser, x⟩ ∨ m ∈ c.ts := fun m => by rw [hp.mem_iff, List.mem_cons]
  have m1 : ∀ r ∈ c.rs, (r, c.now) ∈ due c := fun r hr => by simp [due, hr]
  have m2 : ∀ m ∈ c.ts, (m.task, m.at_) ∈ due c := fun m hm => by
    simp only [due, List.mem_append, List.mem_map]
    exact .inr ⟨m, hm, rfl⟩
  have ho := h.ord
  simp only [due, List.pairwise_append, List.pairwise_map] at ho
  obtain ⟨o1, o2, o3⟩ := ho
  have hser : ∀ m ∈ sleptT ⟨c.now + d, c.ser, x⟩ c.ts, ∀ m' ∈ sleptT ⟨c.now + d, c.ser, x⟩ c.ts, m.ser < m'.ser → upI st x nx m.task < upI st x nx m'.task := fun m hm m' hm' hs => by
    rcases (e3 m).1 hm with rfl | q1
    · rcases (e3 m').1 hm' with rfl | q2
      · exact absurd hs (by simp)
      · have ht := (okT_iff _ _ _).1 (hv.times m' q2)
        dsimp only at hs
        omega
    · rcases (e3 m').1 hm' with rfl | q2
      · rw [upI_ne (e2 m q1), upI_self]
        exact h.lt _
      · rw [upI_ne (e2 m q1), upI_ne (e2 m' q2)]
        exact h.ser m q1 m' q2 hs
  refine ⟨fun p hp => ?_, fun y hy => ?_, ?_, hser, fun y => ?_⟩
  · simp only [due, List.mem_append, List.mem_map] at hp
    rcases hp with ⟨r, hr, rfl⟩ | ⟨m, hm, rfl⟩
    · rw [upI_ne (e1 r hr), upI_ne (e1 r hr)]
      exact h.mem _ (m1 r hr)
    · rcases (e3 m).1 hm with rfl | q1
      · rw [upI_self, upI_self]; exact ⟨h0, rfl⟩
      · rw [upI_ne (e2 m q1), upI_ne (e2 m q1)]
        exact h.mem _ (m2 m q1)
  · by_cases hyx : y = x
    · subst hyx
      simp only [List.mem_append, List.mem_map]
      exact .inr ⟨_, (e3 _).2 (.inl rfl), rfl⟩
    · rw [upI_ne hyx] at hy
      have := h.all y hy
      simp only [List.mem_append, List.mem_map] at this ⊢
      rcases this with q | ⟨m, q1, q2⟩
      · exact .inl q
      · exact .inr ⟨m, (e3 _).2 (.inr q1), q2⟩
  · simp only [due, List.pairwise_append, List.pairwise_map]
    refine ⟨List.Pairwise.imp_of_mem (fun {a b} ha hb q => by rw [upI_ne (e1 a ha), upI_ne (e1 b hb)]; exact q) o1, ?_, fun a ha b hb => ?_⟩
    · refine List.Pairwise.imp_of_mem (fun {a b} ha hb q => ?_) hv'.sorted
      rcases (later_iff a b).1 q with q | ⟨q, q2⟩
      · exact .inl q
      · exact .inr ⟨q.symm, hser a ha b hb q2⟩
    · simp only [List.mem_map] at ha hb
      obtain ⟨r, hr, rfl⟩ := ha
      obtain ⟨m, hm, rfl⟩ := hb
      exact .inl ((okT_iff _ _ _).1 (hv'.times m hm)).1
  · by_cases hyx : y = x
    · subst hyx; rw [upI_self]; omega
    · rw [upI_ne hyx]; have := h.lt y; omega
theorem fireF_sub (a : Int) : ∀ (f : Nat) (rs : List Int) (ts : List Tm), ∀ m ∈ (fireF f a rs ts).2, m ∈ ts
  | 0, rs, ts, m, h => h
  | f + 1, rs, [], m, h => by simp [fireF] at h
  | f + 1, rs, t :: ts, m, h => by
    rw [fireF] at h
    split at h
    · exact List.mem_cons_of_mem _ (fireF_sub a f _ ts m h)
    · exact h
theorem next_sub {c c' : Ck} {n : Int} (hv : Valid c) (h : nextM c = (c', (n, (0, 0)))) : ∀ m ∈ c'.ts, m ∈ c.ts := by
  rw [nextM, if_pos ((valid_iff c).2 hv)] at h
  have e : ∀ m ∈ (fire c).ts, m ∈ c.ts := by
    intro m hm
    unfold fire at hm
    split at hm
    · rename_i e1 e2
      rw [e2]
      exact fireF_sub _ _ _ _ m hm
    · exact hm
  intro m hm
  refine e m ?_
  generalize fire c = d at h
  obtain ⟨d1, d2, d3, d4⟩ := d
  cases d3 with
  | nil => simp [popM] at h
  | cons x r => simp [popM] at h; rw [← h.1] at hm; exact hm
/-- The next task is the best one. -/
theorem CR.pop {c c' : Ck} {nx n : Int} {st du : Int → Int} (h : CR c nx st du) (hv : Valid c) (h0 : 0 ≤ nx) (hn : nextM c = (c', (n, (0, 0)))) : CR c' nx (upI st n (-1)) du ∧ 0 ≤ st n ∧ du n = c'.now ∧ ∀ x, 0 ≤ st x → x ≠ n → du n < du x ∨ du n = du x ∧ st n < st x := by
  have hsub := next_sub hv hn
  rcases next_spec hv with ⟨_, h2⟩ | ⟨m, a, rest, c2, h1, h2, h3, h4, h5, h6⟩
  · rw [h2] at hn; simp at hn
  · rw [h2] at hn
    simp only [Prod.mk.injEq, and_true] at hn
    obtain ⟨rfl, rfl⟩ := hn
    have hnd : ((due c).map Prod.fst).Nodup := by
      have : (due c).map Prod.fst = c.rs ++ c.ts.map (·.task) := by simp [due, Function.comp_def]
      rw [this]; exact hv.nodup
    rw [h1, List.map_cons, List.nodup_cons] at hnd
    have ho := h.ord
    rw [h1, List.pairwise_cons] at ho
    have hm := h.mem (m, a) (by rw [h1]; simp)
    have hne : ∀ p ∈ rest, p.1 ≠ m := fun p hp e => hnd.1 (List.mem_map.2 ⟨p, hp, e⟩)
    have hts : ∀ t ∈ c2.ts, t.task ≠ m := fun t ht => hne (t.task, t.at_) (by
      rw [← h4]
      simp only [due, List.mem_append, List.mem_map]
      exact .inr ⟨t, ht, rfl⟩)
    refine ⟨⟨fun p hp => ?_, fun x hx => ?_, ?_, fun t ht t' ht' hs => ?_, fun x => ?_⟩, hm.1, hm.2.trans h3.symm, fun x hx hxm => ?_⟩
    · rw [h4] at hp
      rw [upI_ne (hne p hp)]
      exact h.mem p (by rw [h1]; simp [hp])
    · by_cases hxm : x = m
      · subst hxm; rw [upI_self] at hx; omega
      · rw [upI_ne hxm] at hx
        rw [mem_due]
        obtain ⟨p, p1, p2⟩ := mem_due.1 (h.all x hx)
        rw [h1] at p1
        rcases List.mem_cons.1 p1 with rfl | p1
        · exact absurd p2.symm hxm
        · exact ⟨p, by rw [h4]; exact p1, p2⟩
    · rw [h4]
      refine List.Pairwise.imp_of_mem (fun {p q} hp hq k => ?_) ho.2
      rw [upI_ne (hne p hp), upI_ne (hne q hq)]; exact k
    · rw [upI_ne (hts t ht), upI_ne (hts t' ht')]
      exact h.ser t (hsub t ht) t' (hsub t' ht') hs
    · by_cases hxm : x = m
      · subst hxm; rw [upI_self]; omega
      · rw [upI_ne hxm]; exact h.lt x
    · obtain ⟨p, p1, p2⟩ := mem_due.1 (h.all x hx)
      have hp := h.mem p p1
      rw [h1] at p1
      rcases List.mem_cons.1 p1 with rfl | p1
      · exact absurd p2.symm hxm
      · have := ho.1 p p1
        subst p2
        rw [hp.2, hm.2]
        exact this
theorem CR.empty {c : Ck} {nx : Int} {st du : Int → Int} (h : CR c nx st du) (hv : Valid c) (hn : (nextM c).2.2.1 ≠ 0) : ∀ x, st x < 0 := by
  rcases next_spec hv with ⟨h1, _⟩ | ⟨m, a, rest, c2, h1, h2, h3, h4, h5, h6⟩
  · intro x
    refine Int.lt_of_not_ge fun hx => ?_
    obtain ⟨p, p1, _⟩ := mem_due.1 (h.all x hx)
    rw [h1] at p1
    exact absurd p1 (List.not_mem_nil)
  · rw [h2] at hn; simp at hn
/-- Waiters. -/
structure WR (ws : Int → List Int) (nx : Int) (wf sf : Int → Int) : Prop where
  mem : ∀ m x, x ∈ ws m ↔ (0 ≤ m ∧ wf x = m)
  ord : ∀ m, (ws m).Pairwise (fun x y => sf x < sf y)
  lt : ∀ x, sf x < nx
def upL (f : Int → List Int) (n : Int) (v : List Int) : Int → List Int := fun x => if x = n then v else f x
theorem upL_self {f : Int → List Int} {n : Int} {v : List Int} : upL f n v n = v := if_pos rfl
theorem upL_ne {f : Int → List Int} {n x : Int} {v : List Int} (h : x ≠ n) : upL f n v x = f x := if_neg h
theorem WR.mono {ws : Int → List Int} {nx nx' : Int} {wf sf : Int → Int} (h : WR ws nx wf sf) (k : nx ≤ nx') : WR ws nx' wf sf := ⟨h.mem, h.ord, fun x => Int.lt_of_lt_of_le (h.lt x) k⟩
theorem WR.wait {ws : Int → List Int} {nx : Int} {wf sf : Int → Int} (h : WR ws nx wf sf) {m x : Int} (hm : 0 ≤ m) (hx : wf x < 0) : WR (upL ws m (ws m ++ [x])) (nx + 1) (upI wf x m) (upI sf x nx) := by
  have hne : ∀ k, ∀ y ∈ ws k, y ≠ x := fun k y hy e => by
    subst e
    have := (h.mem k y).1 hy
    omega
  refine ⟨fun k y => ?_, fun k => ?_, fun y => ?_⟩
  · have h1 := h.mem k y
    by_cases hk : k = m
    · subst hk
      rw [upL_self, List.mem_append, List.mem_singleton]
      by_cases hy : y = x
      · subst hy; rw [upI_self]; simp [hm]
      · rw [upI_ne hy]; simp [h1, hy]
    · rw [upL_ne hk]
      by_cases hy : y = x
      · subst hy
        rw [upI_self, h1]
        constructor
        · rintro ⟨a, b⟩; omega
        · rintro ⟨a, b⟩; exact absurd b.symm hk
      · rw [upI_ne hy]; exact h1
  · by_cases hk : k = m
    · subst hk
      rw [upL_self]
      refine List.pairwise_append.2 ⟨List.Pairwise.imp_of_mem (fun {a b} ha hb q => ?_) (h.ord k), by simp, fun a ha b hb => ?_⟩
      · rw [upI_ne (hne k a ha), upI_ne (hne k b hb)]; exact q
      · obtain rfl := List.mem_singleton.1 hb
        rw [upI_self, upI_ne (hne k a ha)]
        exact h.lt a
    · rw [upL_ne hk]
      exact List.Pairwise.imp_of_mem (fun {a b} ha hb q => by rw [upI_ne (hne k a ha), upI_ne (hne k b hb)]; exact q) (h.ord k)
  · by_cases hy : y = x
    · subst hy; rw [upI_self]; omega
    · rw [upI_ne hy]; have := h.lt y; omega
theorem WR.cancel {ws : Int → List Int} {nx : Int} {wf sf : Int → Int} (h : WR ws nx wf sf) (x : Int) : WR (fun m => (ws m).filter fun w => w != x) nx (upI wf x (-1)) sf := by
  refine ⟨fun k y => ?_, fun k => (h.ord k).filter _, h.lt⟩
  have h1 := h.mem k y
  rw [List.mem_filter, h1]
  by_cases hy : y = x
  · subst hy
    rw [upI_self]
    simp
    omega
  · rw [upI_ne hy]; simp [hy]
theorem WR.shift {ws : Int → List Int} {nx : Int} {wf sf : Int → Int} (h : WR ws nx wf sf) {n w : Int} {r : List Int} (e : ws n = w :: r) : WR (upL ws n r) nx (upI wf w (-1)) sf := by
  have hn := (h.mem n w).1 (by rw [e]; simp)
  have ho := h.ord n
  rw [e, List.pairwise_cons] at ho
  have hr : w ∉ r := fun q => by have := ho.1 w q; omega
  refine ⟨fun k y => ?_, fun k => ?_, h.lt⟩
  · have h1 := h.mem k y
    by_cases hk : k = n
    · subst hk
      rw [e, List.mem_cons] at h1
      rw [upL_self]
      by_cases hy : y = w
      · subst hy
        rw [upI_self]
        exact ⟨fun q => absurd q hr, fun q => by omega⟩
      · rw [upI_ne hy, ← h1]
        simp [hy]
    · rw [upL_ne hk]
      by_cases hy : y = w
      · subst hy
        rw [upI_self, h1]
        constructor
        · rintro ⟨a, b⟩; omega
        · rintro ⟨a, b⟩; omega
      · rw [upI_ne hy]; exact h1
  · by_cases hk : k = n
    · subst hk; rw [upL_self]; exact ho.2
    · rw [upL_ne hk]; exact h.ord k
/-- The best is found. -/
theorem best_is {p : Tk6 → Bool} {lt : Tk6 → Tk6 → Bool} {ts : List Tk6} {j : Nat} {u : Tk6} (hu : ts[j]? = some u) (hp : p u = true) (hl : ∀ i t, ts[i]? = some t → p t = true → i ≠ j → lt u t = true ∧ lt t u = false) : ∀ i, j < i → best p lt ts i = some j
  | 0, h => by omega
  | i + 1, h => by
    rw [best]
    by_cases hij : i = j
    · subst hij
      rw [hu]
      dsimp only
      rw [if_pos hp]
      cases hb : best p lt ts i with
      | none => rfl
      | some k =>
        obtain ⟨hk, t, ht, hpt⟩ := best_lt hb
        dsimp only
        rw [ht]
        dsimp only
        rw [if_pos (hl k t ht hpt (by omega)).1]
    · have ih := best_is hu hp hl i (by omega)
      cases ht : ts[i]? with
      | none => exact ih
      | some t =>
        dsimp only
        by_cases hpt : p t = true
        · rw [if_pos hpt, ih]
          dsimp only
          rw [hu]
          dsimp only
          rw [(hl i t ht hpt hij).2]
          rfl
        · rw [if_neg hpt]; exact ih
theorem best_none {p : Tk6 → Bool} {lt : Tk6 → Tk6 → Bool} {ts : List Tk6} (h : ∀ t ∈ ts, p t = false) (i : Nat) : best p lt ts i = none := by
  cases hb : best p lt ts i with
  | none => rfl
  | some j =>
    obtain ⟨_, t, ht, hp⟩ := best_lt hb
    rw [h t (List.mem_of_getElem? ht)] at hp
    exact absurd hp (by simp)
end Go.Proofs.Ytgiebofmfkacgaa
namespace Go.Proofs.Ytgiebofmfkacgaa
def sF (p : Tk6 → Int) (d : Int) (ts : List Tk6) (x : Int) : Int := if x < 0 then d else ((ts[x.toNat]?).map p).getD d
theorem sF_nat {p : Tk6 → Int} {d : Int} {ts : List Tk6} {i : Nat} {u : Tk6} (h : ts[i]? = some u) : sF p d ts (i : Int) = p u := by
  rw [sF, if_neg (by omega), Int.toNat_natCast, h]; rfl
theorem sF_in {p : Tk6 → Int} {d : Int} {ts : List Tk6} {x : Int} (h : sF p d ts x ≠ d) : ∃ (i : Nat) (u : Tk6), x = (i : Int) ∧ ts[i]? = some u := by
  rw [sF] at h
  split at h
  · exact absurd rfl h
  · cases hu : ts[x.toNat]? with
    | none => rw [hu] at h; exact absurd rfl h
    | some u => exact ⟨x.toNat, u, by omega, hu⟩
theorem get_mod {α : Type} (l : List α) (n i : Nat) (f : α → α) : (l.modify n f)[i]? = if n = i then (l[i]?).map f else l[i]? := by
  rw [List.getElem?_modify]
  cases l[i]? with
  | none => split <;> rfl
  | some u =>
    by_cases h : n = i
    · simp [h]
    · simp [h]
theorem sF_mod {p : Tk6 → Int} {d : Int} {ts : List Tk6} {n : Nat} {u : Tk6} (hu : ts[n]? = some u) (f : Tk6 → Tk6) : sF p d (ts.modify n f) = upI (sF p d ts) (n : Int) (p (f u)) := by
  funext x
  by_cases hx : x = (n : Int)
  · subst hx
    rw [upI_self]
    exact sF_nat (by rw [List.getElem?_modify, hu]; simp)
  · rw [upI_ne hx, sF, sF]
    split
    · rfl
    · rw [get_mod, if_neg (by omega)]
theorem sF_same {p : Tk6 → Int} {d : Int} {ts : List Tk6} {n : Nat} {f : Tk6 → Tk6} (h : ∀ t, p (f t) = p t) : sF p d (ts.modify n f) = sF p d ts := by
  funext x
  rw [sF, sF]
  split
  · rfl
  · rw [get_mod]
    cases ts[x.toNat]? with
    | none => split <;> rfl
    | some u =>
      split
      · exact h u
      · rfl
theorem sF_app {p : Tk6 → Int} {d : Int} {ts : List Tk6} {t : Tk6} : sF p d (ts ++ [t]) = upI (sF p d ts) (ts.length : Int) (p t) := by
  funext x
  by_cases hx : x = (ts.length : Int)
  · subst hx
    rw [upI_self]
    exact sF_nat (by simp)
  · rw [upI_ne hx, sF, sF]
    split
    · rfl
    · by_cases h : x.toNat < ts.length
      · rw [List.getElem?_append_left h]
      · rw [List.getElem?_eq_none (by simp; omega), List.getElem?_eq_none (by omega)]
theorem upI_upI {f : Int → Int} {n v w : Int} : upI (upI f n v) n w = upI f n w := by
  funext x
  simp only [upI]
  split <;> rfl
def wsF (ts : List Tsk) (x : Int) : List Int := if x < 0 then [] else ((ts[x.toNat]?).map (·.waiters)).getD []
theorem wsF_nat {ts : List Tsk} {i : Nat} {u : Tsk} (h : ts[i]? = some u) : wsF ts (i : Int) = u.waiters := by
  rw [wsF, if_neg (by omega), Int.toNat_natCast, h]; rfl
theorem wsF_set {ts : List Tsk} {n : Nat} (hn : n < ts.length) (t : Tsk) : wsF (ts.set n t) = upL (wsF ts) (n : Int) t.waiters := by
  funext x
  by_cases hx : x = (n : Int)
  · subst hx
    rw [upL_self]
    exact wsF_nat (by simp [hn])
  · rw [upL_ne hx, wsF, wsF]
    split
    · rfl
    · rw [List.getElem?_set_ne (by omega)]
theorem wsF_same {ts : List Tsk} {n : Nat} {t t' : Tsk} (h : ts[n]? = some t) (e : t'.waiters = t.waiters) : wsF (ts.set n t') = wsF ts := by
  rw [wsF_set (lt_of_get h), e]
  funext x
  by_cases hx : x = (n : Int)
  · subst hx; rw [upL_self, wsF_nat h]
  · rw [upL_ne hx]
theorem wsF_app {ts : List Tsk} {t : Tsk} (e : t.waiters = []) : wsF (ts ++ [t]) = wsF ts := by
  funext x
  rw [wsF, wsF]
  split
  · rfl
  · by_cases h : x.toNat < ts.length
    · rw [List.getElem?_append_left h]
    · rw [List.getElem?_eq_none (l := ts) (by omega)]
      by_cases h2 : x.toNat = ts.length
      · rw [h2, List.getElem?_append_right (Nat.le_refl _)]; simp [e]
      · rw [List.getElem?_eq_none (by simp; omega)]
theorem wsF_cancel (ts : List Tsk) (m : Nat) : wsF (cancelTs ts m) = fun k => (wsF ts k).filter fun w => w != (m : Int) := by
  funext x
  simp only [wsF]
  split
  · rfl
  · rw [cancelTs_get]
    cases ts[x.toNat]? with
    | none => rfl
    | some u => rfl
structure TkR (jobs : List Jb) (t : Tsk) (u : Tk6) : Prop where
  job : u.job = t.job
  begun : u.begun = t.begun
  guarding : u.guarding = t.guarding
  ended : u.ended = t.ended
  cancelled : u.cancelled = t.cancelled
  at0 : 0 ≤ u.at_
  left : t.left = (actsG jobs u).drop u.at_.toNat
  atl : u.at_.toNat ≤ (actsG jobs u).length
  waits : -1 ≤ u.waits
abbrev stG (g : Sg) : Int → Int := sF (·.stamp) (-1) g.tasks
abbrev duG (g : Sg) : Int → Int := sF (·.due) 0 g.tasks
abbrev wfG (g : Sg) : Int → Int := sF (·.waits) (-1) g.tasks
abbrev sfG (g : Sg) : Int → Int := sF (·.since) (-1) g.tasks
theorem ready_st {g : Sg} {n : Nat} {u : Tk6} (h : g.tasks[n]? = some u) : stG (readyG g n) = upI (stG g) (n : Int) g.next := sF_mod h _
theorem ready_du {g : Sg} {n : Nat} {u : Tk6} (h : g.tasks[n]? = some u) : duG (readyG g n) = upI (duG g) (n : Int) g.now := sF_mod h _
theorem ready_wf {g : Sg} {n : Nat} : wfG (readyG g n) = wfG g := sF_same fun _ => rfl
theorem ready_sf {g : Sg} {n : Nat} : sfG (readyG g n) = sfG g := sF_same fun _ => rfl
structure Rel (jobs : List Jb) (s : Sm) (g : Sg) (b : Nat) : Prop where
  len : g.tasks.length = s.tasks.length
  tk : ∀ (i : Nat) t u, s.tasks[i]? = some t → g.tasks[i]? = some u → TkR jobs t u
  now : g.now = s.now
  log : g.log = s.log
  nx0 : 0 < g.next
  nx : g.next + b ≤ 439400
  cr : CR s.ck g.next (stG g) (duG g)
  wr : WR (wsF s.tasks) g.next (wfG g) (sfG g)
section
variable {jobs : List Jb} {s : Sm} {g : Sg} {b : Nat} {n : Nat}
theorem Rel.weak (r : Rel jobs s g b) {b' : Nat} (h : b' ≤ b) : Rel jobs s g b' := ⟨r.len, r.tk, r.now, r.log, r.nx0, by have := r.nx; omega, r.cr, r.wr⟩
theorem Rel.get (r : Rel jobs s g b) {t : Tsk} (h : s.tasks[n]? = some t) : ∃ u, g.tasks[n]? = some u ∧ TkR jobs t u := by
  have := lt_of_get h
  have hu : g.tasks[n]? = some (g.tasks[n]'(by rw [r.len]; exact this)) := List.getElem?_eq_getElem _
  exact ⟨_, hu, r.tk n t _ h hu⟩
theorem Rel.note (r : Rel jobs s g b) (m k x : Int) : Rel jobs ⟨s.now, s.ser, s.rs, s.ts, s.tasks, s.log ++ [⟨s.now, m, k, x⟩]⟩ (recG g m k x) b := ⟨r.len, r.tk, r.now, by simp only [recG, r.log, r.now], r.nx0, r.nx, r.cr, r.wr⟩
/-- A task changes, not where it is. -/
theorem Rel.upd (r : Rel jobs s g b) {t t' : Tsk} (ht : s.tasks[n]? = some t) (f : Tk6 → Tk6) (h1 : ∀ u, (f u).stamp = u.stamp) (h2 : ∀ u, (f u).due = u.due) (h3 : ∀ u, (f u).waits = u.waits) (h4 : ∀ u, (f u).since = u.since) (h5 : t'.waiters = t.waiters) (h6 : ∀ u, TkR jobs t u → TkR jobs t' (f u)) : Rel jobs ⟨s.now, s.ser, s.rs, s.ts, s.tasks.set n t', s.log⟩ (modG g n f) b := by
  have hn := lt_of_get ht
  refine ⟨by simp [modG, r.len], fun i v u hv hu => ?_, r.now, r.log, r.nx0, r.nx, ?_, ?_⟩
  · simp only [modG, List.getElem?_modify] at hu
    simp only [List.getElem?_set] at hv
    cases hg : g.tasks[i]? with
    | none => rw [hg] at hu; simp at hu
    | some w =>
      rw [hg] at hu
      by_cases hi : n = i
      · subst hi
        simp only [if_true, Option.map_eq_map, Option.map_some, Option.some.injEq] at hu
        rw [if_pos rfl, if_pos hn] at hv
        injection hv with hv
        subst hv hu
        exact h6 w (r.tk n t w ht hg)
      · simp only [if_neg hi, Option.map_eq_map, Option.map_some, Option.some.injEq, id] at hu
        rw [if_neg hi] at hv
        subst hu
        exact r.tk i v w hv hg
  · have e1 : stG (modG g n f) = stG g := sF_same h1
    have e2 : duG (modG g n f) = duG g := sF_same h2
    rw [e1, e2]; exact r.cr
  · have e1 : wfG (modG g n f) = wfG g := sF_same h3
    have e2 : sfG (modG g n f) = sfG g := sF_same h4
    dsimp only
    rw [e1, e2, wsF_same ht h5]; exact r.wr
theorem TkR.same {t : Tsk} {u u' : Tk6} (h : TkR jobs t u) (h1 : u'.job = u.job) (h2 : u'.begun = u.begun) (h3 : u'.guarding = u.guarding) (h4 : u'.ended = u.ended) (h5 : u'.cancelled = u.cancelled) (h6 : u'.at_ = u.at_) (h7 : -1 ≤ u'.waits) : TkR jobs t u' := by
  have e : actsG jobs u' = actsG jobs u := by simp only [actsG, h1, h3]
  exact ⟨h1.trans h.job, h2.trans h.begun, h3.trans h.guarding, h4.trans h.ended, h5.trans h.cancelled, by rw [h6]; exact h.at0, by rw [e, h6]; exact h.left, by rw [e, h6]; exact h.atl, h7⟩
theorem tk_mod (r : ∀ (i : Nat) t u, s.tasks[i]? = some t → g.tasks[i]? = some u → TkR jobs t u) {f : Tk6 → Tk6} (h : ∀ t u, s.tasks[n]? = some t → g.tasks[n]? = some u → TkR jobs t (f u)) : ∀ (i : Nat) t u, s.tasks[i]? = some t → (g.tasks.modify n f)[i]? = some u → TkR jobs t u := fun i v u hv hu => by
  rw [List.getElem?_modify] at hu
  cases hg : g.tasks[i]? with
  | none => rw [hg] at hu; simp at hu
  | some w =>
    rw [hg] at hu
    by_cases hi : n = i
    · subst hi
      simp only [if_true, Option.map_eq_map, Option.map_some, Option.some.injEq] at hu
      subst hu
      exact h v w hv hg
    · simp only [if_neg hi, Option.map_eq_map, Option.map_some, Option.some.injEq, id] at hu
      subst hu
      exact r i v w hv hg
/-- One who waits is woken. -/
theorem Rel.wake1 (r : Rel jobs s g (b + 1)) {t : Tsk} (ht : s.tasks[n]? = some t) {w : Int} {ws : List Int} (hw : t.waiters = w :: ws) (hv : Valid s.ck) (hx : w ∉ s.rs ++ s.ts.map (·.task)) (f : Nat) : ∃ g', wakeG n (f + 1) g = wakeG n f g' ∧ Rel jobs ⟨s.now, s.ser, s.rs ++ [w], s.ts, s.tasks.set n { t with waiters := ws }, s.log⟩ g' b ∧ g'.tasks.length = g.tasks.length := by
  have hn := lt_of_get ht
  have hwf : wsF s.tasks (n : Int) = w :: ws := (wsF_nat ht).trans hw
  have hwn := ((r.wr.mem n w).1 (by rw [hwf]; simp)).2
  obtain ⟨j, u, rfl, hu⟩ := sF_in (p := (·.waits)) (d := -1) (ts := g.tasks) (x := w) (by have : sF (·.waits) (-1) g.tasks w = n := hwn; rw [this]; omega)
  have hun : u.waits = n := (sF_nat (p := (·.waits)) hu).symm.trans hwn
  have ho := r.wr.ord n
  rw [hwf, List.pairwise_cons] at ho
  have hb : best (waitsP n) sinceL g.tasks g.tasks.length = some j := best_is hu (by simp [hun]) (fun i v hi hp hij => by
    have hvw : v.waits = n := by simpa using hp
    have hm := (r.wr.mem n i).2 ⟨by omega, (sF_nat (p := (·.waits)) hi).trans hvw⟩
    rw [hwf] at hm
    rcases List.mem_cons.1 hm with e | hm
    · exact absurd (by omega) hij
    · have := ho.1 _ hm
      have k1 : sfG g j = u.since := sF_nat hu
      have k2 : sfG g i = v.since := sF_nat hi
      rw [k1, k2] at this
      simp only [sinceL, decide_eq_true_eq, decide_eq_false_iff_not]
      omega) _ (lt_of_get hu)
  refine ⟨readyG (unwaitG g j) j, ?_, ?_, by simp [readyG, unwaitG]⟩
  · rw [wakeG]; rw [hb]
  · have h0 := r.nx0
    have hc := r.cr.enq hv (by omega) hx
    have hs := (r.wr.shift hwf).mono (nx' := g.next + 1) (by omega)
    have e0 : (unwaitG g j).tasks[j]? = some { u with waits := -1 } := by simp [unwaitG, List.getElem?_modify, hu]
    refine ⟨by simp [readyG, unwaitG, r.len], ?_, r.now, r.log, by simp only [readyG, unwaitG]; omega, by simp only [readyG, unwaitG]; have := r.nx; omega, ?_, ?_⟩
    · intro i v x hv hx
      dsimp only at hv
      rw [readyG] at hx
      dsimp only at hx
      have hv' : ∃ v', s.tasks[i]? = some v' ∧ v.job = v'.job ∧ v.begun = v'.begun ∧ v.guarding = v'.guarding ∧ v.ended = v'.ended ∧ v.cancelled = v'.cancelled ∧ v.left = v'.left := by
        rw [List.getElem?_set] at hv
        by_cases hi : n = i
        · subst hi
          rw [if_pos rfl, if_pos hn] at hv
          injection hv with hv
          subst hv
          exact ⟨t, ht, rfl, rfl, rfl, rfl, rfl, rfl⟩
        · rw [if_neg hi] at hv
          exact ⟨v, hv, rfl, rfl, rfl, rfl, rfl, rfl⟩
      obtain ⟨v', q1, q2, q3, q4, q5, q6, q7⟩ := hv'
      have : TkR jobs v' x := by
        have h1 := tk_mod (n := j) (f := fun t => { t with waits := -1 }) r.tk fun t u a b => (r.tk j t u a b).same rfl rfl rfl rfl rfl rfl (by dsimp only; omega)
        have h2 := tk_mod (g := unwaitG g j) (n := j) (f := fun t => { t with due := g.now, stamp := g.next }) h1 fun t u a b => (h1 j t u a b).same rfl rfl rfl rfl rfl rfl (h1 j t u a b).waits
        exact h2 i v' x q1 hx
      exact ⟨this.job.trans q2.symm, this.begun.trans q3.symm, this.guarding.trans q4.symm, this.ended.trans q5.symm, this.cancelled.trans q6.symm, this.at0, q7.trans this.left, this.atl, this.waits⟩
    · have e1 : stG (unwaitG g j) = stG g := sF_same fun _ => rfl
      have e2 : duG (unwaitG g j) = duG g := sF_same fun _ => rfl
      have e3 : (unwaitG g j).now = s.now := r.now
      rw [ready_st e0, ready_du e0, e1, e2, e3]
      exact hc
    · have e1 : wfG (unwaitG g j) = upI (wfG g) (j : Int) (-1) := sF_mod hu _
      have e2 : sfG (unwaitG g j) = sfG g := sF_same fun _ => rfl
      rw [ready_wf, ready_sf, e1, e2]
      dsimp only
      rw [wsF_set hn]
      exact hs
theorem Rel.wakes : ∀ (ws : List Int) {s : Sm} {g : Sg} {b : Nat} (_ : Rel jobs s g (b + ws.length)) {t : Tsk} (_ : s.tasks[n]? = some t) (_ : t.waiters = ws) (_ : Valid s.ck) (_ : (s.rs ++ s.ts.map (·.task) ++ ws).Nodup) (_ : ∀ x ∈ ws, 0 ≤ x ∧ x ≤ 59) (_ : s.rs.length + s.ts.length + ws.length ≤ 60) (f : Nat) (_ : ws.length ≤ f), Rel jobs ⟨s.now, s.ser, s.rs ++ ws, s.ts, s.tasks.set n { t with waiters := [] }, s.log⟩ (wakeG n f g) b
  | [], s, g, b, r, t, ht, hw, hv, hn, hx, hl, f, hf => by
    have e : wakeG n f g = g := by
      cases f with
      | zero => rfl
      | succ f =>
        rw [wakeG, best_none fun u hu => ?_]
        obtain ⟨i, hi, rfl⟩ := List.getElem_of_mem hu
        refine Bool.eq_false_iff.2 fun q => ?_
        have hq : (g.tasks[i]).waits = n := by simpa using q
        have := (r.wr.mem n i).2 ⟨by omega, (sF_nat (p := (·.waits)) (List.getElem?_eq_getElem hi)).trans hq⟩
        rw [wsF_nat ht, hw] at this
        exact absurd this (List.not_mem_nil)
    have e2 : s.tasks.set n { t with waiters := [] } = s.tasks := by
      have : ({ t with waiters := [] } : Tsk) = t := by rw [← hw]
      rw [this]
      apply List.ext_getElem?
      intro i
      rw [List.getElem?_set]
      split
      · rename_i h; subst h; rw [if_pos (lt_of_get ht), ht]
      · rfl
    rw [e, e2, List.append_nil]
    exact r
  | w :: ws, s, g, b, r, t, ht, hw, hv, hn, hx, hl, f, hf => by
    obtain ⟨f, rfl⟩ : ∃ f', f = f' + 1 := ⟨f - 1, by simp only [List.length_cons] at hf; omega⟩
    have hp : (s.rs ++ s.ts.map (·.task) ++ w :: ws).Perm (w :: (s.rs ++ s.ts.map (·.task) ++ ws)) := List.perm_middle
    have hn' := List.nodup_cons.1 (hp.nodup_iff.1 hn)
    have hnw : w ∉ s.rs ++ s.ts.map (·.task) := fun q => hn'.1 (List.mem_append_left _ q)
    simp only [List.length_cons] at hl hf
    have hw2 := hx w (by simp)
    have hv' := enq_valid hv ⟨hw2.1, by omega⟩ hnw (by dsimp only [Sm.ck]; omega)
    obtain ⟨g', e, r', _⟩ := Rel.wake1 (b := b + ws.length) (r.weak (by simp only [List.length_cons]; omega)) ht hw hv hnw f
    rw [e]
    have := Rel.wakes ws (s := ⟨s.now, s.ser, s.rs ++ [w], s.ts, s.tasks.set n { t with waiters := ws }, s.log⟩) (t := { t with waiters := ws }) r' (by simp [lt_of_get ht]) rfl hv' (by
      refine (List.Perm.nodup_iff ?_).1 hn
      dsimp only
      simp only [List.append_assoc, List.singleton_append]
      refine List.Perm.append_left _ ?_
      exact List.perm_middle) (fun x q => hx x (by simp [q])) (by simp; omega) f (by omega)
    dsimp only at this
    simpa using this
end
end Go.Proofs.Ytgiebofmfkacgaa
namespace Go.Proofs.Ytgiebofmfkacgaa
section
variable {jobs : List Jb} {s : Sm} {g : Sg} {b n M σ : Nat}
theorem Good.nowait (gd : Good jobs s [(n : Int)] M σ) (r : Rel jobs s g b) : wfG g n < 0 := by
  refine Int.lt_of_not_ge fun h => ?_
  have hm := (r.wr.mem (wfG g n) n).2 ⟨h, rfl⟩
  have hx := gd.noclk.2.1
  have h0 : 0 ≤ wfG g n := h
  rw [wsF, if_neg (by omega)] at hm
  cases ht : s.tasks[(wfG g n).toNat]? with
  | none => rw [ht] at hm; exact absurd hm (List.not_mem_nil)
  | some t =>
    rw [ht] at hm
    exact hx (mem_wts.2 ⟨t, List.mem_of_getElem? ht, hm⟩)
/-- A task's own entry changes, its clock too. -/
theorem Rel.clk (r : Rel jobs s g (b + 1)) {c : Ck} {t : Tsk} (ht : s.tasks[n]? = some t) (d : Int) (hc : CR c (g.next + 1) (upI (stG g) n g.next) (upI (duG g) n d)) (hn : c.now = s.now) : Rel jobs (s.put c) ⟨g.tasks.modify n fun t => { t with due := d, stamp := g.next }, g.now, g.next + 1, g.log⟩ b := by
  obtain ⟨u, hu, _⟩ := r.get ht
  refine ⟨by simpa [Sm.put] using r.len, tk_mod r.tk fun t u a b => (r.tk n t u a b).same rfl rfl rfl rfl rfl rfl (r.tk n t u a b).waits, r.now.trans hn.symm, r.log, by have := r.nx0; dsimp only; omega, by have := r.nx; dsimp only; omega, ?_, ?_⟩
  · have e1 : stG ⟨g.tasks.modify n fun t => { t with due := d, stamp := g.next }, g.now, g.next + 1, g.log⟩ = upI (stG g) n g.next := sF_mod hu _
    have e2 : duG ⟨g.tasks.modify n fun t => { t with due := d, stamp := g.next }, g.now, g.next + 1, g.log⟩ = upI (duG g) n d := sF_mod hu _
    rw [e1, e2]
    exact hc
  · have e1 : wfG ⟨g.tasks.modify n fun t => { t with due := d, stamp := g.next }, g.now, g.next + 1, g.log⟩ = wfG g := sF_same fun _ => rfl
    have e2 : sfG ⟨g.tasks.modify n fun t => { t with due := d, stamp := g.next }, g.now, g.next + 1, g.log⟩ = sfG g := sF_same fun _ => rfl
    rw [e1, e2]
    exact r.wr.mono (show g.next ≤ g.next + 1 by omega)
theorem Rel.sleep (r : Rel jobs s g (b + 1)) (gd : Good jobs s [(n : Int)] M σ) (hp : Go.Proofs.Ytgiebofmfkacgaa.pot s + 2 ≤ M) {t : Tsk} (ht : s.tasks[n]? = some t) {d : Int} (hd : 0 ≤ d ∧ d ≤ 1000000000) : Rel jobs (s.put (sleptM s.ck n d)) (modG (readyG g n) n fun t => { t with due := g.now + d }) b := by
  have e : modG (readyG g n) n (fun t => { t with due := g.now + d }) = ⟨g.tasks.modify n fun t => { t with due := g.now + d, stamp := g.next }, g.now, g.next + 1, g.log⟩ := by
    simp only [modG, readyG, List.modify_modify_eq]; rfl
  have hv' := (gd.sleep hp hd).v
  have hx := gd.noclk.1
  have h0 := r.nx0
  rw [e]
  by_cases h : d = 0
  · subst h
    have hs : sleptM s.ck n 0 = enq s.ck n := by simp [sleptM]
    rw [hs]
    refine r.clk ht _ ?_ rfl
    have := r.cr.enq gd.v (by omega) hx
    rw [r.now, Int.add_zero]
    exact this
  · have hs : sleptM s.ck n d = ⟨s.now, s.ser + 1, s.rs, sleptT ⟨s.now + d, s.ser, n⟩ s.ts⟩ := by simp [sleptM, h, Sm.ck]
    rw [hs] at hv' ⊢
    refine r.clk ht _ ?_ rfl
    have := r.cr.slept gd.v (by omega) hx (d := d) (by omega) hv'
    rw [r.now]
    exact this
theorem Rel.spawn (r : Rel jobs s g (b + 1)) (gd : Good jobs s [(n : Int)] M σ) {j : Nat} (h6 : s.tasks.length < 60) : Rel jobs (spawnM jobs s j) (readyG ⟨g.tasks ++ [⟨(j : Int), 0, false, false, false, false, 0, 0, -1, 0⟩], g.now, g.next, g.log⟩ g.tasks.length) b := by
  have hx : (s.tasks.length : Int) ∉ s.rs ++ s.ts.map (·.task) := fun q => by
    obtain ⟨i, h1, h2⟩ := alive_lt (gd.pl.al (s.tasks.length : Int) (by
      simp only [Go.Proofs.Ytgiebofmfkacgaa.pl, List.mem_append] at q ⊢
      exact .inr (.inl q)))
    omega
  have h0 := r.nx0
  have hc := r.cr.enq gd.v (by omega) hx
  have hl := r.len
  rw [spawnM, if_neg (by omega), gd.spawnEq h6]
  have ea : (g.tasks ++ [⟨(j : Int), 0, false, false, false, false, 0, 0, -1, 0⟩])[s.tasks.length]? = some (⟨(j : Int), 0, false, false, false, false, 0, 0, -1, 0⟩ : Tk6) := by rw [← hl]; simp
  refine ⟨by simp [readyG, enq, hl], ?_, r.now, r.log, by simp only [readyG]; omega, by simp only [readyG]; have := r.nx; omega, ?_, ?_⟩
  · intro i v u hv hu
    simp only [readyG, get_mod] at hu
    simp only at hv
    by_cases hi : i < s.tasks.length
    · rw [List.getElem?_append_left hi] at hv
      rw [List.getElem?_append_left (by omega), if_neg (by omega)] at hu
      exact r.tk i v u hv hu
    · have hi2 : i = s.tasks.length := by
        have := lt_of_get hv
        simp only [List.length_append, List.length_singleton] at this
        omega
      subst hi2
      rw [List.getElem?_append_right (Nat.le_refl _)] at hv
      rw [if_pos hl, ea] at hu
      simp only [Nat.sub_self, List.getElem?_cons_zero, Option.some.injEq] at hv
      simp only [Option.map_some, Option.some.injEq] at hu
      subst hv hu
      exact ⟨rfl, rfl, rfl, rfl, rfl, by simp, by simp [actsG], by simp, by simp⟩
  · have ea' : (⟨g.tasks ++ [⟨(j : Int), 0, false, false, false, false, 0, 0, -1, 0⟩], g.now, g.next, g.log⟩ : Sg).tasks[g.tasks.length]? = some (⟨(j : Int), 0, false, false, false, false, 0, 0, -1, 0⟩ : Tk6) := by simp
    have e1 : stG ⟨g.tasks ++ [⟨(j : Int), 0, false, false, false, false, 0, 0, -1, 0⟩], g.now, g.next, g.log⟩ = upI (stG g) (g.tasks.length : Int) 0 := sF_app
    have e2 : duG ⟨g.tasks ++ [⟨(j : Int), 0, false, false, false, false, 0, 0, -1, 0⟩], g.now, g.next, g.log⟩ = upI (duG g) (g.tasks.length : Int) 0 := sF_app
    rw [ready_st ea', ready_du ea', e1, e2, upI_upI, upI_upI, hl, r.now]
    exact hc
  · rw [ready_wf, ready_sf]
    have e3 : wfG ⟨g.tasks ++ [⟨(j : Int), 0, false, false, false, false, 0, 0, -1, 0⟩], g.now, g.next, g.log⟩ = upI (sF (·.waits) (-1) g.tasks) (g.tasks.length : Int) (-1) := sF_app
    have e4 : sfG ⟨g.tasks ++ [⟨(j : Int), 0, false, false, false, false, 0, 0, -1, 0⟩], g.now, g.next, g.log⟩ = upI (sfG g) (g.tasks.length : Int) 0 := sF_app
    dsimp only
    rw [e3, e4, wsF_app rfl]
    have hw := r.wr.mono (nx' := g.next + 1) (by omega)
    have e1 : upI (sF (·.waits) (-1) g.tasks) (g.tasks.length : Int) (-1) = wfG g := by
      funext x
      by_cases hx : x = (g.tasks.length : Int)
      · subst hx
        rw [upI_self, wfG, sF, if_neg (by omega)]
        simp
      · rw [upI_ne hx]
    rw [e1]
    refine ⟨hw.mem, fun k => ?_, fun x => ?_⟩
    · refine List.Pairwise.imp_of_mem (fun {x y} hx hy q => ?_) (hw.ord k)
      have hne : ∀ z ∈ wsF s.tasks k, z ≠ (g.tasks.length : Int) := fun z hz e => by
        have := (hw.mem k z).1 hz
        obtain ⟨i, u, rfl, hi⟩ := sF_in (p := (·.waits)) (d := -1) (ts := g.tasks) (x := z) (by have := this.2; dsimp only [wfG] at this; omega)
        have := lt_of_get hi
        omega
      rw [upI_ne (hne x hx), upI_ne (hne y hy)]
      exact q
    · by_cases hx : x = (g.tasks.length : Int)
      · subst hx; rw [upI_self]; simp only [readyG]; omega
      · rw [upI_ne hx]; exact hw.lt x
theorem tk_set (r : ∀ (i : Nat) t u, s.tasks[i]? = some t → g.tasks[i]? = some u → TkR jobs t u) {m : Nat} {t t' : Tsk} (ht : s.tasks[m]? = some t) (h1 : t'.job = t.job) (h2 : t'.begun = t.begun) (h3 : t'.guarding = t.guarding) (h4 : t'.ended = t.ended) (h5 : t'.cancelled = t.cancelled) (h6 : t'.left = t.left) : ∀ (i : Nat) v u, (s.tasks.set m t')[i]? = some v → g.tasks[i]? = some u → TkR jobs v u := fun i v u hv hu => by
  rw [List.getElem?_set] at hv
  by_cases hi : m = i
  · subst hi
    rw [if_pos rfl, if_pos (lt_of_get ht)] at hv
    injection hv with hv
    subst hv
    have k := r m t u ht hu
    exact ⟨k.job.trans h1.symm, k.begun.trans h2.symm, k.guarding.trans h3.symm, k.ended.trans h4.symm, k.cancelled.trans h5.symm, k.at0, h6.trans k.left, k.atl, k.waits⟩
  · rw [if_neg hi] at hv
    exact r i v u hv hu
theorem Rel.wait (r : Rel jobs s g (b + 1)) (gd : Good jobs s [(n : Int)] M σ) {m : Nat} {t : Tsk} (ht : s.tasks[m]? = some t) : Rel jobs ⟨s.now, s.ser, s.rs, s.ts, s.tasks.set m { t with waiters := t.waiters ++ [(n : Int)] }, s.log⟩ ⟨g.tasks.modify n fun t => { t with waits := m, since := g.next }, g.now, g.next + 1, g.log⟩ b := by
  have hn : n < g.tasks.length := by rw [r.len]; exact gd.run_lt (by simp)
  have hu : g.tasks[n]? = some g.tasks[n] := List.getElem?_eq_getElem hn
  have h0 := r.nx0
  have hw := r.wr.wait (m := m) (x := n) (by omega) (gd.nowait r)
  refine ⟨by simpa using r.len, ?_, r.now, r.log, by dsimp only; omega, by have := r.nx; dsimp only; omega, ?_, ?_⟩
  · exact tk_set (g := ⟨g.tasks.modify n fun t => { t with waits := m, since := g.next }, g.now, g.next + 1, g.log⟩) (tk_mod r.tk fun t u a b => (r.tk n t u a b).same rfl rfl rfl rfl rfl rfl (by dsimp only; omega)) ht rfl rfl rfl rfl rfl rfl
  · have e1 : stG ⟨g.tasks.modify n fun t => { t with waits := m, since := g.next }, g.now, g.next + 1, g.log⟩ = stG g := sF_same fun _ => rfl
    have e2 : duG ⟨g.tasks.modify n fun t => { t with waits := m, since := g.next }, g.now, g.next + 1, g.log⟩ = duG g := sF_same fun _ => rfl
    rw [e1, e2]
    exact r.cr.mono (show g.next ≤ g.next + 1 by omega)
  · have e1 : wfG ⟨g.tasks.modify n fun t => { t with waits := m, since := g.next }, g.now, g.next + 1, g.log⟩ = upI (wfG g) n m := sF_mod hu _
    have e2 : sfG ⟨g.tasks.modify n fun t => { t with waits := m, since := g.next }, g.now, g.next + 1, g.log⟩ = upI (sfG g) n g.next := sF_mod hu _
    rw [e1, e2]
    dsimp only
    rw [wsF_set (lt_of_get ht)]
    rw [wsF_nat ht] at hw
    exact hw
theorem Rel.cancel (r : Rel jobs s g (b + 1)) (gd : Good jobs s [(n : Int)] M σ) {m : Nat} {t : Tsk} (ht : s.tasks[m]? = some t) (hc : t.cancelled = false) : Rel jobs ⟨(wokenM s.ck m).now, (wokenM s.ck m).ser, (wokenM s.ck m).rs, (wokenM s.ck m).ts, cancelTs s.tasks m, s.log⟩ (cancG g m) b := by
  obtain ⟨u, hu, htu⟩ := r.get ht
  have h0 := r.nx0
  have hxr : (m : Int) ∈ s.rs → 0 ≤ u.stamp ∧ u.due = s.now := fun q => by
    have := r.cr.mem ((m : Int), s.now) (by simp [due, Sm.ck, q])
    have k1 : stG g m = u.stamp := sF_nat hu
    have k2 : duG g m = u.due := sF_nat hu
    dsimp only at this
    rw [k1, k2] at this
    exact this
  have hxn : (m : Int) ∉ s.rs → u.stamp < 0 ∨ s.now < u.due := fun q => by
    by_cases hs : u.stamp < 0
    · exact .inl hs
    · right
      have k1 : stG g m = u.stamp := sF_nat hu
      have k2 : duG g m = u.due := sF_nat hu
      have := r.cr.all (m : Int) (by rw [k1]; omega)
      simp only [List.mem_append, List.mem_map, Sm.ck] at this
      rcases this with q2 | ⟨x, x1, x2⟩
      · exact absurd q2 q
      · have h1 := r.cr.mem (x.task, x.at_) (by
          simp only [due, List.mem_append, List.mem_map, Sm.ck]
          exact .inr ⟨x, x1, rfl⟩)
        dsimp only at h1
        rw [x2, k1, k2] at h1
        have h2 := (okT_iff _ _ _).1 (gd.v.times x x1)
        have h3 := h1.2
        have h4 := h2.1
        dsimp only [Sm.ck] at h3 h4
        omega
  have etk : ∀ (i : Nat) v w, (cancelTs s.tasks m)[i]? = some v → (g.tasks.modify m fun t => { t with cancelled := true, waits := -1 })[i]? = some w → TkR jobs v w := fun i v w hv hw => by
    rw [cancelTs_get] at hv
    rw [List.getElem?_modify] at hw
    cases hs : s.tasks[i]? with
    | none => rw [hs] at hv; simp at hv
    | some v' =>
      cases hg : g.tasks[i]? with
      | none => rw [hg] at hw; simp at hw
      | some w' =>
        rw [hs] at hv
        rw [hg] at hw
        have k := r.tk i v' w' hs hg
        simp only [Option.map_some, Option.some.injEq] at hv
        subst hv
        by_cases hi : m = i
        · subst hi
          simp only [if_true, Option.map_eq_map, Option.map_some, Option.some.injEq] at hw
          subst hw
          exact ⟨k.job, k.begun, k.guarding, k.ended, by simp, k.at0, k.left, k.atl, by simp⟩
        · simp only [if_neg hi, Option.map_eq_map, Option.map_some, Option.some.injEq, id] at hw
          subst hw
          exact ⟨k.job, k.begun, k.guarding, k.ended, by simpa [hi] using k.cancelled, k.at0, k.left, k.atl, k.waits⟩
  have hwr := r.wr.cancel (m : Int)
  have e1 : wfG (modG g m fun t => { t with cancelled := true, waits := -1 }) = upI (wfG g) m (-1) := sF_mod hu _
  have e2 : sfG (modG g m fun t => { t with cancelled := true, waits := -1 }) = sfG g := sF_same fun _ => rfl
  have e3 : stG (modG g m fun t => { t with cancelled := true, waits := -1 }) = stG g := sF_same fun _ => rfl
  have e4 : duG (modG g m fun t => { t with cancelled := true, waits := -1 }) = duG g := sF_same fun _ => rfl
  have hcu : u.cancelled = false := htu.cancelled.trans hc
  rw [cancG, hu]
  dsimp only
  rw [hcu]
  simp only [Bool.false_eq_true, if_false]
  by_cases hm : (m : Int) ∈ s.rs
  · have hh := hxr hm
    rw [if_neg (by rw [r.now]; omega)]
    have ew : wokenM s.ck m = s.ck := by rw [wokenM, if_pos ((has_iff _ _).2 hm)]
    rw [ew]
    refine ⟨by simp [modG, cancelTs_len, r.len], etk, r.now, r.log, h0, by have := r.nx; simp only [modG]; omega, ?_, ?_⟩
    · rw [e3, e4]; exact r.cr
    · rw [e1, e2]
      dsimp only
      rw [wsF_cancel]
      exact hwr
  · have hh := hxn hm
    rw [if_pos (by rw [r.now]; exact hh)]
    have ew : wokenM s.ck m = ⟨s.now, s.ser, s.rs ++ [(m : Int)], s.ts.filter (·.task != (m : Int))⟩ := by
      rw [wokenM, if_neg (fun q => hm ((has_iff _ _).1 q))]; rfl
    rw [ew]
    have hcr := r.cr.woken gd.v (by omega) hm
    have eu : (modG g m fun t => { t with cancelled := true, waits := -1 }).tasks[m]? = some { u with cancelled := true, waits := -1 } := by simp [modG, List.getElem?_modify, hu]
    refine ⟨by simp [readyG, modG, cancelTs_len, r.len], ?_, r.now, r.log, by simp only [readyG, modG]; omega, by have := r.nx; simp only [readyG, modG]; omega, ?_, ?_⟩
    · exact tk_mod (s := ⟨s.now, s.ser, s.rs, s.ts, cancelTs s.tasks m, s.log⟩) (g := modG g m fun t => { t with cancelled := true, waits := -1 }) etk fun t u a b => (etk m t u a b).same rfl rfl rfl rfl rfl rfl (etk m t u a b).waits
    · rw [ready_st eu, ready_du eu, e3, e4]
      rw [show (modG g m fun t => { t with cancelled := true, waits := -1 }).now = s.now from r.now]
      exact hcr
    · rw [ready_wf, ready_sf, e1, e2]
      dsimp only
      rw [wsF_cancel]
      exact hwr.mono (show g.next ≤ _ from by simp only [readyG, modG]; omega)
end
end Go.Proofs.Ytgiebofmfkacgaa
namespace Go.Proofs.Ytgiebofmfkacgaa
section
variable {jobs : List Jb} {s : Sm} {g : Sg} {b n M σ : Nat}
theorem Rel.end_ (r : Rel jobs s g (b + 60)) (gd : Good jobs s [(n : Int)] M (σ + 1)) : Rel jobs (endM s n) (endG g n) b := by
  have hn := gd.run_lt (n := n) (by simp)
  obtain ⟨t, ht⟩ : ∃ t, s.tasks[n]? = some t := ⟨_, List.getElem?_eq_getElem hn⟩
  have hlen := gd.len
  obtain ⟨rest, w1, _⟩ := wts_set ht
  have hpl1 : (Go.Proofs.Ytgiebofmfkacgaa.pl s).Perm (s.rs ++ s.ts.map (·.task) ++ t.waiters ++ rest) := by
    simp only [Go.Proofs.Ytgiebofmfkacgaa.pl]
    refine (w1.append_left _).trans ?_
    simp
  have hnd := gd.pl.perm (hpl1.append_left [(n : Int)])
  have hl := hnd.len
  simp only [List.length_append, List.length_map, List.length_singleton] at hl
  have hnd2 : (s.rs ++ s.ts.map (·.task) ++ t.waiters).Nodup := by
    have := hnd.nd
    rw [List.singleton_append, List.nodup_cons, List.nodup_append] at this
    exact this.2.1
  have hwk := (gd.end_ ht).1
  have r1 := (r.upd (t' := { t with ended := true }) ht (fun u => { u with ended := true }) (fun _ => rfl) (fun _ => rfl) (fun _ => rfl) (fun _ => rfl) rfl fun u h => ⟨h.job, h.begun, h.guarding, rfl, h.cancelled, h.at0, h.left, h.atl, h.waits⟩).note n 3 0
  have r2 := Rel.wakes (n := n) t.waiters (b := b) (r1.weak (by omega)) (t := { t with ended := true }) (by simp [hn]) rfl gd.v hnd2 (fun x hx => alive_rng (hnd.al x (by simp [hx])) hlen) (by dsimp only; omega) g.tasks.length (by rw [r.len]; omega)
  rw [endM, ht]
  simp only [hwk]
  rw [endG]
  have e : recG (modG g n fun u => { u with ended := true }) n 3 0 = recG ⟨g.tasks.modify n fun t => { t with ended := true }, g.now, g.next, g.log⟩ n 3 0 := rfl
  rw [e] at r2
  simpa using r2
/-- An action: what the reference does. -/
def stepG (jobs : List Jb) (h : Sg) (n : Nat) (a : Ac) : Sg × Bool :=
  if a.kind = 1 then (recG h n 2 a.n, false)
  else if a.kind = 2 then (modG (readyG h n) n fun t => { t with due := h.now + a.n }, true)
  else if a.kind = 3 then (if h.tasks.length < 60 then (readyG ⟨h.tasks ++ [⟨a.n, 0, false, false, false, false, 0, 0, -1, 0⟩], h.now, h.next, h.log⟩ h.tasks.length, false) else (h, false))
  else if a.kind = 4 then (if aliveG h n a.n then (⟨h.tasks.modify n fun t => { t with waits := a.n, since := h.next }, h.now, h.next + 1, h.log⟩, true) else (h, false))
  else (if aliveG h n a.n then (cancG h a.n.toNat, false) else (h, false))
theorem goG_step (jobs : List Jb) (n f : Nat) (g : Sg) (t : Tk6) (a : Ac) (ht : g.tasks[n]? = some t) (ha : (actsG jobs t)[t.at_.toNat]? = some a) : goG jobs n (f + 1) g = if (stepG jobs (modG g n fun t => { t with at_ := t.at_ + 1 }) n a).2 then (stepG jobs (modG g n fun t => { t with at_ := t.at_ + 1 }) n a).1 else goG jobs n f (stepG jobs (modG g n fun t => { t with at_ := t.at_ + 1 }) n a).1 := by
  rw [goG, ht]
  dsimp only
  rw [ha]
  dsimp only
  unfold stepG
  split
  · rfl
  split
  · rfl
  split
  · split <;> rfl
  split
  · split <;> rfl
  · split <;> rfl
theorem alive_rel (r : Rel jobs s g b) {m : Nat} : aliveG g n m = true ↔ ∃ t, s.tasks[m]? = some t ∧ m ≠ n ∧ t.ended = false := by
  simp only [aliveG, Bool.and_eq_true, decide_eq_true_eq, bne_iff_ne, Int.toNat_natCast]
  constructor
  · rintro ⟨⟨h1, h2⟩, h3⟩
    have hm : m < s.tasks.length := by rw [← r.len]; omega
    obtain ⟨u, hu, ht⟩ := r.get (List.getElem?_eq_getElem hm)
    refine ⟨_, List.getElem?_eq_getElem hm, by omega, ?_⟩
    rw [hu] at h3
    rw [← ht.ended]
    simpa using h3
  · rintro ⟨t, h1, h2, h3⟩
    obtain ⟨u, hu, ht⟩ := r.get h1
    refine ⟨⟨by omega, by have := lt_of_get hu; omega⟩, ?_⟩
    rw [hu]
    simp [ht.ended, h3]
theorem Rel.step (r : Rel jobs s g (b + 1)) (gd : Good jobs s [(n : Int)] M σ) (hp : Go.Proofs.Ytgiebofmfkacgaa.pot s + 2 ≤ M) {a : Ac} (ha : okB jobs a) : (stepG jobs g n a).2 = (actM jobs s n a.kind a.n.toNat).2 ∧ Rel jobs (actM jobs s n a.kind a.n.toNat).1 (stepG jobs g n a).1 b := by
  have hn := gd.run_lt (n := n) (by simp)
  obtain ⟨t, ht⟩ : ∃ t, s.tasks[n]? = some t := ⟨_, List.getElem?_eq_getElem hn⟩
  obtain ⟨ak, an⟩ := a
  obtain ⟨⟨a1, a2⟩, a3, a4, a5⟩ := ha
  dsimp only at a1 a2 a3 a4 a5 ⊢
  obtain ⟨m, rfl⟩ : ∃ m : Nat, an = (m : Int) := ⟨an.toNat, by omega⟩
  rw [Int.toNat_natCast] at a5
  simp only [Int.toNat_natCast, stepG, actM]
  by_cases k1 : ak = 1
  · rw [if_pos k1, if_pos k1]
    exact ⟨rfl, (r.weak (by omega)).note n 2 m⟩
  rw [if_neg k1, if_neg k1]
  by_cases k2 : ak = 2
  · rw [if_pos k2, if_pos k2]
    have hd : 0 ≤ (m : Int) ∧ (m : Int) ≤ 1000000000 := ⟨by omega, a4 k2⟩
    refine ⟨rfl, ?_⟩
    rw [gd.sleepEq hd]
    exact r.sleep gd hp ht hd
  rw [if_neg k2, if_neg k2]
  by_cases k3 : ak = 3
  · rw [if_pos k3, if_pos k3]
    by_cases h6 : s.tasks.length < 60
    · rw [if_pos (by rw [r.len]; exact h6)]
      exact ⟨rfl, r.spawn gd h6⟩
    · rw [if_neg (by rw [r.len]; exact h6)]
      have := gd.len
      rw [spawnM, if_pos (by omega)]
      exact ⟨rfl, r.weak (by omega)⟩
  rw [if_neg k3, if_neg k3]
  have hal := alive_rel (n := n) r (m := m)
  cases hm : s.tasks[m]? with
  | none =>
    have e : aliveG g n m = false := Bool.eq_false_iff.2 fun q => by
      obtain ⟨u, hu, _⟩ := hal.1 q
      rw [hm] at hu
      exact absurd hu (by simp)
    rw [e]
    dsimp only
    split
    · exact ⟨rfl, r.weak (by omega)⟩
    · exact ⟨rfl, r.weak (by omega)⟩
  | some u =>
    rw [hm] at hal
    have hal : aliveG g n m = true ↔ m ≠ n ∧ u.ended = false := by
      rw [hal]
      constructor
      · rintro ⟨v, h1, h2⟩
        injection h1 with h1
        subst h1
        exact h2
      · exact fun h => ⟨u, rfl, h⟩
    dsimp only
    by_cases k4 : ak = 4
    · rw [if_pos k4, if_pos k4]
      by_cases h : m ≠ n ∧ u.ended = false
      · rw [if_pos (hal.2 h), if_pos h]
        exact ⟨rfl, r.wait gd hm⟩
      · rw [if_neg (fun q => h (hal.1 q)), if_neg h]
        exact ⟨rfl, r.weak (by omega)⟩
    · rw [if_neg k4, if_neg k4]
      by_cases h : m ≠ n ∧ u.ended = false
      · rw [if_pos (hal.2 h)]
        by_cases hc : u.cancelled = false
        · rw [if_pos ⟨h.1, h.2, hc⟩]
          obtain ⟨e, _⟩ := gd.cancel hp hm h.1 h.2
          simp only [e]
          exact ⟨trivial, r.cancel gd hm hc⟩
        · rw [if_neg (fun q => hc q.2.2)]
          obtain ⟨v, hv, htv⟩ := r.get hm
          have : cancG g m = g := by
            rw [cancG, hv]
            dsimp only
            rw [htv.cancelled, if_pos (by simpa using hc)]
          rw [this]
          exact ⟨rfl, r.weak (by omega)⟩
      · rw [if_neg (fun q => h (hal.1 q)), if_neg (fun q => h ⟨q.1, q.2.1⟩)]
        exact ⟨rfl, r.weak (by omega)⟩
/-- The actions. -/
theorem Rel.go (hJ : Jok jobs) : ∀ {l : List Ac} {s : Sm} {g : Sg} {M b f : Nat} {t : Tsk}, Good jobs s [(n : Int)] M (σ + 1) → Rel jobs s g (b + M + 60) → s.tasks[n]? = some t → t.left = l → l.length < f → ∃ M', M' ≤ M ∧ Good jobs (goM jobs n l s) [] M' σ ∧ Rel jobs (goM jobs n l s) (goG jobs n f g) (b + M')
  | [], s, g, M, b, f, t, gd, r, ht, hl, hf => by
    refine ⟨M, Nat.le_refl _, (gd.end_ ht).2, ?_⟩
    obtain ⟨u, hu, htu⟩ := r.get ht
    obtain ⟨f, rfl⟩ : ∃ f', f = f' + 1 := ⟨f - 1, by omega⟩
    have h1 := htu.left
    rw [hl] at h1
    have h2 : (actsG jobs u)[u.at_.toNat]? = none := List.getElem?_eq_none (List.drop_eq_nil_iff.1 h1.symm)
    rw [goM, goG, hu]
    dsimp only
    rw [h2]
    exact r.end_ gd
  | a :: l, s, g, M, b, f, t, gd, r, ht, hl, hf => by
    obtain ⟨f, rfl⟩ : ∃ f', f = f' + 1 := ⟨f - 1, by simp only [List.length_cons] at hf; omega⟩
    obtain ⟨u, hu, htu⟩ := r.get ht
    obtain ⟨g1, hp⟩ := gd.take ht hl
    have ha := (gd.tk t (List.mem_of_getElem? ht)).2.2 a (by rw [hl]; simp)
    have g2 := g1.act hJ hp ha
    have hn := lt_of_get ht
    have hlt : u.at_.toNat < (actsG jobs u).length := by
      refine Nat.lt_of_not_ge fun q => ?_
      have h1 := htu.left
      rw [hl, List.drop_eq_nil_iff.2 q] at h1
      exact absurd h1 (by simp)
    have hd := htu.left
    rw [hl, List.drop_eq_getElem_cons hlt] at hd
    injection hd with hd1 hd2
    have hM : 1 ≤ M := by omega
    have r1 : Rel jobs ⟨s.now, s.ser, s.rs, s.ts, s.tasks.set n { t with left := l }, s.log⟩ (modG g n fun t => { t with at_ := t.at_ + 1 }) ((b + (M - 1) + 60) + 1) := (r.weak (by omega)).upd (t' := { t with left := l }) ht (fun u => { u with at_ := u.at_ + 1 }) (fun _ => rfl) (fun _ => rfl) (fun _ => rfl) (fun _ => rfl) rfl fun v hv => by
      have h0 := hv.at0
      have hlv : v.at_.toNat < (actsG jobs v).length := by
        refine Nat.lt_of_not_ge fun q => ?_
        have h1 := hv.left
        rw [hl, List.drop_eq_nil_iff.2 q] at h1
        exact absurd h1 (by simp)
      have hdv := hv.left
      rw [hl, List.drop_eq_getElem_cons hlv] at hdv
      injection hdv with _ hdv
      have e1 : actsG jobs { v with at_ := v.at_ + 1 } = actsG jobs v := rfl
      have e2 : (v.at_ + 1).toNat = v.at_.toNat + 1 := by omega
      exact ⟨hv.job, hv.begun, hv.guarding, hv.ended, hv.cancelled, by dsimp only; omega, by rw [e1]; dsimp only; rw [e2]; exact hdv, by rw [e1]; dsimp only; omega, hv.waits⟩
    obtain ⟨e2, r2⟩ := r1.step g1 hp ha
    have hbeg := actM_begun jobs ⟨s.now, s.ser, s.rs, s.ts, s.tasks.set n { t with left := l }, s.log⟩ n a.n.toNat a.kind { t with left := l } (by simp [hn])
    rw [goM, ht, goG_step jobs n f g u a hu (by rw [List.getElem?_eq_getElem hlt, hd1]), e2]
    simp only [Sm.set]
    obtain ⟨s', c, hr⟩ : ∃ s' c, actM jobs ⟨s.now, s.ser, s.rs, s.ts, s.tasks.set n { t with left := l }, s.log⟩ n a.kind a.n.toNat = (s', c) := ⟨_, _, rfl⟩
    simp only [hr] at g2 hbeg r2 ⊢
    cases c
    · obtain ⟨v, u1, u2, _⟩ := hbeg rfl
      simp only [Bool.false_eq_true, if_false] at g2 ⊢
      obtain ⟨M', m1, m2, m3⟩ := Rel.go hJ (l := l) (b := b) (f := f) g2 (r2.weak (by omega)) u1 u2 (by simp only [List.length_cons] at hf; omega)
      exact ⟨M', by omega, m2, m3⟩
    · simp only [if_true] at g2 ⊢
      exact ⟨M - 1, by omega, g2.weak, r2.weak (by omega)⟩
/-- A whole turn. -/
theorem Rel.proceed (hJ : Jok jobs) (gd : Good jobs s [(n : Int)] M (σ + 2)) (r : Rel jobs s (modG g n fun t => { t with stamp := -1 }) (b + M + 60)) : ∃ M', M' ≤ M ∧ Good jobs (proceedM jobs s n) [] M' σ ∧ Rel jobs (proceedM jobs s n) (procG jobs g n) (b + M') := by
  have hn := gd.run_lt (n := n) (by simp)
  obtain ⟨t, ht⟩ : ∃ t, s.tasks[n]? = some t := ⟨_, List.getElem?_eq_getElem hn⟩
  obtain ⟨⟨j, hj1, hj2⟩, k2, k3⟩ := gd.tk t (List.mem_of_getElem? ht)
  obtain ⟨u', hu', htu⟩ := r.get ht
  obtain ⟨u, hu, rfl⟩ : ∃ u, g.tasks[n]? = some u ∧ u' = { u with stamp := -1 } := by
    simp only [modG, get_mod, if_pos] at hu'
    cases hg : g.tasks[n]? with
    | none => rw [hg] at hu'; simp at hu'
    | some w =>
      rw [hg] at hu'
      simp only [Option.map_some, Option.some.injEq] at hu'
      exact ⟨w, rfl, hu'.symm⟩
  rw [proceedM, ht, procG, hu]
  dsimp only
  rw [show u.cancelled = t.cancelled from htu.cancelled, show u.begun = t.begun from htu.begun, show u.guarding = t.guarding from htu.guarding, show u.job = t.job from htu.job]
  have g1 : Good jobs (s.set n { t with cancelled := false }) [(n : Int)] M (σ + 2) := gd.upd ht rfl rfl ⟨⟨j, hj1, hj2⟩, k2, k3⟩ (Nat.le_refl _)
  have ht1 : (s.set n { t with cancelled := false }).tasks[n]? = some { t with cancelled := false } := by simp [Sm.set, hn]
  by_cases hc : t.cancelled = true
  · rw [if_pos hc, if_pos hc]
    have r1 := (r.note n 4 0).upd (t' := { t with cancelled := false }) ht (fun u => { u with cancelled := false }) (fun _ => rfl) (fun _ => rfl) (fun _ => rfl) (fun _ => rfl) rfl fun u h => ⟨h.job, h.begun, h.guarding, h.ended, rfl, h.at0, h.left, h.atl, h.waits⟩
    have gn := g1.note n 4 0
    by_cases hb : t.begun = false ∨ t.guarding = true
    · rw [if_pos hb, if_pos (by rcases hb with hb | hb <;> simp [hb])]
      exact ⟨M, Nat.le_refl _, (Good.end_ (σ := σ) gn ht1).2, Rel.end_ (r1.weak (by omega)) gn⟩
    · rw [if_neg hb, if_neg (by rcases hb2 : t.begun with _ | _ <;> rcases hg2 : t.guarding with _ | _ <;> simp_all)]
      have hg : t.guarding = false := by
        cases hg : t.guarding with
        | false => rfl
        | true => exact absurd (.inr hg) hb
      have hjd : jobs.getD t.job.toNat ⟨[], []⟩ = jobs[j] := by simp [hj1, List.getD, hj2]
      obtain ⟨q1, q2⟩ := hJ.guard j hj2
      rw [hjd]
      have g2 := gn.upd (t' := { t with cancelled := false, guarding := true, left := jobs[j].guard }) ht1 rfl rfl ⟨⟨j, hj1, hj2⟩, q1, q2⟩ (by simp [wk, hg]; omega)
      have r2 := (r.note n 4 0).upd (t' := { t with cancelled := false, guarding := true, left := jobs[j].guard }) ht (fun u => { u with cancelled := false, guarding := true, at_ := 0 }) (fun _ => rfl) (fun _ => rfl) (fun _ => rfl) (fun _ => rfl) rfl fun u h => by
        have e : actsG jobs { u with cancelled := false, guarding := true, at_ := 0 } = jobs[j].guard := by simp [actsG, h.job, hj1, hj2]
        exact ⟨h.job, h.begun, rfl, h.ended, rfl, by simp, by rw [e]; simp, by simp, h.waits⟩
      have e1 : ∀ X : Tsk, ((s.set n { t with cancelled := false }).note n 4 0).set n X = ⟨s.now, s.ser, s.rs, s.ts, s.tasks.set n X, s.log ++ [⟨s.now, n, 4, 0⟩]⟩ := fun X => by simp [Sm.set, Sm.note]
      rw [e1] 
      have g3 : Good jobs ⟨s.now, s.ser, s.rs, s.ts, s.tasks.set n { t with cancelled := false, guarding := true, left := jobs[j].guard }, s.log ++ [⟨s.now, n, 4, 0⟩]⟩ [(n : Int)] M (σ + 1) := by
        have := e1 { t with cancelled := false, guarding := true, left := jobs[j].guard }
        rw [← this]
        exact g2
      exact Rel.go hJ (t := { t with cancelled := false, guarding := true, left := jobs[j].guard }) (b := b) g3 r2 (by simp [hn]) rfl (by omega)
  · rw [if_neg hc, if_neg hc]
    by_cases hb : t.begun = false
    · rw [if_pos hb, if_pos (by simp [hb])]
      have g2 := (gd.note n 1 t.job).upd (t' := { t with begun := true }) ht rfl rfl ⟨⟨j, hj1, hj2⟩, k2, k3⟩ (Nat.le_refl _)
      have r2 := (r.note n 1 t.job).upd (t' := { t with begun := true }) ht (fun u => { u with begun := true }) (fun _ => rfl) (fun _ => rfl) (fun _ => rfl) (fun _ => rfl) rfl fun u h => ⟨h.job, rfl, h.guarding, h.ended, h.cancelled, h.at0, h.left, h.atl, h.waits⟩
      exact Rel.go hJ (f := 31) (s := ⟨s.now, s.ser, s.rs, s.ts, s.tasks.set n { t with begun := true }, s.log ++ [⟨s.now, n, 1, t.job⟩]⟩) (l := t.left) (t := { t with begun := true }) (b := b) g2 r2 (by simp [hn]) rfl (by omega)
    · rw [if_neg hb, if_neg (by simpa using hb)]
      exact Rel.go hJ (b := b) gd.weak r ht rfl (by omega)
/-- The reference's choice. -/
abbrev stampP (t : Tk6) : Bool := !decide (t.stamp < 0)
abbrev dueL (t u : Tk6) : Bool := decide (t.due < u.due) || (decide (t.due = u.due) && decide (t.stamp < u.stamp))
theorem Rel.pop (r : Rel jobs s g b) (gd : Good jobs s [] M 0) {c' : Ck} {x : Int} (h : nextM s.ck = (c', (x, (0, 0)))) : ∃ (i : Nat) (u : Tk6), x = (i : Int) ∧ g.tasks[i]? = some u ∧ best stampP dueL g.tasks g.tasks.length = some i ∧ u.due = c'.now ∧ Rel jobs (s.put c') (modG ⟨g.tasks, c'.now, g.next, g.log⟩ i fun t => { t with stamp := -1 }) b := by
  have h0 := r.nx0
  obtain ⟨p1, p2, p3, p4⟩ := r.cr.pop gd.v (by omega) h
  obtain ⟨i, u, rfl, hu⟩ := sF_in (p := (·.stamp)) (d := -1) (ts := g.tasks) (x := x) (by have : 0 ≤ sF (·.stamp) (-1) g.tasks x := p2; omega)
  have k1 : stG g i = u.stamp := sF_nat hu
  have k2 : duG g i = u.due := sF_nat hu
  rw [k1] at p2
  rw [k2] at p3
  refine ⟨i, u, rfl, hu, best_is (p := stampP) (lt := dueL) hu (by simp; omega) (fun j v hv hp hij => ?_) _ (lt_of_get hu), p3, ?_⟩
  · have q1 : stG g j = v.stamp := sF_nat hv
    have q2 : duG g j = v.due := sF_nat hv
    have := p4 j (by rw [q1]; simp at hp; omega) (by omega)
    rw [k1, k2, q1, q2] at this
    simp only [dueL, Bool.or_eq_true, Bool.and_eq_true, decide_eq_true_eq, Bool.or_eq_false_iff, Bool.and_eq_false_iff, decide_eq_false_iff_not]
    omega
  · refine ⟨by simpa [modG, Sm.put] using r.len, tk_mod r.tk fun t u a b => (r.tk i t u a b).same rfl rfl rfl rfl rfl rfl (r.tk i t u a b).waits, rfl, r.log, h0, r.nx, ?_, ?_⟩
    · have e1 : stG (modG ⟨g.tasks, c'.now, g.next, g.log⟩ i fun t => { t with stamp := -1 }) = upI (stG g) i (-1) := sF_mod hu _
      have e2 : duG (modG ⟨g.tasks, c'.now, g.next, g.log⟩ i fun t => { t with stamp := -1 }) = duG g := sF_same fun _ => rfl
      rw [e1, e2]
      exact p1
    · have e1 : wfG (modG ⟨g.tasks, c'.now, g.next, g.log⟩ i fun t => { t with stamp := -1 }) = wfG g := sF_same fun _ => rfl
      have e2 : sfG (modG ⟨g.tasks, c'.now, g.next, g.log⟩ i fun t => { t with stamp := -1 }) = sfG g := sF_same fun _ => rfl
      rw [e1, e2]
      exact r.wr
theorem Rel.stop (r : Rel jobs s g b) (gd : Good jobs s [] M 0) (h : (nextM s.ck).2.2.1 ≠ 0) : best stampP dueL g.tasks g.tasks.length = none := best_none (fun t ht => by
  obtain ⟨i, hi, rfl⟩ := List.getElem_of_mem ht
  have := r.cr.empty gd.v h i
  have k1 : stG g i = (g.tasks[i]).stamp := sF_nat (List.getElem?_eq_getElem hi)
  rw [k1] at this
  simp [this]) _
end
end Go.Proofs.Ytgiebofmfkacgaa
namespace Go.Proofs.Ytgiebofmfkacgaa
def t60 : Tk6 := ⟨0, 0, false, false, false, false, 0, 0, -1, 0⟩
def g60 : Sg := ⟨[t60], 0, 1, []⟩
theorem init_rel {jobs : List Jb} : Rel jobs (init jobs) g60 (61 * 7201) := by
  have e : ∀ (p : Tk6 → Int) (d : Int) (x : Int), sF p d [t60] x = if x = 0 then p t60 else d := fun p d x => by
    by_cases h : x = 0
    · subst h; rfl
    · rw [if_neg h, sF]
      split
      · rfl
      · rw [List.getElem?_eq_none (by simp; omega)]; rfl
  have e1 : stG g60 = fun x => if x = 0 then 0 else -1 := by funext x; exact e _ _ x
  have e2 : duG g60 = fun x => if x = 0 then 0 else 0 := by funext x; exact e _ _ x
  have e3 : wfG g60 = fun x => if x = 0 then -1 else -1 := by funext x; exact e _ _ x
  have e4 : sfG g60 = fun x => if x = 0 then 0 else -1 := by funext x; exact e _ _ x
  refine ⟨rfl, fun i t u h1 h2 => ?_, rfl, rfl, by decide, by decide, ?_, ?_⟩
  · cases i with
    | zero =>
      simp only [init, List.getElem?_cons_zero, Option.some.injEq] at h1
      simp only [g60, List.getElem?_cons_zero, Option.some.injEq] at h2
      subst h1 h2
      exact ⟨rfl, rfl, rfl, rfl, rfl, by decide, by simp [actsG, t60], by simp [t60], by decide⟩
    | succ i => simp [init] at h1
  · rw [e1, e2]
    refine ⟨fun p hp => ?_, fun x hx => ?_, ?_, fun m hm => ?_, fun x => ?_⟩
    · simp [due, init, Sm.ck] at hp
      subst hp
      exact ⟨by decide, rfl⟩
    · split at hx
      · rename_i h; subst h; simp [init, Sm.ck]
      · omega
    · simp [due, init, Sm.ck]
    · simp [init, Sm.ck] at hm
    · dsimp only [g60]; split <;> omega
  · rw [e3, e4]
    have ew : ∀ m, wsF (init jobs).tasks m = [] := fun m => by
      rw [wsF]
      split
      · rfl
      · by_cases h : m.toNat = 0
        · rw [h]; rfl
        · rw [List.getElem?_eq_none (by simp [init]; omega)]; rfl
    refine ⟨fun m x => ?_, fun m => ?_, fun x => ?_⟩
    · rw [ew]
      simp
      omega
    · rw [ew]; exact List.Pairwise.nil
    · dsimp only [g60]; split <;> omega
section
variable {jobs : List Jb} {s : Sm} {M b : Nat}
/-- One round. -/
theorem Rel.round (hJ : Jok jobs) {us : List Tk6} {no ne : Int} {lo : List Rc} (r : Rel jobs s ⟨us, no, ne, lo⟩ (61 * M)) (gd : Good jobs s [] M 0) (h : (nextM s.ck).2.2.1 = 0) : 1 ≤ M ∧ ∃ (j : Nat) (hj : j < us.length), best stampP dueL us us.length = some j ∧ Sok jobs ⟨us, (us[j]).due, ne, lo⟩ 40 ∧ (∀ t, us[j]? = some t → t.at_.toNat ≤ (actsG jobs t).length) ∧ ∃ M', M' < M ∧ Good jobs (proceedM jobs (s.put (nextM s.ck).1) (nextM s.ck).2.1.toNat) [] M' 0 ∧ Rel jobs (proceedM jobs (s.put (nextM s.ck).1) (nextM s.ck).2.1.toNat) (procG jobs ⟨us, (us[j]).due, ne, lo⟩ j) (61 * M') := by
  obtain ⟨c', x, e⟩ : ∃ c' x, nextM s.ck = (c', (x, (0, 0))) := by
    rcases next_spec gd.v with ⟨_, h2⟩ | ⟨m, a, rest, c2, h1, h2, _⟩
    · rw [h2] at h; simp at h
    · exact ⟨c2, m, h2⟩
  rw [e]
  dsimp only
  obtain ⟨i, u, rfl, hu, hb, hd, hr⟩ := r.pop gd e
  obtain ⟨hM, gp, hnow, _⟩ := gd.pop e
  dsimp only at hu hb
  have hi := (List.getElem?_eq_some_iff.1 hu).1
  have hui : us[i] = u := (List.getElem?_eq_some_iff.1 hu).2
  rw [Int.toNat_natCast]
  have hv := gp.v
  have ht0 := (timeB_iff _).1 hv.now
  have htm := gp.tm
  dsimp only [Sm.put, Sm.ck] at ht0 htm
  refine ⟨hM, i, hi, hb, ?_, fun t ht => ?_, ?_⟩
  · rw [hui, hd]
    refine ⟨?_, fun k t ht => ?_, ?_, ?_, ?_, ht0.1, ?_⟩
    · have := gd.len; have := r.len; dsimp only at *; omega
    · have hk : k < s.tasks.length := by
        have h1 := (List.getElem?_eq_some_iff.1 ht).1
        have := r.len
        dsimp only at *; omega
      have q := r.tk k _ t (List.getElem?_eq_getElem hk) ht
      obtain ⟨⟨j, j1, j2⟩, _⟩ := gd.tk _ (List.getElem_mem hk)
      exact ⟨⟨j, q.job.trans j1, j2⟩, q.at0⟩
    · have := r.nx0; dsimp only at *; omega
    · have := r.nx; dsimp only at *; omega
    · have := gd.lg; have := r.log; dsimp only at *; subst this; omega
    · dsimp only; omega
  · have hk : i < s.tasks.length := by
      have := r.len
      dsimp only at *; omega
    exact (r.tk i _ t (List.getElem?_eq_getElem hk) ht).atl
  · rw [hui, hd]
    obtain ⟨M', m1, m2, m3⟩ := Rel.proceed (σ := 1) (M := M - 1) (b := 60 * (M - 1)) (g := ⟨us, c'.now, ne, lo⟩) hJ gp (hr.weak (by omega))
    exact ⟨M', by omega, m2.weak, m3.weak (by omega)⟩
end
end Go.Proofs.Ytgiebofmfkacgaa
namespace Go.Proofs.Ytgiebofmfkacgaa
open Go.RowKit
theorem ready_R4 (jobs : List Jb) (x : Int) (hx : x = 0) (r1 : List (List V)) (e1 : r1 = [t60.v]) (N : Nat) (hN : N = 1) : CallsA Try.prog 48 [.a [.u (jvs jobs), .ow 9 N, .u (.int .i64 0), .u (.int .i64 0), .u .nl], .d (.u (.int .i64 x))] [(9, .ar 85 10 r1)] (Iso (sgA jobs g60) (sgO g60)) := by
  subst hx e1 hN
  have h : CallsA Try.prog 48 [.a [.u (jvs jobs), .ow 901 1, .u (.int .i64 0), .u (.int .i64 0), .ow 902 0], di (0 : Nat)] [(901, .ar 85 10 [t60.v]), (902, .ar 55 4 [])] (Iso (sgA jobs g60) (sgO g60)) := ready_R jobs ⟨[t60], 0, 0, []⟩ 0 (by simp) (by decide) (by decide)
  refine h.renI [(901, .k 9), (902, .n 4)] rfl ?_ (by repeat (first | exact LeO.nil | refine LeO.ar rfl rfl (by rfl) ?_ | refine LeO.no rfl rfl ?_))
  exact LeT.cons rfl (LeS.a (LeL.cons (LeD.u rfl) (LeL.cons (LeD.ow rfl rfl) (LeL.cons (LeD.u rfl) (LeL.cons (LeD.u rfl) (LeL.cons (LeD.no rfl rfl) LeL.nil)))))) (LeT.cons rfl (LeS.d (LeD.u rfl)) LeT.nil)
set_option maxHeartbeats 8000000 in
theorem simulated_R (jobs : List Jb) (hJ : Jok jobs) : CallsA Try.prog 31 [.d (.u (jvs jobs))] [] (Iso (.d (.ow 902 (simM jobs).length)) [(902, .ar 55 4 ((simM jobs).map Rc.v))]) := by
  refine callsA_of_vcO (T := tt) Try.func31 rfl rfl rfl rfl rfl ?_
  repeat' ((conv => whnf); first | refine Gs.id ?_ | (refine CL.mk (Or.inr (Raw.callI [9] [9,901,902] rfl rfl rfl rfl rfl rfl rfl (ready_R4 jobs _ rfl _ rfl _ rfl) ?_)); rintro _ _ ⟨rfl, rfl⟩; refine Bk.mk rfl rfl ?_))
  all_goals (conv => whnf)
  refine ⟨⟨Nat × Nat × Sm × Sg, fun q => q.2.1 < q.1 ∧ Good jobs q.2.2.1 [] q.2.1 0 ∧ Rel jobs q.2.2.1 q.2.2.2 (61 * q.2.1) ∧ simF jobs q.1 q.2.2.1 = simM jobs, fun q => q.1, fun q => ⟨[(3, .d (.p 3 0))], [(3, stO jobs q.2.2.2), (901, .ar 85 10 (q.2.2.2.tasks.map Tk6.v)), (902, .ar 55 4 (q.2.2.2.log.map Rc.v))]⟩, (7202, 7201, init jobs, g60), ⟨Nat.lt_succ_self _, init_good hJ, init_rel, rfl⟩, ⟨[(3, .k 3), (901, .k 901), (902, .k 902)], ⟨by (try dsimp only); (repeat (refine LeT.cons rfl (by exact LeS.d (by exact LeD.p rfl)) ?_)); exact LeT.nil, by (try dsimp only); repeat (first | exact LeO.nil | refine LeO.bx rfl rfl (by repeat (first | exact LeL.nil | refine LeL.cons (by first | exact LeD.u rfl | exact LeD.ow rfl rfl) ?_)) ?_ | refine LeO.ar rfl rfl (by rfl) ?_)⟩⟩, fun ⟨f, M, s, g⟩ ⟨hf, hg, hr, hS⟩ => ?_⟩⟩
  obtain ⟨us, no, ne, lo⟩ := g
  dsimp only at hf hg hr hS ⊢
  repeat' ((conv => whnf); refine Gs.id ?_)
  all_goals (conv => whnf)
  refine ⟨⟨Nat, fun i => i ≤ us.length, fun i => us.length - i, fun i => ⟨[(3, .d (.p 3 0)), (4, di (optI (best stampP dueL us i))), (5, di i)], [(3, stO jobs ⟨us, no, ne, lo⟩), (901, .ar 85 10 (us.map Tk6.v)), (902, .ar 55 4 (lo.map Rc.v))]⟩, 0, Nat.zero_le _, ⟨[(3, .k 3), (901, .k 901), (902, .k 902)], ⟨by (try dsimp only); (repeat (refine LeT.cons rfl (by exact LeS.d (by first | exact LeD.u rfl | exact LeD.p rfl)) ?_)); exact LeT.nil, by (try dsimp only); repeat (first | exact LeO.nil | refine LeO.bx rfl rfl (by repeat (first | exact LeL.nil | refine LeL.cons (by first | exact LeD.u rfl | exact LeD.ow rfl rfl) ?_)) ?_ | refine LeO.ar rfl rfl (by rfl) ?_)⟩⟩, fun i hi => ?_⟩⟩
  dsimp only at hi ⊢
  by_cases h9 : i < us.length
  · have hget : us[i]? = some us[i] := List.getElem?_eq_getElem h9
    have hri : ∀ {K : List V → Prop}, K (us[i]).v → Rw (us.map Tk6.v) i K := fun k => Rw.map h9 k
    generalize us[i] = t at hget hri
    obtain ⟨t1, t2, t3, t4, t5, t6, t7, t8, t9, t10⟩ := t
    rcases hbst : best stampP dueL us i with _ | j
    · by_cases h8 : t8 < 0
      · have hs : best stampP dueL us (i + 1) = none := by
          rw [best, hget]
          dsimp only
          rw [if_neg (by simp [h8])]
          exact hbst
        repeat' ((conv => whnf); first | refine Ixo.mk ⟨i, rfl, h9, ?_⟩ | refine hri ?_ | refine Gs.id ?_ | refine Brn.T (by (try simp only [smT]); first | rfl | assumption | omega) ?_ | (refine Bnd.mk (fun hm => ?_); (try simp only [smT] at hm)) | refine Rng.mk (by (try simp only [smT]); omega) ?_)
        all_goals (conv => whnf)
        all_goals
          refine ⟨i + 1, by omega, by omega, [(3, .k 3), (901, .k 901), (902, .k 902)], ?_⟩
          rw [hs]
          exact ⟨by (try dsimp only); (repeat (refine LeT.cons rfl (by exact LeS.d (by first | exact LeD.u rfl | exact LeD.p rfl)) ?_)); exact LeT.nil, by (try dsimp only); repeat (first | exact LeO.nil | refine LeO.bx rfl rfl (by repeat (first | exact LeL.nil | refine LeL.cons (by first | exact LeD.u rfl | exact LeD.ow rfl rfl) ?_)) ?_ | refine LeO.ar rfl rfl (by rfl) ?_)⟩
      · have hs : best stampP dueL us (i + 1) = some i := by
          rw [best, hget]
          dsimp only
          rw [if_pos (by simp; omega), hbst]
        repeat' ((conv => whnf); first | refine Ixo.mk ⟨i, rfl, h9, ?_⟩ | refine hri ?_ | refine Gs.id ?_ | with_reducible refine Brn.T rfl ?_ | refine Brn.T (by (try simp only [smT]); first | rfl | omega) ?_ | refine Brn.F (by (try simp only [smT]); first | rfl | omega) ?_ | (refine Bnd.mk (fun hm => ?_); (try simp only [smT] at hm)) | refine Rng.mk (by (try simp only [smT]); omega) ?_ | refine Drw.of (T := tt) (i := 9) [] [] [(0, true), (1, true), (2, true), (3, true), (4, true), (5, true), (6, true), (7, true), (8, true), (9, true), (10, true), (11, true), (12, true), (13, true), (14, true), (15, true), (16, true), (17, true), (18, true), (19, true), (20, true), (21, true), (22, true), (23, true), (24, true), (25, true), (26, true), (27, true), (28, true), (29, true), (30, true), (31, true), (32, true), (33, true), (34, true)] (by kernel_rfl) ?_)
        all_goals (conv => whnf)
        all_goals
          refine ⟨i + 1, by omega, by omega, [(3, .k 3), (901, .k 901), (902, .k 902)], ?_⟩
          rw [hs]
          exact ⟨by (try dsimp only); (repeat (refine LeT.cons rfl (by exact LeS.d (by first | exact LeD.u rfl | exact LeD.p rfl)) ?_)); exact LeT.nil, by (try dsimp only); repeat (first | exact LeO.nil | refine LeO.bx rfl rfl (by repeat (first | exact LeL.nil | refine LeL.cons (by first | exact LeD.u rfl | exact LeD.ow rfl rfl) ?_)) ?_ | refine LeO.ar rfl rfl (by rfl) ?_)⟩
    · obtain ⟨hj, u, hju, hpu⟩ := best_lt hbst
      have hjl : j < us.length := Nat.lt_trans hj h9
      have hrj : ∀ {K : List V → Prop}, K u.v → Rw (us.map Tk6.v) j K := fun k => Rw.get (by rw [List.getElem?_map, hju]; rfl) k
      obtain ⟨u1, u2, u3, u4, u5, u6, u7, u8, u9, u10⟩ := u
      by_cases h8 : t8 < 0
      · have hs : best stampP dueL us (i + 1) = some j := by
          rw [best, hget]
          dsimp only
          rw [if_neg (by simp [h8])]
          exact hbst
        repeat' ((conv => whnf); first | refine Ixo.mk ⟨i, rfl, h9, ?_⟩ | refine hri ?_ | refine Gs.id ?_ | refine Brn.T (by (try simp only [smT]); first | rfl | assumption | omega) ?_ | (refine Bnd.mk (fun hm => ?_); (try simp only [smT] at hm)) | refine Rng.mk (by (try simp only [smT]); omega) ?_)
        all_goals (conv => whnf)
        all_goals
          refine ⟨i + 1, by omega, by omega, [(3, .k 3), (901, .k 901), (902, .k 902)], ?_⟩
          rw [hs]
          exact ⟨by (try dsimp only); (repeat (refine LeT.cons rfl (by exact LeS.d (by first | exact LeD.u rfl | exact LeD.p rfl)) ?_)); exact LeT.nil, by (try dsimp only); repeat (first | exact LeO.nil | refine LeO.bx rfl rfl (by repeat (first | exact LeL.nil | refine LeL.cons (by first | exact LeD.u rfl | exact LeD.ow rfl rfl) ?_)) ?_ | refine LeO.ar rfl rfl (by rfl) ?_)⟩
      · by_cases hlt : t7 < u7 ∨ t7 = u7 ∧ t8 < u8
        · have hs : best stampP dueL us (i + 1) = some i := by
            rw [best, hget]
            dsimp only
            rw [if_pos (by simp; omega), hbst]
            dsimp only
            rw [hju]
            dsimp only
            rw [if_pos (by simp [dueL]; omega)]
          repeat' ((conv => whnf); first | refine Ixo.mk ⟨i, rfl, h9, ?_⟩ | refine Ixo.mk ⟨j, rfl, hjl, ?_⟩ | refine hri ?_ | refine hrj ?_ | refine Gs.id ?_ | with_reducible refine Brn.T rfl ?_ | with_reducible refine Brn.F rfl ?_ | refine Brn.T (by (try simp only [smT]); first | rfl | assumption | omega) ?_ | refine Brn.F (by (try simp only [smT]); first | rfl | assumption | omega) ?_ | (refine Brn.mk (fun hb => ?_) (fun hb => ?_) <;> (try simp only [smT] at hb) <;> (try (exact absurd trivial hb)) <;> (try (exfalso; omega))) | (refine Bnd.mk (fun hm => ?_); (try simp only [smT] at hm)) | refine Rng.mk (by (try simp only [smT]); omega) ?_ | refine Drw.of (T := tt) (i := 9) [] [] [(0, true), (1, true), (2, true), (3, true), (4, true), (5, true), (6, true), (7, true), (8, true), (9, true), (10, true), (11, true), (12, true), (13, true), (14, true), (15, true), (16, true), (17, true), (18, true), (19, true), (20, true), (21, true), (22, true), (23, true), (24, true), (25, true), (26, true), (27, true), (28, true), (29, true), (30, true), (31, true), (32, true), (33, true), (34, true)] (by kernel_rfl) ?_)
          all_goals (conv => whnf)
          all_goals
            refine ⟨i + 1, by omega, by omega, [(3, .k 3), (901, .k 901), (902, .k 902)], ?_⟩
            rw [hs]
            exact ⟨by (try dsimp only); (repeat (refine LeT.cons rfl (by exact LeS.d (by first | exact LeD.u rfl | exact LeD.p rfl)) ?_)); exact LeT.nil, by (try dsimp only); repeat (first | exact LeO.nil | refine LeO.bx rfl rfl (by repeat (first | exact LeL.nil | refine LeL.cons (by first | exact LeD.u rfl | exact LeD.ow rfl rfl) ?_)) ?_ | refine LeO.ar rfl rfl (by rfl) ?_)⟩
        · have hs : best stampP dueL us (i + 1) = some j := by
            rw [best, hget]
            dsimp only
            rw [if_pos (by simp; omega), hbst]
            dsimp only
            rw [hju]
            dsimp only
            rw [if_neg (by simp [dueL]; omega)]
          have hl1 : u7 ≤ t7 := by omega
          have hl2 : t7 = u7 → u8 ≤ t8 := by omega
          repeat' ((conv => whnf); first | refine Ixo.mk ⟨i, rfl, h9, ?_⟩ | refine Ixo.mk ⟨j, rfl, hjl, ?_⟩ | refine hri ?_ | refine hrj ?_ | refine Gs.id ?_ | with_reducible refine Brn.F rfl ?_ | refine Brn.T (by (try simp only [smT]); first | rfl | assumption | omega) ?_ | refine Brn.F (by (try simp only [smT]); first | rfl | assumption | omega) ?_ | (refine Brn.mk (fun hb => ?_) (fun hb => ?_) <;> (try simp only [smT] at hb) <;> (try (exact absurd trivial hb)) <;> (try (exfalso; omega))) | (refine Bnd.mk (fun hm => ?_); (try simp only [smT] at hm)) | refine Rng.mk (by (try simp only [smT]); omega) ?_ | refine Drw.of (T := tt) (i := 9) [] [] [(0, true), (1, true), (2, true), (3, true), (4, true), (5, true), (6, true), (7, true), (8, true), (9, true), (10, true), (11, true), (12, true), (13, true), (14, true), (15, true), (16, true), (17, true), (18, true), (19, true), (20, true), (21, true), (22, true), (23, true), (24, true), (25, true), (26, true), (27, true), (28, true), (29, true), (30, true), (31, true), (32, true), (33, true), (34, true)] (by kernel_rfl) ?_)
          all_goals (conv => whnf)
          all_goals
            refine ⟨i + 1, by omega, by omega, [(3, .k 3), (901, .k 901), (902, .k 902)], ?_⟩
            rw [hs]
            exact ⟨by (try dsimp only); (repeat (refine LeT.cons rfl (by exact LeS.d (by first | exact LeD.u rfl | exact LeD.p rfl)) ?_)); exact LeT.nil, by (try dsimp only); repeat (first | exact LeO.nil | refine LeO.bx rfl rfl (by repeat (first | exact LeL.nil | refine LeL.cons (by first | exact LeD.u rfl | exact LeD.ow rfl rfl) ?_)) ?_ | refine LeO.ar rfl rfl (by rfl) ?_)⟩
  · obtain rfl : i = us.length := by omega
    obtain ⟨f, rfl⟩ : ∃ f', f = f' + 1 := ⟨f - 1, by omega⟩
    rw [simF] at hS
    by_cases hnx : (nextM s.ck).2.2.1 = 0
    · rw [if_pos hnx] at hS
      obtain ⟨hM, j, hj, hb, hs, hal, M', m1, m2, m3⟩ := hr.round hJ hg hnx
      have hrj : ∀ {K : List V → Prop}, K (us[j]).v → Rw (us.map Tk6.v) j K := fun k => Rw.map hj k
      rw [hb]
      obtain ⟨R, hR⟩ : ∃ R, procG jobs ⟨us, (us[j]).due, ne, lo⟩ j = R := ⟨_, rfl⟩
      rw [hR] at m3
      have hcall := proceed_R jobs hJ us (us[j]).due ne lo j hs hj hal R hR
      repeat' ((conv => whnf); first | refine Ixo.mk ⟨j, rfl, hj, ?_⟩ | refine hrj ?_ | refine Gs.id ?_ | with_reducible refine Brn.F rfl ?_ | refine Brn.F (by (try simp only [smT]); first | rfl | omega) ?_ | (refine Bnd.mk (fun hm => ?_); (try simp only [smT] at hm)) | (refine CL.mk (Or.inr (Raw.callI [901,902] [901,902] rfl rfl rfl rfl rfl rfl rfl (hcall) ?_)); rintro _ _ ⟨rfl, rfl⟩; refine Bk.mk rfl rfl ?_))
      all_goals (conv => whnf)
      all_goals exact ⟨(f, M', _, R), ⟨by dsimp only; omega, m2, m3, hS⟩, by dsimp only; omega, [(3, .k 3), (901, .k 901), (902, .k 902)], ⟨by (try dsimp only); (repeat (refine LeT.cons rfl (by exact LeS.d (by exact LeD.p rfl)) ?_)); exact LeT.nil, by (try dsimp only); repeat (first | exact LeO.nil | refine LeO.bx rfl rfl (by repeat (first | exact LeL.nil | refine LeL.cons (by first | exact LeD.u rfl | exact LeD.ow rfl rfl) ?_)) ?_ | refine LeO.ar rfl rfl (by rfl) ?_)⟩⟩
    · rw [if_neg hnx] at hS
      have hb := hr.stop hg hnx
      dsimp only at hb
      have hl := hr.log
      dsimp only at hl
      rw [hb, ← hS, ← hl]
      repeat' ((conv => whnf); first | refine Gs.id ?_ | with_reducible refine Brn.T rfl ?_ | refine Brn.F (by (try simp only [smT]); first | rfl | omega) ?_ | (refine Bnd.mk (fun hm => ?_); (try simp only [smT] at hm)))
      all_goals (conv => whnf)
      all_goals refine RetO.mk ⟨[(902, .k 902)], _, _, (by exact LeS.d (by exact LeD.ow rfl rfl)), (by repeat (first | exact LeO.nil | refine LeO.ar rfl rfl (by rfl) ?_)), rfl, rfl⟩
end Go.Proofs.Ytgiebofmfkacgaa
namespace Go.Proofs.Ytgiebofmfkacgaa
open Go.RowKit

theorem jobsM_step (n : Int) (jobs : List Jb) (i : Nat) (h : i < jobs.length) : jobsM n (jobs.drop i) i = if checkJobM jobs[i] n ≠ 0 then (checkJobM jobs[i] n, (i : Int)) else jobsM n (jobs.drop (i + 1)) (i + 1) := by
  rw [List.drop_eq_getElem_cons h, jobsM]
theorem simulate_bad (jobs : List Jb) (hb : (simFault jobs).1 ≠ 0) : CallsA Try.prog 28 [.d (.u (jvs jobs))] [] (Is (.t [.d (.u .nl), .a (fd (simFault jobs))])) := by
  by_cases h0 : jobs.length = 0
  · have e : simFault jobs = (10, -1) := by simp [simFault, h0]
    rw [e]
    refine callsA_of_vc (T := tt) Try.func28 rfl rfl rfl rfl rfl ?_
    repeat' ((conv => whnf); first | refine Gs.id ?_ | refine Brn.T (by (try simp only [smT]); first | rfl | omega) ?_ | (refine Bnd.mk (fun hm => ?_); (try simp only [smT] at hm)))
    all_goals (conv => whnf)
    · exact Ret.is rfl
  · by_cases h6 : 60 < jobs.length
    · have e : simFault jobs = (2, -1) := by simp [simFault, h0, h6]
      rw [e]
      refine callsA_of_vc (T := tt) Try.func28 rfl rfl rfl rfl rfl ?_
      repeat' ((conv => whnf); first | refine Gs.id ?_ | refine Brn.T (by (try simp only [smT]); first | rfl | omega) ?_ | refine Brn.F (by (try simp only [smT]); first | rfl | omega) ?_ | (refine Bnd.mk (fun hm => ?_); (try simp only [smT] at hm)))
      all_goals (conv => whnf)
      · exact Ret.is rfl
    · have e : simFault jobs = jobsM jobs.length jobs 0 := by rw [simFault, if_neg h0, if_neg h6]
      rw [e] at hb ⊢
      refine callsA_of_vc (T := tt) Try.func28 rfl rfl rfl rfl rfl ?_
      repeat' ((conv => whnf); first | refine Gs.id ?_ | refine Brn.F (by (try simp only [smT]); first | rfl | omega) ?_ | (refine Bnd.mk (fun hm => ?_); (try simp only [smT] at hm)))
      all_goals (conv => whnf)
      refine ⟨⟨Nat, fun i => i ≤ jobs.length ∧ jobsM jobs.length jobs 0 = jobsM jobs.length (jobs.drop i) i, fun i => jobs.length - i, fun i => ⟨[(0, .d (.u (jvs jobs))), (3, .d (.p 3 0)), (21, .d (.u (jvs jobs))), (22, di jobs.length), (23, di i)], [(3, .bx 27 [.u (.int .i64 0), .u (.int .i64 0)])]⟩, 0, ⟨by omega, rfl⟩, ⟨[(3, .k 3)], ⟨by (try dsimp only); (repeat (refine LeT.cons rfl (by exact LeS.d (by first | exact LeD.u rfl | exact LeD.p rfl | exact LeD.u (by simp; done))) ?_)); exact LeT.nil, by (try dsimp only); repeat (first | exact LeO.nil | refine LeO.bx rfl rfl (by repeat (first | exact LeL.nil | refine LeL.cons (by exact LeD.u rfl) ?_)) ?_)⟩⟩, fun i ⟨hi, he⟩ => ?_⟩⟩
      dsimp only
      by_cases h9 : i < jobs.length
      · rw [he, jobsM_step _ _ _ h9]
        have hc := checkJob_T jobs[i] jobs.length (by omega) (by omega)
        generalize checkJobM jobs[i] jobs.length = cc at hc ⊢
        have hc' : ∀ m : Nat, m = jobs.length → CallsA Try.prog 45 [.a [.u (avs (jobs[i]).acts), .u (avs (jobs[i]).guard)], di m] [] (Is (di cc)) := fun m hm => by rw [hm]; exact hc
        repeat' ((conv => whnf); first | refine Gs.id ?_ | refine Brn.T (by (try simp only [smT]); first | rfl | omega) ?_ | (refine Brn.mk (fun hb => ?_) (fun hb => ?_) <;> (try simp only [smT] at hb) <;> (try (exact absurd trivial hb)) <;> (try (exfalso; omega))) | (refine Bnd.mk (fun hm => ?_); (try simp only [smT] at hm)) | refine Rng.mk (by (try simp only [smT]); omega) ?_ | refine Ix.map rfl (by (try simp only [smT]); omega) ?_ | (refine CL.mk (Or.inl ?_); (conv => whnf); refine Cl.is (hc' _ (by simp)) rfl (by exact fun _ => rfl) ?_))
        all_goals (conv => whnf)
        · rw [if_pos (by assumption)]; exact Ret.is rfl
        · exact ⟨i + 1, ⟨by omega, by rw [if_neg (by simpa using (by assumption))]⟩, by omega, [(3, .k 3)], ⟨by (try dsimp only); (repeat (refine LeT.cons rfl (by exact LeS.d (by first | exact LeD.u rfl | exact LeD.p rfl)) ?_)); exact LeT.nil, by (try dsimp only); repeat (first | exact LeO.nil | refine LeO.bx rfl rfl (by repeat (first | exact LeL.nil | refine LeL.cons (by exact LeD.u rfl) ?_)) ?_)⟩⟩
      · obtain rfl : i = jobs.length := by omega
        rw [he, List.drop_length, jobsM] at hb
        exact absurd rfl hb
abbrev smOb0 : List (Nat × Ob) := [(1, 80), (2, 104)].map fun p : Nat × TypeId => (p.1, Ob.fm p.2 [])
theorem jobs0 {jobs : List Jb} (h : (simFault jobs).1 = 0) : jobsM jobs.length jobs 0 = (0, 0) := by
  have hJ := simFault_ok h
  have h1 := hJ.ne
  have h2 := hJ.le
  rw [simFault, if_neg (by omega), if_neg (by omega)] at h
  have : ∀ (l : List Jb) (i : Nat), (jobsM jobs.length l i).1 = 0 → jobsM jobs.length l i = (0, 0) := by
    intro l
    induction l with
    | nil => intro i _; rfl
    | cons j l ih =>
      intro i h
      rw [jobsM] at h ⊢
      split at h
      · rename_i q; exact absurd h q
      · rename_i q; rw [if_neg q]; exact ih _ h
  exact this _ _ h
set_option maxHeartbeats 2000000 in
theorem simulate_ok0 (jobs : List Jb) (h : (simFault jobs).1 = 0) : CallsA Try.prog 28 [.d (.u (jvs jobs))] smOb0 (Is (.t [.d (.u (.sl 4 ((simM jobs).map Rc.v))), .a (fd (0, 0))])) := by
  have hJ := simFault_ok h
  have hj0 := jobs0 h
  have hne := hJ.ne
  have hle := hJ.le
  refine callsA_of_vc (T := tt) Try.func28 rfl rfl rfl rfl rfl ?_
  repeat' ((conv => whnf); first | refine Gs.id ?_ | refine Brn.F (by (try simp only [smT]); first | rfl | omega) ?_ | (refine Bnd.mk (fun hm => ?_); (try simp only [smT] at hm)))
  all_goals (conv => whnf)
  refine ⟨⟨Nat, fun i => i ≤ jobs.length ∧ jobsM jobs.length (jobs.drop i) i = (0, 0), fun i => jobs.length - i, fun i => ⟨[(0, .d (.u (jvs jobs))), (3, .d (.p 3 0)), (21, .d (.u (jvs jobs))), (22, di jobs.length), (23, di i)], [(3, .bx 27 [.u (.int .i64 0), .u (.int .i64 0)]), (1, .fm 80 []), (2, .fm 104 [])]⟩, 0, ⟨by omega, hj0⟩, ⟨[(3, .k 3), (1, .k 1), (2, .k 2)], ⟨by (try dsimp only); (repeat (refine LeT.cons rfl (by exact LeS.d (by first | exact LeD.u rfl | exact LeD.p rfl | exact LeD.u (by simp; done))) ?_)); exact LeT.nil, by (try dsimp only); repeat (first | exact LeO.nil | refine LeO.bx rfl rfl (by repeat (first | exact LeL.nil | refine LeL.cons (by exact LeD.u rfl) ?_)) ?_ | refine LeO.fm rfl (by rfl) ?_)⟩⟩, fun i ⟨hi, he⟩ => ?_⟩⟩
  dsimp only
  by_cases h9 : i < jobs.length
  · rw [jobsM_step _ _ _ h9] at he
    have hc := checkJob_T jobs[i] jobs.length (by omega) (by omega)
    generalize checkJobM jobs[i] jobs.length = cc at hc he
    have hc' : ∀ m : Nat, m = jobs.length → CallsA Try.prog 45 [.a [.u (avs (jobs[i]).acts), .u (avs (jobs[i]).guard)], di m] [] (Is (di cc)) := fun m hm => by rw [hm]; exact hc
    have hcc : cc = 0 := by
      by_cases q : cc = 0
      · exact q
      · rw [if_pos q] at he; injection he
    subst hcc
    rw [if_neg (by simp)] at he
    repeat' ((conv => whnf); first | refine Gs.id ?_ | with_reducible refine Brn.F rfl ?_ | refine Brn.T (by (try simp only [smT]); first | rfl | omega) ?_ | (refine Bnd.mk (fun hm => ?_); (try simp only [smT] at hm)) | refine Rng.mk (by (try simp only [smT]); omega) ?_ | refine Ix.map rfl (by (try simp only [smT]); omega) ?_ | (refine CL.mk (Or.inl ?_); (conv => whnf); refine Cl.is (hc' _ (by simp)) rfl (by exact fun _ => rfl) ?_))
    all_goals (conv => whnf)
    · exact ⟨i + 1, ⟨by omega, he⟩, by omega, [(3, .k 3), (1, .k 1), (2, .k 2)], ⟨by (try dsimp only); (repeat (refine LeT.cons rfl (by exact LeS.d (by first | exact LeD.u rfl | exact LeD.p rfl)) ?_)); exact LeT.nil, by (try dsimp only); repeat (first | exact LeO.nil | refine LeO.bx rfl rfl (by repeat (first | exact LeL.nil | refine LeL.cons (by exact LeD.u rfl) ?_)) ?_ | refine LeO.fm rfl (by rfl) ?_)⟩⟩
  · obtain rfl : i = jobs.length := by omega
    have hsp : spawnM jobs ⟨0, 0, [], [], [], []⟩ 0 = init jobs := by
      have : readyM ⟨0, 0, [], []⟩ 0 = (⟨0, 0, [0], []⟩, (0, 0)) := by decide +kernel
      simp [spawnM, init, Sm.ck, this]
    have hg := init_good hJ
    repeat' ((conv => whnf); first | refine Gs.go (i := 13) (Ghost.nl (NlO.keep (NlO.fm (NlRs.cons (NlEs.cons .refl (NlEs.cons .refl (NlEs.cons .refl (NlEs.cons (.v (.nl (sz := 1) (rs := []) rfl)) (NlEs.cons (.v (.nl (sz := 3) (rs := []) rfl)) (NlEs.cons .refl (NlEs.cons .refl .nil))))))) .nil) (.keep .nil)))) ?_ | refine Gs.id ?_ | refine Brn.F (by (try simp only [smT]); first | rfl | omega) ?_ | (refine CL.mk (Or.inr (Raw.callI [1,2] [1,2] rfl rfl rfl rfl rfl rfl rfl (spawn_T' jobs 0 0 [] [] [] [] 0 hne (by simp) ⟨by simp, by simp⟩ _ _ _ _ _ hsp _ _ rfl rfl) ?_)); rintro _ _ ⟨rfl, rfl⟩; refine Bk.mk rfl rfl ?_) | refine Spc.mk ⟨[(5,(102,1)), (6,(55,4))], ?_⟩)
    all_goals (conv => whnf)
    refine ⟨⟨Nat × Sm, fun q => (∃ M, M < q.1 ∧ Good jobs q.2 [] M 0) ∧ simF jobs q.1 q.2 = simM jobs, fun q => q.1, fun q => ⟨[(3, .d (.p 3 0)), (7, smP)], (3, .bx 27 [.u (.int .i64 0), .u (.int .i64 0)]) :: smOb jobs q.2.now q.2.ser q.2.rs q.2.ts q.2.tasks q.2.log⟩, (7202, init jobs), ⟨⟨7201, by omega, hg⟩, rfl⟩, ⟨[(3, .k 3), (1, .k 1), (2, .k 2)], ⟨by (try dsimp only); (repeat (refine LeT.cons rfl (by exact LeS.d (by first | exact LeD.u rfl | exact LeD.p rfl)) ?_)); exact LeT.nil, by (try dsimp only); repeat (first | exact LeO.nil | refine LeO.bx rfl rfl (by repeat (first | exact LeL.nil | refine LeL.cons (by exact LeD.u rfl) ?_)) ?_ | refine LeO.fm rfl (by rfl) ?_)⟩⟩, fun ⟨f, s⟩ ⟨⟨M, hM, g⟩, hL⟩ => ?_⟩⟩
    dsimp only at hM g hL ⊢
    obtain ⟨f, rfl⟩ : ∃ f', f = f' + 1 := ⟨f - 1, by omega⟩
    obtain ⟨b1, b2, b3, b4, b5, b6⟩ := s
    have hclk := g.clk
    dsimp only at hclk
    have hs : Small ⟨b1, b2, b3, b4⟩ := ⟨by dsimp only; omega, by dsimp only; omega⟩
    rcases next_spec g.v with ⟨_, hn⟩ | ⟨n, _, _, c', _, hn, _⟩
    · rw [simF, hn] at hL
      dsimp only at hL
      rw [if_neg (by decide)] at hL
      rw [← hL]
      repeat' ((conv => whnf); first | refine Gs.id ?_ | with_reducible refine Brn.T rfl ?_ | refine Rw.lit rfl ?_ | refine Len.mk (by rfl) ?_ | (refine CL.mk (Or.inl ?_); (conv => whnf); refine Cl.is (next_T' _ _ _ _ hs _ _ _ _ _ _ hn) rfl (by first | (intro e; cases e; done)) ?_))
      all_goals (conv => whnf)
      · exact Ret.is rfl
    · rw [simF, hn] at hL
      dsimp only at hL
      rw [if_pos rfl] at hL
      obtain ⟨p1, p2, _⟩ := g.pop hn
      obtain ⟨c1, c2, c3, c4⟩ := c'
      obtain ⟨i, rfl, hi⟩ := alive_lt (p2.pl.al n (by simp))
      obtain ⟨M', m1, m2⟩ := p2.weak.proceed (n := i) hJ
      simp only [Int.toNat_natCast] at hL
      generalize hz : proceedM jobs ((⟨b1, b2, b3, b4, b5, b6⟩ : Sm).put ⟨c1, c2, c3, c4⟩) i = z at hL m2
      obtain ⟨z1, z2, z3, z4, z5, z6⟩ := z
      repeat' ((conv => whnf); first | refine Gs.id ?_ | with_reducible refine Brn.F rfl ?_ | refine Rw.lit rfl ?_ | (refine CL.mk (Or.inl ?_); (conv => whnf); refine Cl.is (next_T' _ _ _ _ hs _ _ _ _ _ _ hn) rfl (by first | (intro e; cases e; done)) ?_) | (refine CL.mk (Or.inr (Raw.callI [1,2] [1,2] rfl rfl rfl rfl rfl rfl rfl (proceed_T jobs hJ c1 c2 c3 c4 b5 b6 i (M - 1) p2 z1 z2 z3 z4 z5 z6 hz _ _ rfl rfl) ?_)); rintro _ _ ⟨rfl, rfl⟩; refine Bk.mk rfl rfl ?_))
      all_goals (conv => whnf)
      · exact ⟨(f, ⟨z1, z2, z3, z4, z5, z6⟩), ⟨⟨M', by dsimp only; omega, m2⟩, hL⟩, by dsimp only; omega, [(3, .k 3), (1, .k 1), (2, .k 2)], ⟨by (try dsimp only); (repeat (refine LeT.cons rfl (by exact LeS.d (by first | exact LeD.u rfl | exact LeD.p rfl)) ?_)); exact LeT.nil, by (try dsimp only); repeat (first | exact LeO.nil | refine LeO.bx rfl rfl (by repeat (first | exact LeL.nil | refine LeL.cons (by exact LeD.u rfl) ?_)) ?_ | refine LeO.fm rfl (by rfl) ?_)⟩⟩
theorem nm_avs (l : List Ac) : Nm (avs l) := .sl fun r hr x hx => by
  obtain ⟨a, _, rfl⟩ := List.mem_map.1 hr
  simp only [Ac.v, List.mem_cons, List.not_mem_nil, or_false] at hx
  rcases hx with rfl | rfl <;> exact .int
theorem nm_jvs (l : List Jb) : Nm (jvs l) := .sl fun r hr x hx => by
  obtain ⟨a, _, rfl⟩ := List.mem_map.1 hr
  simp only [Jb.v, List.mem_cons, List.not_mem_nil, or_false] at hx
  rcases hx with rfl | rfl <;> exact nm_avs _
theorem nm_rcs (l : List Rc) : Nm (.sl 4 (l.map Rc.v)) := .sl fun r hr x hx => by
  obtain ⟨a, _, rfl⟩ := List.mem_map.1 hr
  simp only [Rc.v, List.mem_cons, List.not_mem_nil, or_false] at hx
  rcases hx with rfl | rfl | rfl | rfl <;> exact .int
theorem simulate_ok (jobs : List Jb) (h : (simFault jobs).1 = 0) : CallsA Try.prog 28 [.d (.u (jvs jobs))] [] (Is (.t [.d (.u (.sl 4 ((simM jobs).map Rc.v))), .a (fd (0, 0))])) :=
  (CallsA.hide [(1, 80), (2, 104)] (fun s hs => by simp at hs; subst hs; exact ⟨_, rfl, nm_jvs jobs⟩) (fun s ob ⟨h1, _⟩ => by
    subst h1
    intro s hs
    simp only [List.mem_cons, List.not_mem_nil, or_false] at hs
    rcases hs with rfl | rfl
    · exact ⟨_, rfl, nm_rcs _⟩
    · intro x hx
      simp only [fd, List.mem_cons, List.not_mem_nil, or_false] at hx
      rcases hx with rfl | rfl <;> exact ⟨_, rfl, .int⟩) (simulate_ok0 jobs h)).mono fun s ob ⟨h1, ob0, h2, _⟩ => ⟨h2, h1⟩
end Go.Proofs.Ytgiebofmfkacgaa
namespace Go.Proofs.Ytgiebofmfkacgaa
open Go.RowKit
abbrev simJ : List Jb := [⟨[⟨3, 1⟩, ⟨2, 2⟩, ⟨1, 7⟩], []⟩, ⟨[⟨2, 1⟩, ⟨1, 8⟩], []⟩]
abbrev simL : List Rc := [⟨0, 0, 1, 0⟩, ⟨0, 1, 1, 1⟩, ⟨1, 1, 2, 8⟩, ⟨1, 1, 3, 0⟩, ⟨2, 0, 2, 7⟩, ⟨2, 0, 3, 0⟩]
theorem simJ_ok : (simFault simJ).1 = 0 := by decide +kernel
theorem simJ_M : simM simJ = simL := by kernel_rfl
theorem simJ_T : CallsA Try.prog 28 [.d (.u (.sl 2 [[.sl 2 [[.int .i64 3, .int .i64 1], [.int .i64 2, .int .i64 2], [.int .i64 1, .int .i64 7]], .nl], [.sl 2 [[.int .i64 2, .int .i64 1], [.int .i64 1, .int .i64 8]], .nl]]))] [] (Is (.t [.d (.u (.sl 4 (simL.map Rc.v))), .a (fd (0, 0))])) := by
  have h := simulate_ok simJ simJ_ok
  rw [simJ_M] at h
  exact CallsA.nv (ys := [jvs simJ]) h (.cons (.rows (.cons (.cons .refl (.cons (.nl rfl) .nil)) (.cons (.cons .refl (.cons (.nl rfl) .nil)) .nil))) .nil)
theorem simulated_T : CallsA Try.prog 30 [] [] (Is (db true)) := by
  refine callsA_of_vc (T := tt) Try.func30 rfl rfl rfl rfl rfl ?_
  repeat' ((conv => whnf); first | refine Gs.go (i := 3) ((Ghost.frzA 11 rfl (by repeat ((conv => whnf); first | exact trivial | refine Len.mk (by rfl) ?_))).trans (Ghost.frzA 8 rfl (by repeat ((conv => whnf); first | exact trivial | refine Len.mk (by rfl) ?_)))) ?_ | refine Gs.id ?_ | with_reducible refine Brn.T rfl ?_ | (refine Bnd.mk (fun hm => ?_); (try simp only [smT] at hm)) | refine Ix.map rfl (by (try simp only [smT]); omega) ?_ | refine Eqv.mk (by kernel_rfl) ?_ | (refine CL.mk (Or.inl ?_); (conv => whnf); refine ClO.mk (Or.inr ?_); (repeat ((conv => whnf); refine Len.mk (by rfl) ?_)); (conv => whnf); refine Cl.is (simJ_T) rfl (by first | (intro e; cases e; done)) ?_))
  all_goals (conv => whnf)
  · exact Ret.is (by rfl)
end Go.Proofs.Ytgiebofmfkacgaa
namespace Go.Proofs.Ytgiebofmfkacgaa
def scA (k : Int) (a : Ac) : Ac := ⟨a.kind, if a.kind = 2 then a.n * k else a.n⟩
def scJ (k : Int) (j : Jb) : Jb := ⟨j.acts.map (scA k), j.guard.map (scA k)⟩
def scTm (k : Int) (t : Tm) : Tm := ⟨t.at_ * k, t.ser, t.task⟩
def scC (k : Int) (c : Ck) : Ck := ⟨c.now * k, c.ser, c.rs, c.ts.map (scTm k)⟩
def scK (k : Int) (t : Tsk) : Tsk := { t with left := t.left.map (scA k) }
def scR (k : Int) (r : Rc) : Rc := { r with time := r.time * k }
def scS (k : Int) (s : Sm) : Sm := ⟨s.now * k, s.ser, s.rs, s.ts.map (scTm k), s.tasks.map (scK k), s.log.map (scR k)⟩
section
variable {k : Int} (hk : 0 < k)
include hk
end
section
variable {k : Int} {jobs : List Jb} {s : Sm} {M M' σ σ' n : Nat}
end
end Go.Proofs.Ytgiebofmfkacgaa
namespace Go.Proofs.Ytgiebofmfkacgaa
open Go.RowKit
def mixR (f : Rc → Rc) (l : List Rc) (i : Nat) : List Rc := (l.take i).map f ++ l.drop i
set_option maxHeartbeats 2000000 in
theorem jobsFault_T (jobs : List Jb) : CallsA Try.prog 29 [.d (.u (jvs jobs))] [] (Is (.a (fd (simFault jobs)))) := by
  by_cases h0 : jobs.length = 0
  · have e : simFault jobs = (10, -1) := by simp [simFault, h0]
    rw [e]
    refine callsA_of_vc (T := tt) Try.func29 rfl rfl rfl rfl rfl ?_
    repeat' ((conv => whnf); first | refine Gs.id ?_ | refine Brn.T (by (try simp only [smT]); first | rfl | omega) ?_ | (refine Bnd.mk (fun hm => ?_); (try simp only [smT] at hm)) | (refine CL.mk (Or.inl ?_); (conv => whnf); refine Cl.is (at_T _ _) rfl (by exact fun _ => rfl) ?_))
    all_goals (conv => whnf)
    · exact Ret.is rfl
  · by_cases h6 : 60 < jobs.length
    · have e : simFault jobs = (2, -1) := by simp [simFault, h0, h6]
      rw [e]
      refine callsA_of_vc (T := tt) Try.func29 rfl rfl rfl rfl rfl ?_
      repeat' ((conv => whnf); first | refine Gs.id ?_ | refine Brn.T (by (try simp only [smT]); first | rfl | omega) ?_ | refine Brn.F (by (try simp only [smT]); first | rfl | omega) ?_ | (refine Bnd.mk (fun hm => ?_); (try simp only [smT] at hm)) | (refine CL.mk (Or.inl ?_); (conv => whnf); refine Cl.is (at_T _ _) rfl (by exact fun _ => rfl) ?_))
      all_goals (conv => whnf)
      · exact Ret.is rfl
    · have e : simFault jobs = jobsM jobs.length jobs 0 := by rw [simFault, if_neg h0, if_neg h6]
      rw [e]
      refine callsA_of_vc (T := tt) Try.func29 rfl rfl rfl rfl rfl ?_
      repeat' ((conv => whnf); first | refine Gs.id ?_ | refine Brn.F (by (try simp only [smT]); first | rfl | omega) ?_ | (refine Bnd.mk (fun hm => ?_); (try simp only [smT] at hm)))
      all_goals (conv => whnf)
      refine ⟨⟨Nat, fun i => i ≤ jobs.length ∧ jobsM jobs.length jobs 0 = jobsM jobs.length (jobs.drop i) i, fun i => jobs.length - i, fun i => ⟨[(0, .d (.u (jvs jobs))), (2, .d (.p 2 0)), (3, di i)], [(2, .bx 27 [.u (.int .i64 0), .u (.int .i64 0)])]⟩, 0, ⟨by omega, rfl⟩, ⟨[(2, .k 2)], ⟨by (try dsimp only); (repeat (refine LeT.cons rfl (by exact LeS.d (by first | exact LeD.u rfl | exact LeD.p rfl)) ?_)); exact LeT.nil, by (try dsimp only); repeat (first | exact LeO.nil | refine LeO.bx rfl rfl (by repeat (first | exact LeL.nil | refine LeL.cons (by exact LeD.u rfl) ?_)) ?_)⟩⟩, fun i ⟨hi, he⟩ => ?_⟩⟩
      dsimp only
      by_cases h9 : i < jobs.length
      · rw [he, jobsM_step _ _ _ h9]
        have hrow : ∀ {K : List V → Prop}, K (jobs[i]).v → Ix (jobs.map Jb.v) (i : Int) K := fun k => Ix.map rfl h9 k
        generalize jobs[i] = j at hrow ⊢
        obtain ⟨acts, guard⟩ := j
        by_cases hl : 30 < acts.length ∨ 30 < guard.length
        · have e2 : checkJobM ⟨acts, guard⟩ jobs.length = 2 := by simp only [checkJobM]; rw [if_pos hl]
          rw [e2, if_pos (by decide)]
          repeat' ((conv => whnf); first | refine hrow ?_ | refine Gs.id ?_ | with_reducible refine Brn.T rfl ?_ | refine Brn.T (by (try simp only [smT]); first | rfl | assumption | omega) ?_ | refine Brn.F (by (try simp only [smT]); first | rfl | assumption) ?_ | (refine Brn.mk (fun hb => ?_) (fun hb => ?_) <;> (try simp only [smT] at hb) <;> (try (exact absurd trivial hb)) <;> (try (exfalso; omega))) | (refine Bnd.mk (fun hm => ?_); (try simp only [smT] at hm)) | (refine CL.mk (Or.inl ?_); (conv => whnf); refine Cl.is (at_T _ _) rfl (by exact fun _ => rfl) ?_))
          all_goals (conv => whnf)
          all_goals exact Ret.is rfl
        · have e2 : checkJobM ⟨acts, guard⟩ jobs.length = firstBad jobs.length (acts ++ guard) := by simp only [checkJobM]; rw [if_neg hl]
          rw [e2]
          repeat' ((conv => whnf); first | refine hrow ?_ | refine Gs.id ?_ | refine Brn.T (by (try simp only [smT]); first | rfl | omega) ?_ | refine Brn.F (by (try simp only [smT]); first | rfl | omega) ?_ | (refine Bnd.mk (fun hm => ?_); (try simp only [smT] at hm)) | refine Apd.mk (by rfl) (by rfl) (by (try simp only [smT]); omega) (by unfold maxLen; first | (simp; omega)) ?_ | refine Drw.ofF (T := tt) (i := 10) [6, 12, 13] [7, 8, 9, 10, 11] [(1, true), (2, true), (3, true), (4, true), (5, true), (7, true), (8, true), (9, true), (10, true), (11, true), (0, false), (6, false), (12, false), (13, false)] (by kernel_rfl) ?_)
          all_goals (conv => whnf)
          have ha : acts.length ≤ 30 := by omega
          have hg : guard.length ≤ 30 := by omega
          clear hrow e2 he
          generalize hX : jobsM jobs.length (jobs.drop (i + 1)) (i + 1) = X
          have hLl : (acts ++ guard).length = acts.length + guard.length := by simp
          refine ⟨⟨Nat, fun q => q ≤ (acts ++ guard).length ∧ firstBad jobs.length (acts ++ guard) = firstBad jobs.length ((acts ++ guard).drop q), fun q => (acts ++ guard).length - q, fun q => ⟨[(0, .d (.u (jvs jobs))), (2, .d (.p 2 0)), (3, di i), (4, .d (.ow 51 (acts ++ guard).length)), (5, di q)], [aar 51 (acts ++ guard), (2, .bx 27 [.u (.int .i64 0), .u (.int .i64 0)])]⟩, 0, ⟨by omega, rfl⟩, ⟨[(51, .k 51), (2, .k 2)], ⟨by (try dsimp only); (repeat (refine LeT.cons rfl (by exact LeS.d (by first | exact LeD.u rfl | exact LeD.p rfl | exact LeD.ow rfl (by simp))) ?_)); exact LeT.nil, by (try dsimp only); repeat (first | exact LeO.nil | refine LeO.bx rfl rfl (by repeat (first | exact LeL.nil | refine LeL.cons (by exact LeD.u rfl) ?_)) ?_ | refine LeO.ar rfl rfl (by first | simp) ?_)⟩⟩, fun q ⟨hq, hf⟩ => ?_⟩⟩
          dsimp only
          generalize acts ++ guard = L at *
          by_cases h10 : q < L.length
          · rw [hf, List.drop_eq_getElem_cons h10, firstBad]
            have hrw : ∀ {K : List V → Prop}, K (L[q]).v → Ix (L.map Ac.v) (q : Int) K := fun k => Ix.map rfl h10 k
            repeat' ((conv => whnf); first | refine Gs.id ?_ | with_reducible refine Brn.F rfl ?_ | refine Brn.T (by (try simp only [smT]); first | rfl | assumption | omega) ?_ | refine Brn.F (by (try simp only [smT]); first | rfl | assumption) ?_ | (refine Brn.mk (fun hb => ?_) (fun hb => ?_) <;> (try simp only [smT] at hb) <;> (try (exact absurd trivial hb)) <;> (try (exfalso; omega))) | (refine Bnd.mk (fun hm => ?_); (try simp only [smT] at hm)) | refine Rng.mk (by (try simp only [smT]); omega) ?_ | refine Ixo.mk ⟨_, rfl, (by (try simp only [smT]); omega), ?_⟩ | refine Rw.map (by (try simp only [smT]); omega) ?_ | (refine CL.mk (Or.inl ?_); (conv => whnf); first | refine Cl.is (at_T _ _) rfl (by exact fun _ => rfl) ?_ | refine Cl.is (in_T _ _ _) rfl (by exact fun _ => rfl) ?_))
            all_goals (conv => whnf)
            all_goals first
              | (have hc : checkM (L[q]).kind (L[q]).n jobs.length = 0 := by clear hf hX hrw; simp_all [checkM, rangeM, inB] <;> omega
                 rw [hc]
                 exact ⟨q + 1, ⟨by omega, by simp⟩, by omega, [(51, .k 51), (2, .k 2)], ⟨by (try dsimp only); (repeat (refine LeT.cons rfl (by exact LeS.d (by first | exact LeD.u rfl | exact LeD.p rfl | exact LeD.ow rfl rfl)) ?_)); exact LeT.nil, by (try dsimp only); repeat (first | exact LeO.nil | refine LeO.bx rfl rfl (by repeat (first | exact LeL.nil | refine LeL.cons (by exact LeD.u rfl) ?_)) ?_ | refine LeO.ar rfl rfl (by rfl) ?_)⟩⟩)
              | (have hc : checkM (L[q]).kind (L[q]).n jobs.length = 4 := by simp_all [checkM, rangeM, inB]
                 rw [hc]; exact Ret.is rfl)
              | (have hc : checkM (L[q]).kind (L[q]).n jobs.length = 5 := by simp_all [checkM, rangeM, inB]
                 rw [hc]; exact Ret.is rfl)
          · obtain rfl : q = L.length := by omega
            rw [hf, List.drop_length, firstBad]
            repeat' ((conv => whnf); first | refine Gs.id ?_ | refine Brn.F (by (try simp only [smT]); first | rfl | omega) ?_ | (refine Bnd.mk (fun hm => ?_); (try simp only [smT] at hm)) | refine Rng.mk (by (try simp only [smT]); omega) ?_)
            all_goals (conv => whnf)
            · exact ⟨i + 1, ⟨by omega, by simpa using hX.symm⟩, by omega, [(2, .k 2)], ⟨by (try dsimp only); (repeat (refine LeT.cons rfl (by exact LeS.d (by first | exact LeD.u rfl | exact LeD.p rfl)) ?_)); exact LeT.nil, by (try dsimp only); repeat (first | exact LeO.nil | refine LeO.bx rfl rfl (by repeat (first | exact LeL.nil | refine LeL.cons (by exact LeD.u rfl) ?_)) ?_)⟩⟩
      · obtain rfl : i = jobs.length := by omega
        rw [he, List.drop_length, jobsM]
        repeat' ((conv => whnf); first | refine Gs.id ?_ | refine Brn.F (by (try simp only [smT]); first | rfl | omega) ?_ | (refine Bnd.mk (fun hm => ?_); (try simp only [smT] at hm)) | (refine CL.mk (Or.inl ?_); (conv => whnf); refine Cl.is (at_T _ _) rfl (by exact fun _ => rfl) ?_))
        all_goals (conv => whnf)
        · exact Ret.is rfl
end Go.Proofs.Ytgiebofmfkacgaa
namespace Go.Proofs.Ytgiebofmfkacgaa
open Go.RowKit
set_option maxHeartbeats 4000000 in
theorem law_sim_T (jobs : List Jb) : CallsA Try.prog 8 [.d (.u (jvs jobs))] [] (Is (db true)) := by
  have hj := jobsFault_T jobs
  by_cases h : (simFault jobs).1 = 0
  · have hs := simulate_ok jobs h
    have hr := simulated_R jobs (simFault_ok h)
    generalize simFault jobs = c at hj h
    obtain ⟨c, p⟩ := c
    dsimp only at h
    subst h
    generalize simM jobs = L at *
    refine callsA_of_vc (T := tt) Try.func8 rfl rfl rfl rfl rfl ?_
    repeat' ((conv => whnf); first | refine Gs.id ?_ | with_reducible refine Brn.F rfl ?_ | (refine Brn.mk (fun hb => ?_) (fun hb => ?_) <;> (try simp only [smT] at hb) <;> (try (exact absurd trivial hb)) <;> (try (exfalso; omega))) | (refine Bnd.mk (fun hm => ?_); (try simp only [smT] at hm)) | (refine CL.mk (Or.inl ?_); (conv => whnf); first | refine Cl.is (hs) rfl (by first | (intro e; cases e; done)) ?_ | refine Cl.is (hj) rfl (by exact fun _ => rfl) ?_) | (refine CL.mk (Or.inr (Raw.callI [] [902] rfl rfl rfl rfl rfl rfl rfl (hr) ?_)); rintro _ _ ⟨rfl, rfl⟩; refine Bk.mk rfl rfl ?_))
    all_goals (conv => whnf)
    refine ⟨⟨Nat, fun i => i ≤ L.length, fun i => L.length - i, fun i => ⟨[(3, .d (.u (.sl 4 (L.map Rc.v)))), (6, .d (.ow 902 L.length)), (7, di i)], [(902, .ar 55 4 (L.map Rc.v))]⟩, 0, Nat.zero_le _, ⟨[(902, .k 902)], ⟨by (try dsimp only); (repeat (refine LeT.cons rfl (by exact LeS.d (by first | exact LeD.u rfl | exact LeD.ow rfl rfl)) ?_)); exact LeT.nil, by (try dsimp only); repeat (first | exact LeO.nil | refine LeO.ar rfl rfl (by rfl) ?_)⟩⟩, fun i hi => ?_⟩⟩
    dsimp only at hi ⊢
    by_cases h9 : i < L.length
    · have hrow : ∀ {K : List V → Prop}, K (L[i]).v → Ix (L.map Rc.v) (i : Int) K := fun k => Ix.map rfl h9 k
      have hrw : ∀ {K : List V → Prop}, K (L[i]).v → Rw (L.map Rc.v) i K := fun k => Rw.map h9 k
      generalize L[i] = r at hrow hrw
      obtain ⟨r1, r2, r3, r4⟩ := r
      repeat' ((conv => whnf); first | refine hrow ?_ | refine Ixo.mk ⟨i, rfl, h9, ?_⟩ | refine hrw ?_ | refine Gs.id ?_ | refine Brn.T (by (try simp only [smT]); first | rfl | omega) ?_ | refine Brn.F (by (try simp only [smT]); first | rfl | (simp [*]; done)) ?_ | (refine Bnd.mk (fun hm => ?_); (try simp only [smT] at hm)) | refine Rng.mk (by (try simp only [smT]); omega) ?_ | refine Eqv.mk (by kernel_rfl) ?_ | refine Drw.of (T := tt) (i := 11) [] [] [(0, true), (1, true), (2, true), (3, true), (4, true), (5, true), (6, true), (7, true), (8, true)] (by kernel_rfl) ?_)
      all_goals (conv => whnf)
      all_goals exact ⟨i + 1, by omega, by omega, [(902, .k 902)], ⟨by (try dsimp only); (repeat (refine LeT.cons rfl (by exact LeS.d (by first | exact LeD.u rfl | exact LeD.ow rfl rfl)) ?_)); exact LeT.nil, by (try dsimp only); repeat (first | exact LeO.nil | refine LeO.ar rfl rfl (by rfl) ?_)⟩⟩
    · obtain rfl : i = L.length := by omega
      repeat' ((conv => whnf); first | refine Gs.id ?_ | refine Brn.F (by (try simp only [smT]); first | rfl | omega) ?_ | (refine Bnd.mk (fun hm => ?_); (try simp only [smT] at hm)) | (refine CL.mk (Or.inl ?_); (conv => whnf); refine Cl.is (simulated_T) rfl (by exact fun _ => rfl) ?_))
      all_goals (conv => whnf)
      all_goals exact Ret.is rfl
  · have hs := simulate_bad jobs h
    generalize simFault jobs = c at hj h hs
    obtain ⟨c, p⟩ := c
    dsimp only at h
    refine callsA_of_vc (T := tt) Try.func8 rfl rfl rfl rfl rfl ?_
    repeat' ((conv => whnf); first | refine Gs.id ?_ | with_reducible refine Brn.T rfl ?_ | refine Brn.T (by (try simp only [smT]); first | rfl | assumption | (simp [*]; done)) ?_ | refine Eqv.mk (by kernel_rfl) ?_ | (refine CL.mk (Or.inl ?_); (conv => whnf); first | refine Cl.is (hs) rfl (by exact fun _ => rfl) ?_ | refine Cl.is (hj) rfl (by exact fun _ => rfl) ?_ | refine Cl.is (simulated_T) rfl (by exact fun _ => rfl) ?_))
    all_goals (conv => whnf)
    all_goals exact Ret.is rfl
end Go.Proofs.Ytgiebofmfkacgaa
namespace Go.Proofs.Ytgiebofmfkacgaa
open Go.ChangeShapes Go.WideShapes Go.Deep

section
variable {H : Type} {enc : TypeId × Value → H} {P : Program} {w : World} {base : Nat} {spare : Nat → Bool} {held : Bool}

theorem cell_lt {p : Addr} {v : Value} (h : w.cell? p = some v) : p.block < w.heap.size := by
  by_cases hl : p.block < w.heap.size
  · exact hl
  · have : w.heap[p.block]? = none := by simp; omega
    simp [World.cell?, this] at h

end

section
variable {H : Type} {P : Program} {ts : List TypeId} {ds : List (DataW H)}
/-- What a field of a struct weighs is weighed. -/
theorem weights_field {t u : TypeId} {fs : Array Field} {parts : List (DataW H)} {j : Nat} {d : DataW H} (hu : P.underlying t = some (.struct fs)) (hf : (fs.toList.map (·.type))[j]? = some u) (hd : parts[j]? = some d) {n : Nat} (hn : n ∈ d.weights P u) : n ∈ (DataW.agg parts).weights P t := by
  simp only [DataW.weights, hu]
  exact DataW.weights_mem_each hf hd n hn
theorem weights_slice {t e : TypeId} {el sp : List (DataW H)} (hu : P.underlying t = some (.slice e)) : (el.length + sp.length) * P.bytesOf e ∈ (DataW.slice el sp).weights P t := by
  simp [DataW.weights, hu]
theorem weights_le (h : (DataW.weightsEach P ts ds).all (· ≤ reachBytes) = true) {j : Nat} {t : TypeId} {d : DataW H} (ht : ts[j]? = some t) (hd : ds[j]? = some d) {n : Nat} (hn : n ∈ d.weights P t) : n ≤ 140737488351232 := by
  have := List.all_eq_true.1 h _ (DataW.weights_mem_each ht hd n hn)
  have h2 := of_decide_eq_true this
  exact h2
end
end Go.Proofs.Ytgiebofmfkacgaa
namespace Go.Proofs.Ytgiebofmfkacgaa
open Go.ChangeShapes Go.WideShapes Go.Deep Go.RowKit
/-- What a cell of an argument is. -/
inductive Sh where
  | int (k : IntKind)
  | bool
  | str
  | sl (by_ : Nat) (e : List Sh)
abbrev bigB : Nat := 140737488351232
inductive HasSh : Sh → V → Prop
  | int {k : IntKind} {n : Int} (h : (Lit.int k n).wf = true) : HasSh (.int k) (.int k n)
  | bool {b : Bool} : HasSh .bool (.bool b)
  | str {s : ByteArray} (h : s.size ≤ bigB) : HasSh .str (.str s)
  | sl {by_ sz : Nat} {e : List Sh} {rs : List (List V)} (hl : rs.length * by_ ≤ bigB) (hm : rs.length ≤ maxLen) (hs : sz = e.length) (hr : ∀ r ∈ rs, r.length = sz) (h : ∀ r ∈ rs, ∀ (j : Nat) s x, e[j]? = some s → r[j]? = some x → HasSh s x) : HasSh (.sl by_ e) (.sl sz rs)
/-- Cells. -/
structure HasL (e : List Sh) (r : List V) : Prop where
  len : r.length = e.length
  has : ∀ (j : Nat) s x, e[j]? = some s → r[j]? = some x → HasSh s x
theorem HasL.nil : HasL [] [] := ⟨rfl, fun _ _ _ h => by simp at h⟩
theorem HasL.app {e f : List Sh} {r q : List V} (h : HasL e r) (k : HasL f q) : HasL (e ++ f) (r ++ q) := ⟨by simp [h.len, k.len], fun j s x h1 h2 => by
  by_cases hj : j < e.length
  · rw [List.getElem?_append_left hj] at h1
    rw [List.getElem?_append_left (by rw [h.len]; exact hj)] at h2
    exact h.has j s x h1 h2
  · rw [List.getElem?_append_right (by omega)] at h1
    rw [List.getElem?_append_right (by rw [h.len]; omega), h.len] at h2
    exact k.has _ s x h1 h2⟩
theorem HasL.one {s : Sh} {x : V} (h : HasSh s x) : HasL [s] [x] := ⟨rfl, fun j a b h1 h2 => by
  cases j with
  | zero => simp at h1 h2; subst h1 h2; exact h
  | succ j => simp at h1⟩
theorem HasL.cons_inv {s : Sh} {e : List Sh} {r : List V} (h : HasL (s :: e) r) : ∃ x q, r = x :: q ∧ HasSh s x ∧ HasL e q := by
  cases r with
  | nil => have := h.len; simp at this
  | cons x q => exact ⟨x, q, rfl, h.has 0 s x rfl rfl, by have := h.len; simpa using this, fun j a b h1 h2 => h.has (j + 1) a b (by simpa using h1) (by simpa using h2)⟩
theorem HasL.nil_inv {r : List V} (h : HasL [] r) : r = [] := List.eq_nil_of_length_eq_zero h.len
theorem rows_of {α β : Type} {f : α → β} : ∀ {rs : List β}, (∀ r ∈ rs, ∃ a, r = f a) → ∃ l : List α, rs = l.map f
  | [], _ => ⟨[], rfl⟩
  | r :: rs, h => by
    obtain ⟨a, rfl⟩ := h r (by simp)
    obtain ⟨l, rfl⟩ := rows_of (rs := rs) fun q hq => h q (by simp [hq])
    exact ⟨a :: l, rfl⟩
def shFs (g : Nat → Option (List Sh)) : List (Nat × TypeId) → Nat → Option (List Sh)
  | [], _ => some []
  | (off, t) :: r, o => bif Nat.beq off o then match g t with
      | none => none
      | some l => match shFs g r (o + l.length) with
        | none => none
        | some m => some (l ++ m)
    else none
/-- The shape of a type. -/
def shT (T : List (Nat × Ty)) : Nat → Nat → Option (List Sh)
  | 0, _ => none
  | f + 1, t => match lk t T with
    | none => none
    | some i => match i.k with
      | .in_ k => bif Nat.beq i.size 1 then some [.int k] else none
      | .bo => bif Nat.beq i.size 1 then some [.bool] else none
      | .sr => bif Nat.beq i.size 1 then some [.str] else none
      | .sl e => match lk e T with
        | none => none
        | some j => match shT T f e with
          | none => none
          | some l => bif Nat.beq l.length j.size && (Nat.blt 0 j.size && Nat.beq i.size 1) then some [.sl j.bytes l] else none
      | .st fs => match shFs (shT T f) fs 0 with
        | none => none
        | some l => bif Nat.beq l.length i.size then some l else none
      | _ => none
section
variable {H : Type} {enc : TypeId × Value → H} {P : Program} {T : List (Nat × Ty)} [hT : Tys P T] {w : World} {base : Nat} {spare : Nat → Bool} {held : Bool}
abbrev zW (w : World) : Fz := ⟨⟨fun b => b < w.heap.size, fun _ => [], fun _ => True⟩, w⟩
omit hT in
theorem weightsAll_mem {e : TypeId} : ∀ {ds : List (DataW H)} {d : DataW H}, d ∈ ds → ∀ m ∈ d.weights P e, m ∈ DataW.weightsAll P e ds
  | x :: r, d, h, m, hm => by
    simp only [DataW.weightsAll, List.mem_append]
    rcases List.mem_cons.1 h with rfl | h
    · exact .inl hm
    · exact .inr (weightsAll_mem h m hm)
/-- What a cell reader of type t tells. -/
def Opn (enc : TypeId × Value → H) (P : Program) (w : World) (base : Nat) (spare : Nat → Bool) (held : Bool) (t : TypeId) (sh : List Sh) : Prop :=
  ∀ (n : Nat) (cs : List Value) (y : DataW H × List MemPlace), DataW.trod enc P w base spare held n t cs = some y → (∀ m ∈ y.1.weights P t, m ≤ bigB) → ∃ xs : List V, HasL sh xs ∧ DenVL (zW w) xs cs
theorem opn_slice {t e : TypeId} {l : List Sh} {i j : Ty} (ht : lk t T = some i) (hi : i.k = .sl e) (hj : lk e T = some j) (hl : l.length = j.size) (hp : 0 < j.size) (ih : Opn enc P w base spare held e l) : Opn enc P w base spare held t [.sl j.bytes l] := by
  intro n cs y h hw
  have ku := (hT.ok t i ht).kind
  rw [hi] at ku
  have ku : P.underlying t = some (.slice e) := ku
  obtain ⟨f, z, q1, q2, q3, _⟩ := (hT.ok e j hj).info
  have hC : P.cellsOf e = j.size := by simp [Program.cellsOf, q1, q2]
  have hBy : P.bytesOf e = j.bytes := by simp [Program.bytesOf, q1, q3]
  rcases open_slice ku h with ⟨rfl, rfl⟩ | ⟨a, len, cap, k, n', D, Pl, rfl, hb, hlc, hmx, hk, hx, hcell⟩
  · exact ⟨[.sl j.size []], .one (.sl (by simp) (by simp) (by rw [hl]) (by simp) (by simp)), ⟨rfl, rfl, fun m d u e1 e2 => by
      cases m with
      | zero => simp at e1 e2; subst e1 e2; exact .sl (b := 0) (o := 0) [] rfl (Nat.le_refl _) (Nat.zero_le _) (by simp) (fun h => absurd rfl h) rfl (by simp) rfl (by simp)
      | succ m => simp at e1⟩⟩
  · have hlk : len ≤ k := by rw [hk]; split <;> omega
    have hwt : (((List.range len).map D).length + ((List.range (k - len)).map fun j => D (len + j)).length) * P.bytesOf e ≤ bigB := hw _ (by rw [hx]; exact weights_slice ku)
    have hwe : ∀ i, i < len → ∀ m ∈ (D i).weights P e, m ≤ bigB := fun i hi m hm => hw m (by
      rw [hx]
      simp only [DataW.weights, ku, List.mem_cons, List.mem_append]
      exact .inr (.inl (weightsAll_mem (List.mem_map.2 ⟨i, List.mem_range.2 hi, rfl⟩) m hm)))
    have hE : ∀ i, i < len → ∃ (xs : List V) (cs : List Value), HasL l xs ∧ DenVL (zW w) xs cs ∧ ∀ m, m < j.size → w.cell? (a.add (i * j.size + m)) = cs[m]? := by
      intro i hil
      obtain ⟨cs', hc, ht'⟩ := hcell i (by omega)
      obtain ⟨xs, h1, h2⟩ := ih _ _ _ ht' (hwe i hil)
      rw [hC] at hc
      obtain ⟨_, hcl, hat⟩ := World.cells?_some hc
      exact ⟨xs, cs', h1, h2, fun m hm => by rw [← add_of_add]; exact hat m hm⟩
    have hL : ∀ k, k ≤ len → ∃ (rs : List (List V)) (us : List Value), rs.length = k ∧ (∀ r ∈ rs, HasL l r) ∧ DenVL (zW w) rs.flatten us ∧ us.length = k * j.size ∧ ∀ m u, us[m]? = some u → w.cell? (a.add m) = some u := by
      intro k
      induction k with
      | zero => intro _; exact ⟨[], [], rfl, by simp, .nil, by simp, by simp⟩
      | succ k ihk =>
        intro hk
        obtain ⟨rs, us, h1, h2, h3, h4, h5⟩ := ihk (by omega)
        obtain ⟨xs, cs, g1, g2, g3⟩ := hE k (by omega)
        have gl : cs.length = j.size := by rw [g2.len, g1.len, hl]
        refine ⟨rs ++ [xs], us ++ cs, by simp [h1], fun r hr => ?_, by rw [List.flatten_append]; simpa using h3.app g2, by rw [List.length_append, h4, gl, Nat.add_mul, Nat.one_mul], fun m u hu => ?_⟩
        · rcases List.mem_append.1 hr with hr | hr
          · exact h2 r hr
          · rw [List.mem_singleton.1 hr]; exact g1
        · by_cases hm : m < k * j.size
          · rw [List.getElem?_append_left (by omega)] at hu
            exact h5 m u hu
          · rw [List.getElem?_append_right (by omega), h4] at hu
            have hlt : m - k * j.size < j.size := by have := (List.getElem?_eq_some_iff.1 hu).1; omega
            have := g3 _ hlt
            rw [show k * j.size + (m - k * j.size) = m by omega] at this
            rw [this, hu]
    obtain ⟨rs, us, h1, h2, h3, h4, h5⟩ := hL len (Nat.le_refl _)
    have hlen : len * j.bytes ≤ bigB := by
      simp only [List.length_map, List.length_range, hBy] at hwt
      exact Nat.le_trans (Nat.mul_le_mul_right _ (Nat.le_add_right _ _)) hwt
    have hr : ∀ r ∈ rs, r.length = j.size := fun r hr => by rw [(h2 r hr).len, hl]
    refine ⟨[.sl j.size rs], .one (.sl (by rw [h1]; exact hlen) (by omega) hl.symm hr (fun r hr => (h2 r hr).has)), ⟨rfl, rfl, fun m d u e1 e2 => ?_⟩⟩
    cases m with
    | succ m => simp at e1
    | zero =>
      simp at e1 e2
      subst e1 e2
      by_cases hrs : rs = []
      · subst hrs
        have : len = 0 := by simpa using h1.symm
        subst this
        exact .sl (b := 0) (o := 0) [] rfl (Nat.zero_le _) (Nat.zero_le _) hr (fun h => absurd rfl h) rfl (by simp) rfl (by simp)
      · have hus : 0 < us.length := by
          rw [h4]
          have : 0 < len := by rw [← h1]; exact List.length_pos_iff.2 hrs
          exact Nat.mul_pos this hp
        obtain ⟨b, off, spot⟩ := a
        have hc0 := h5 0 _ (List.getElem?_eq_getElem hus)
        have hspot : spot = none := by simpa [Addr.add] using World.cell?_spot hc0
        subst hspot
        have hlt := cell_lt hc0
        refine .sl (b := b) (o := off) us h1 hlc (by omega) hr (fun _ => ⟨rfl, by simpa [block_of_add] using hlt⟩) h3.len (fun m u hu => ?_) h3.one h3.den
        have := h5 m u hu
        rwa [add_plain] at this
theorem opn_struct {t : TypeId} {g : Nat → Option (List Sh)} {fs : List (Nat × TypeId)} {sh : List Sh} {i : Ty} (ht : lk t T = some i) (hi : i.k = .st fs) (hs : shFs g fs 0 = some sh) (hl : sh.length = i.size) (ih : ∀ u l, g u = some l → Opn enc P w base spare held u l) (hg : ∀ u l, g u = some l → P.cellsOf u = l.length) : Opn enc P w base spare held t sh := by
  intro n cs y h hw
  have ku := (hT.ok t i ht).kind
  rw [hi] at ku
  obtain ⟨fields, k1, k2⟩ := ku
  obtain ⟨f, z, q1, q2, _⟩ := (hT.ok t i ht).info
  have hC : P.cellsOf t = i.size := by simp [Program.cellsOf, q1, q2]
  obtain ⟨xs, n', _, rfl, hcl, hxl, hf⟩ := DataW.trod_struct k1 h
  rw [hC] at hcl
  have hwf : ∀ (m : Nat) (fd : Field) (x : DataW H × List MemPlace), fields[m]? = some fd → xs[m]? = some x → ∀ q ∈ x.1.weights P fd.type, q ≤ bigB := fun m fd x e1 e2 q hq => hw q (weights_field (j := m) k1 (by rw [List.getElem?_map, Array.getElem?_toList, e1]; rfl) (by rw [List.getElem?_map, e2]; rfl) hq)
  have key : ∀ (l : List (Nat × TypeId)) (m o : Nat) (sh : List Sh), (∀ (q : Nat) p, l[q]? = some p → fs[m + q]? = some p) → shFs g l o = some sh → ∃ vs : List V, HasL sh vs ∧ ((o + sh.length ≤ cs.length) → DenVL (zW w) vs ((cs.drop o).take sh.length)) := by
    intro l
    induction l with
    | nil => intro m o sh _ hs; simp [shFs] at hs; subst hs; exact ⟨[], .nil, fun _ => by simpa using DenVL.nil⟩
    | cons p r ihl =>
      intro m o sh hp hs
      obtain ⟨off, u⟩ := p
      simp only [shFs] at hs
      cases hb : Nat.beq off o <;> rw [hb] at hs
      · cases hs
      · simp only [cond_true] at hs
        have := Nat.eq_of_beq_eq_true hb
        subst this
        cases hgu : g u with
        | none => simp only [hgu] at hs; cases hs
        | some l1 =>
          simp only [hgu] at hs
          cases hr : shFs g r (off + l1.length) with
          | none => simp only [hr] at hs; cases hs
          | some l2 =>
            simp only [hr] at hs
            injection hs with hs
            subst hs
            obtain ⟨vs, v1, v2⟩ := ihl (m + 1) _ l2 (fun q p hq => by have := hp (q + 1) p (by simpa using hq); rwa [show m + (q + 1) = m + 1 + q by omega] at this) hr
            have hfs := hp 0 (off, u) rfl
            rw [Nat.add_zero, ← k2, List.getElem?_map] at hfs
            cases hfd : fields.toList[m]? with
            | none => rw [hfd] at hfs; cases hfs
            | some fd =>
              rw [hfd] at hfs
              simp only [Option.map_some, Option.some.injEq, Prod.mk.injEq] at hfs
              obtain ⟨e1, e2⟩ := hfs
              rw [Array.getElem?_toList] at hfd
              have hrd := hf m fd hfd
              rw [e1, e2, hg u l1 hgu] at hrd
              have hmx : m < xs.length := by rw [hxl]; exact (Array.getElem?_eq_some_iff.1 hfd).1
              have hxm := List.getElem?_eq_getElem hmx
              rw [hxm] at hrd
              have hww := hwf m fd _ hfd hxm
              rw [e2] at hww
              obtain ⟨ws, w1, w2⟩ := ih u l1 hgu _ _ _ hrd hww
              refine ⟨ws ++ vs, w1.app v1, fun ho => ?_⟩
              simp only [List.length_append] at ho
              have h2 := v2 (by omega)
              have hsp : (cs.drop off).take (l1 ++ l2).length = (cs.drop off).take l1.length ++ (cs.drop (off + l1.length)).take l2.length := by
                rw [List.length_append, List.take_add, List.drop_drop]
              rw [hsp]
              exact w2.app h2
  obtain ⟨vs, v1, v2⟩ := key fs 0 0 sh (fun q p h => by rwa [Nat.zero_add]) hs
  refine ⟨vs, v1, ?_⟩
  have := v2 (by omega)
  rwa [List.drop_zero, List.take_of_length_le (by omega)] at this
omit hT in
theorem den_one {x : V} {v : Value} (h : DenV (zW w) x v) : DenVL (zW w) [x] [v] := ⟨rfl, by simp [h.one], fun m d u e1 e2 => by
  cases m with
  | zero => simp at e1 e2; subst e1 e2; exact h
  | succ m => simp at e1⟩
theorem shT_cells : ∀ {f t : Nat} {sh : List Sh}, shT T f t = some sh → P.cellsOf t = sh.length
  | 0, t, sh, h => by cases h
  | f + 1, t, sh, h => by
    simp only [shT] at h
    cases ht : lk t T with
    | none => rw [ht] at h; cases h
    | some i =>
      rw [ht] at h
      simp only at h
      obtain ⟨q, z, q1, q2, _⟩ := (hT.ok t i ht).info
      have hC : P.cellsOf t = i.size := by simp [Program.cellsOf, q1, q2]
      rw [hC]
      split at h
      · cases hb : Nat.beq i.size 1 <;> rw [hb] at h
        · cases h
        · injection h with h; subst h; exact Nat.eq_of_beq_eq_true hb
      · cases hb : Nat.beq i.size 1 <;> rw [hb] at h
        · cases h
        · injection h with h; subst h; exact Nat.eq_of_beq_eq_true hb
      · cases hb : Nat.beq i.size 1 <;> rw [hb] at h
        · cases h
        · injection h with h; subst h; exact Nat.eq_of_beq_eq_true hb
      · rename_i e hk
        split at h
        · cases h
        · rename_i j hj
          split at h
          · cases h
          · rename_i l hl
            cases hb : (Nat.beq l.length j.size && (Nat.blt 0 j.size && Nat.beq i.size 1)) <;> rw [hb] at h
            · cases h
            · injection h with h; subst h
              simp only [Bool.and_eq_true] at hb
              exact Nat.eq_of_beq_eq_true hb.2.2
      · split at h
        · cases h
        · rename_i l hl
          cases hb : Nat.beq l.length i.size <;> rw [hb] at h
          · cases h
          · injection h with h; subst h; exact (Nat.eq_of_beq_eq_true hb).symm
      · cases h
/-- An argument of a readable type is a tree of its shape. -/
theorem opn : ∀ {f t : Nat} {sh : List Sh}, shT T f t = some sh → Opn enc P w base spare held t sh
  | 0, t, sh, h => by cases h
  | f + 1, t, sh, h => by
    simp only [shT] at h
    cases ht : lk t T with
    | none => rw [ht] at h; cases h
    | some i =>
      rw [ht] at h
      simp only at h
      split at h
      · rename_i k hk
        cases hb : Nat.beq i.size 1 <;> rw [hb] at h
        · cases h
        · injection h with h; subst h
          have ku := (hT.ok t i ht).kind
          rw [hk] at ku
          have ku : P.underlying t = some (.int k) := ku
          intro n cs y hy _
          obtain ⟨z, rfl, _, hz⟩ := DataW.trod_int ku hy
          exact ⟨[.int k z], .one (.int hz), den_one (.int _ _)⟩
      · rename_i hk
        cases hb : Nat.beq i.size 1 <;> rw [hb] at h
        · cases h
        · injection h with h; subst h
          have ku := (hT.ok t i ht).kind
          rw [hk] at ku
          have ku : P.underlying t = some .bool := ku
          intro n cs y hy _
          obtain ⟨z, rfl, _⟩ := DataW.trod_bool ku hy
          exact ⟨[.bool z], .one .bool, den_one (.bool _)⟩
      · rename_i hk
        cases hb : Nat.beq i.size 1 <;> rw [hb] at h
        · cases h
        · injection h with h; subst h
          have ku := (hT.ok t i ht).kind
          rw [hk] at ku
          have ku : P.underlying t = some .string := ku
          intro n cs y hy hw
          obtain ⟨z, rfl, rfl, hz⟩ := DataW.trod_string ku hy
          have := hw z.data.toList.length (show _ ∈ [z.data.toList.length] from List.mem_singleton.2 rfl)
          have e : z.data.toList.length = z.size := Array.length_toList
          rw [e] at this
          exact ⟨[.str z], .one (.str this), den_one (.str _ hz)⟩
      · rename_i e hk
        split at h
        · cases h
        · rename_i j hj
          split at h
          · cases h
          · rename_i l hl
            cases hb : (Nat.beq l.length j.size && (Nat.blt 0 j.size && Nat.beq i.size 1)) <;> rw [hb] at h
            · cases h
            · injection h with h; subst h
              simp only [Bool.and_eq_true] at hb
              exact opn_slice ht hk hj (Nat.eq_of_beq_eq_true hb.1) (by simpa [Nat.blt_eq] using hb.2.1) (opn hl)
      · rename_i fs hk
        split at h
        · cases h
        · rename_i l hl
          cases hb : Nat.beq l.length i.size <;> rw [hb] at h
          · cases h
          · injection h with h; subst h
            exact opn_struct ht hk hl (Nat.eq_of_beq_eq_true hb) (fun u l hu => opn hu) (fun u l hu => shT_cells hu)
      · cases h
/-- An argument of one cell. -/
theorem arg_open {f t : Nat} {s : Sh} {v : Value} {d : DataW H} {p : List MemPlace} (hs : shT T f t = some [s]) (h : DataW.Trod enc P w base spare held t v d p) (hz : ∀ n ∈ d.weights P t, n ≤ bigB) (hv : v.cells = #[v]) : ∃ x, HasSh s x ∧ ∀ ρ, DenS ρ (zW w) (.d (.u x)) v := by
  obtain ⟨n, hn⟩ := h
  rw [hv] at hn
  obtain ⟨xs, h1, h2⟩ := opn hs n _ _ hn hz
  obtain ⟨x, q, rfl, h3, h4⟩ := h1.cons_inv
  have := h4.nil_inv
  subst this
  exact ⟨x, h3, fun ρ => .d (.u (h2.den 0 x v rfl rfl))⟩
end
end Go.Proofs.Ytgiebofmfkacgaa
namespace Go.Proofs.Ytgiebofmfkacgaa
open Go.ChangeShapes Go.WideShapes Go.ChangeAt Go.RowKit

section
variable {H : Type} {enc : TypeId × Value → H} {P : Program}

theorem trodAll_stays (hl : laidOutB P = true) {W W' : World} {sp' : Nat → Bool} : ∀ {ts : List TypeId} {vs : List Value} {ds : List (DataW H)} {ps : List MemPlace}, (∀ t ∈ ts, P.readableRec t = true ∧ t < P.types.size) →
    DataW.TrodAll enc P W 0 (fun _ => true) true ts vs ds ps → (∀ p ∈ ps, W.sameAt W' p) → (∀ p ∈ ps, sp' p.block = true) → DataW.TrodAll enc P W' 0 sp' true ts vs ds ps
  | [], [], [], _, _, h, _, _ => h
  | _ :: _, _ :: _, _ :: _, _, hT, ⟨p, q, h1, h2, e⟩, hm, hs =>
    ⟨p, q, WideElems.Trod_stays hl (hT _ (List.mem_cons.2 (Or.inl rfl))).1 (hT _ (List.mem_cons.2 (Or.inl rfl))).2 h1 (fun x hx => hm x (by rw [e]; exact List.mem_append_left _ hx)) (fun x hx => hs x (by rw [e]; exact List.mem_append_left _ hx)),
      trodAll_stays hl (fun t ht => hT t (List.mem_cons.2 (Or.inr ht))) h2 (fun x hx => hm x (by rw [e]; exact List.mem_append_right _ hx)) (fun x hx => hs x (by rw [e]; exact List.mem_append_right _ hx)), e⟩
  | [], [], _ :: _, _, _, h, _, _ => h.elim
  | [], _ :: _, _, _, _, h, _, _ => h.elim
  | _ :: _, [], _, _, _, h, _, _ => h.elim
  | _ :: _, _ :: _, [], _, _, h, _, _ => h.elim

/-- One closed fact: each parameter's type can be read and is a row of the table. -/
def paramsRead (P : Program) (fn : Func) : Bool := fn.params.toList.all fun t => P.readableRec t && decide (t < P.types.size)

theorem post_of_below {f : Func} {s : ChangeSpec} {apart fresh handsOn again : Bool} {W W' : World} {args : Array Value} {ds : List (DataW H)} {before : List MemPlace} {tb : TypeId}
    (hl : laidOutB P = true) (hT : paramsRead P f = true) (hres : f.resultTypes = #[tb]) (htb : P.underlying tb = some .bool) (hvars : s.vars = [])
    (hsp : s.fn H ds = { results := [.lit (.bool true)], args := ds })
    (hW : DataW.Whole enc P f.params.toList s.vars apart W args.toList ds [] before) (hb : Below W.heap.size W W') :
    s.post enc P f apart fresh handsOn again W args (.bool true) W' := by
  have hT' : ∀ t ∈ f.params.toList, P.readableRec t = true ∧ t < P.types.size := fun t ht => by
    have := List.all_eq_true.1 hT t ht
    simpa using this
  have hlt := hW.lt
  have hW' := hW
  obtain ⟨p, q, hA, hV, he, hz, hn⟩ := hW
  have hq : q = [] := by
    rw [hvars] at hV
    exact (trodVars_none hV).2
  subst hq
  rw [List.append_nil] at he
  subst he
  have hR : ∀ (b : Nat) (sp : Nat → Bool) (hd : Bool), DataW.TrodAll enc P W' b sp hd f.resultTypes.toList ((Value.bool true).resultList f.resultTypes.size) (s.fn H (ds ++ [])).results [] := by
    intro b sp hd
    rw [List.append_nil, hsp, hres]
    exact trodAll_mk1 (shut_bool htb _)
  have hG : ∀ sp : Nat → Bool, (∀ p' ∈ before, sp p'.block = true) → DataW.TrodAll enc P W' 0 sp true f.params.toList args.toList (s.fn H (ds ++ [])).args before := by
    intro sp h
    rw [List.append_nil, hsp]
    exact trodAll_stays hl hT' hA (fun x hx => hb.same (hlt x hx)) h
  have hU : ∀ sp : Nat → Bool, DataW.TrodVars enc P W' sp s.vars (s.fn H (ds ++ [])).vars [] := by
    intro sp
    rw [hvars, List.append_nil, hsp]
    rfl
  refine ⟨ds, [], before, [], before, [], hW', hR _ _ _, hG _ (fun x hx => by simpa using hlt x hx), hU _, hb.frame _, fun _ => ?_⟩
  refine ⟨ok_one hres rfl (okWide_bool_mk htb _), _, _, ([] ++ before) ++ [], ⟨[] ++ before, [], trodAll_append (hG _ (fun _ _ => rfl)) (hR _ _ _), hU _, rfl, ?_, ?_⟩, ?_⟩
  · intro b off hp
    have hp' := by simpa using hp
    rw [hb.frozen (hlt _ hp')]
    exact hz b off hp'
  · intro ha
    simpa using hn ha
  · intro x hx _
    simpa using hx
end

theorem law_lifted {C : Checked} {os : Os} {f : FuncId} {fn : Func} {s : ChangeSpec} {tb : TypeId} {apart fresh : Bool} {conds : List PathCond} (started : os.Started) (H : Type) (enc : TypeId × Value → H)
    (own : ownKnob C.prog.godebug = none) (noInit : C.prog.inits.idxOf? f = none) (hfn : C.prog.funcs[f]? = some fn)
    (witness : ∃ (w : World) (tape : Tape) (i : Input), w.os = os ∧ (w.forCall tape i).Shaped C.prog ∧ i.vars = [] ∧ Input.okWide C.prog (w.forCall tape i) .any w.heap.size f i ∧
      s.pre6 enc C.prog fn conds apart (w.forCall tape i).memory i.args ∧ ({} : Assume).holds C.prog (lone (Frame.enter C.prog f i.args .normal) [] (w.forCall tape i)))
    (hl : laidOutB C.prog = true) (hT : paramsRead C.prog fn = true) (hres : fn.resultTypes = #[tb]) (htb : C.prog.underlying tb = some .bool) (hvars : s.vars = [])
    (hsp : ∀ ds : List (DataW H), ds.length = fn.params.size → s.fn H ds = { results := [.lit (.bool true)], args := ds })
    (walk : ∀ (W : World) (base : Nat) (args : Array Value) (ds : List (DataW H)) (p : List MemPlace),
      (∀ (j : Nat) t v, fn.params[j]? = some t → args[j]? = some v → Value.okWide C.prog W .any base t v) →
      DataW.TrodAll enc C.prog W 0 (fun _ => true) true fn.params.toList args.toList ds p → (∀ x ∈ p, x.block < W.heap.size) →
      (DataW.weightsEach C.prog fn.params.toList ds).all (· ≤ reachBytes) = true →
      Calls C.prog f args W fun e W' => e = .returned (.bool true) ∧ Below W.heap.size W W') :
    ReturnsInHanded {} C os f .any (s.pre6 enc C.prog fn conds apart) (s.post enc C.prog fn apart fresh false false) := by
  refine returnsInHanded_of_change_sized own started noInit hfn witness ?_
  intro W base args ds gs before hval hW _ hz _
  have hgs : gs = [] := by
    obtain ⟨p, q, hA, hV, he, _, _⟩ := hW
    rw [hvars] at hV
    exact (trodVars_none hV).1
  subst hgs
  have hlen : ds.length = fn.params.size := by
    obtain ⟨p, q, hA, _⟩ := hW
    have hlt : ∀ {ts : List TypeId} {vs : List Value} {ds : List (DataW H)} {ps : List MemPlace}, DataW.TrodAll enc C.prog W 0 (fun _ => true) true ts vs ds ps → ds.length = ts.length := by
      intro ts
      induction ts with
      | nil => intro vs ds ps h; cases vs <;> cases ds <;> first | rfl | exact h.elim
      | cons t ts ih =>
        intro vs ds ps h
        cases vs with
        | nil => exact h.elim
        | cons v vs =>
          cases ds with
          | nil => exact h.elim
          | cons d ds =>
            obtain ⟨p, q, _, h2, _⟩ := h
            simp [ih h2]
    simpa using hlt hA
  have hvt : s.plain.varTypes C.prog = [] := by
    simp [ChangeSpec.plain, hvars, DataSpec.varTypes]
  rw [hvt, List.append_nil, List.append_nil] at hz
  have hlt := hW.lt
  have hp : ∃ p, DataW.TrodAll enc C.prog W 0 (fun _ => true) true fn.params.toList args.toList ds p ∧ ∀ x ∈ p, x.block < W.heap.size := by
    obtain ⟨p, q, hA, hV, he, _, _⟩ := hW
    exact ⟨p, hA, fun x hx => hlt x (by rw [he]; exact List.mem_append_left _ hx)⟩
  obtain ⟨p, hA, hpl⟩ := hp
  refine (walk W base args ds p hval hA hpl hz).mono fun e W' ⟨he, hb⟩ => ?_
  exact ⟨_, he, post_of_below hl hT hres htb hvars (hsp ds hlen) hW hb⟩
end Go.Proofs.Ytgiebofmfkacgaa
namespace Go.Proofs.Ytgiebofmfkacgaa
open Go.ChangeShapes Go.WideShapes Go.Deep Go.Joins

theorem laid_out : laidOutB Try.prog = true := by kernel_rfl
theorem own_knob : ownKnob Try.prog.godebug = none := by kernel_rfl

section
variable {H : Type} {enc : TypeId × Value → H} {w : World} {base : Nat} {spare : Nat → Bool} {held : Bool}

end
end Go.Proofs.Ytgiebofmfkacgaa
namespace Go.Proofs.Ytgiebofmfkacgaa
open Go.ChangeShapes Go.WideShapes Go.Deep Go.RowKit
abbrev shAcs : Sh := .sl 16 [.int .i64, .int .i64]
abbrev shJobs : Sh := .sl 48 [shAcs, shAcs]
theorem shJobs_eq : shT tt 6 48 = some [shJobs] := by rfl
theorem acs_of {x : V} (h : HasSh shAcs x) : ∃ l : List Ac, x = avs l := by
  cases h with | sl hl hm hs hr h =>
  rename_i rs
  subst hs
  have : ∀ r ∈ rs, ∃ a : Ac, r = a.v := fun r hr' => by
    obtain ⟨x0, q, rfl, h0, hq⟩ := HasL.cons_inv ⟨hr r hr', h r hr'⟩
    obtain ⟨x1, q, rfl, h1, hq⟩ := hq.cons_inv
    have := hq.nil_inv
    subst this
    cases h0 with | int =>
    cases h1 with | int =>
    exact ⟨⟨_, _⟩, rfl⟩
  obtain ⟨l, rfl⟩ := rows_of this
  exact ⟨l, rfl⟩
theorem jobs_of {x : V} (h : HasSh shJobs x) : ∃ l : List Jb, x = jvs l := by
  cases h with | sl hl hm hs hr h =>
  rename_i rs
  subst hs
  have : ∀ r ∈ rs, ∃ a : Jb, r = a.v := fun r hr' => by
    obtain ⟨x0, q, rfl, h0, hq⟩ := HasL.cons_inv ⟨hr r hr', h r hr'⟩
    obtain ⟨x1, q, rfl, h1, hq⟩ := hq.cons_inv
    have := hq.nil_inv
    subst this
    obtain ⟨a, rfl⟩ := acs_of h0
    obtain ⟨b, rfl⟩ := acs_of h1
    exact ⟨⟨a, b⟩, rfl⟩
  obtain ⟨l, rfl⟩ := rows_of this
  exact ⟨l, rfl⟩
end Go.Proofs.Ytgiebofmfkacgaa
namespace Go.Proofs.Ytgiebofmfkacgaa
open Go.ChangeShapes Go.WideShapes Go.ChangeAt Go.RowKit

set_option maxRecDepth 100000 in
theorem sim_lifted (os : Os) (started : os.Started) (H : Type) (enc : TypeId × Value → H) :
    ReturnsInHanded {} Try.checked os 8 .any (Rows.eventloopSimulateMatchesSpecSpec.pre6 enc Try.prog Try.f8 Rows.eventloopSimulateMatchesSpecRow.domain false) (Rows.eventloopSimulateMatchesSpecSpec.post enc Try.prog Try.f8 false true false false) := by
  refine law_lifted (C := Try.checked) (s := Rows.eventloopSimulateMatchesSpecSpec) (tb := 4) started H enc own_knob (by kernel_rfl) Try.func8
    (ChangeSpec.witness6 (enc := enc) (C := Try.checked) false ⟨#[], #[.slice none 0 0], []⟩ 8 (by kernel_rfl) (by kernel_rfl) (by kernel_rfl) (by kernel_rfl))
    laid_out (by kernel_rfl) (by kernel_rfl) Try.underlying4 rfl ?_ ?_
  · intro ds hl
    match ds, hl with
    | [d], _ => rfl
  · intro W base args ds p hval hA hp hz
    have hval' : ∀ (j : Nat) t v, Try.f8.params[j]? = some t → args[j]? = some v → Value.okWide Try.prog W .any base t v := hval
    have hA' : DataW.TrodAll enc Try.prog W 0 (fun _ => true) true Try.f8.params.toList args.toList ds p := hA
    rw [Try.params8] at hA' hval'
    obtain ⟨v0, d0, rfl, rfl, h0⟩ := trodAll_one hA'
    obtain ⟨A0, l0, c0, rfl⟩ := okWide_slice Try.underlying48 (hval' 0 _ v0 rfl rfl)
    obtain ⟨x, q1, q2⟩ := arg_open (T := tt) shJobs_eq h0 (fun n hn => weights_le (j := 0) hz rfl rfl hn) rfl
    obtain ⟨jobs, rfl⟩ := jobs_of q1
    refine calls_of_A (vs := [.slice A0 l0 c0]) (law_sim_T jobs) ⟨rfl, fun j s v e1 e2 => ?_, fun _ h => h⟩
    match j with
    | 0 => simp at e1 e2; subst e1 e2; exact q2 rho0
    | j + 1 => simp at e1

theorem sim_holds : Rows.EventloopSimulateMatchesSpecSaid :=
  OpenClaim.holds_of_wide 8 Try.f8 rfl rfl rfl rfl rfl rfl rfl ⟨rfl, rfl, rfl, rfl, rfl⟩ rfl rfl rfl rfl rfl (by kernel_rfl) Try.func8 (by kernel_rfl)
    (of_decide_eq_true (by kernel_rfl)) (by unfold Func.isWrapper; first | (rw [if_pos (by decide +kernel)]; kernel_rfl) | (rw [if_neg (by decide +kernel)]; exact ⟨rfl, rfl⟩))
    (fun os started H enc _ => sim_lifted os started H enc)
#print axioms sim_holds
end Go.Proofs.Ytgiebofmfkacgaa
