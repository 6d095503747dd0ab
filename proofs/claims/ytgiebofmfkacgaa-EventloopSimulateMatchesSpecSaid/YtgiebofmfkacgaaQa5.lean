/-
  Part 5 of the proof of sim_holds: laws and contracts that it needs.
-/
import Derived.Test.YtgiebofmfkacgaaQa4
namespace Go.Proofs.Ytgiebofmfkacgaa
open Go.RowKit
def optI : Option Nat → Int
  | none => -1
  | some j => j
/-- The best of the first i. -/
def best (p : Tk6 → Bool) (lt : Tk6 → Tk6 → Bool) (ts : List Tk6) : Nat → Option Nat
  | 0 => none
  | i + 1 => match ts[i]? with
    | none => best p lt ts i
    | some t => if p t then (match best p lt ts i with
      | none => some i
      | some j => match ts[j]? with
        | none => some i
        | some u => if lt t u then some i else some j) else best p lt ts i
theorem best_lt {p : Tk6 → Bool} {lt : Tk6 → Tk6 → Bool} {ts : List Tk6} : ∀ {i j : Nat}, best p lt ts i = some j → j < i ∧ ∃ t, ts[j]? = some t ∧ p t = true
  | 0, j, h => by simp [best] at h
  | i + 1, j, h => by
    rw [best] at h
    cases ht : ts[i]? with
    | none =>
      rw [ht] at h
      have := best_lt h
      exact ⟨by omega, this.2⟩
    | some t =>
      rw [ht] at h
      dsimp only at h
      by_cases hp : p t = true
      · rw [if_pos hp] at h
        cases hb : best p lt ts i with
        | none =>
          rw [hb] at h
          injection h with h
          subst h
          exact ⟨by omega, t, ht, hp⟩
        | some k =>
          rw [hb] at h
          dsimp only at h
          have hk := best_lt hb
          obtain ⟨u, hu, hpu⟩ := hk.2
          rw [hu] at h
          dsimp only at h
          by_cases hl : lt t u = true
          · rw [if_pos hl] at h
            injection h with h
            subst h
            exact ⟨by omega, t, ht, hp⟩
          · rw [if_neg hl] at h
            injection h with h
            subst h
            exact ⟨by omega, u, hu, hpu⟩
      · rw [if_neg hp] at h
        have := best_lt h
        exact ⟨by omega, this.2⟩
abbrev waitsP (n : Int) (t : Tk6) : Bool := t.waits == n
abbrev sinceL (t u : Tk6) : Bool := decide (t.since < u.since)
def unwaitG (g : Sg) (j : Nat) : Sg := ⟨g.tasks.modify j fun t => { t with waits := -1 }, g.now, g.next, g.log⟩
def wakeG (n : Int) : Nat → Sg → Sg
  | 0, g => g
  | f + 1, g => match best (waitsP n) sinceL g.tasks g.tasks.length with
    | none => g
    | some j => wakeG n f (readyG (unwaitG g j) j)
def endG (g : Sg) (n : Nat) : Sg := wakeG n g.tasks.length (recG ⟨g.tasks.modify n fun t => { t with ended := true }, g.now, g.next, g.log⟩ n 3 0)
def wcount (n : Int) (g : Sg) : Nat := g.tasks.countP (waitsP n)
theorem wcount_step {n : Int} (hn : 0 ≤ n) {g : Sg} {j : Nat} (h : best (waitsP n) sinceL g.tasks g.tasks.length = some j) : wcount n (readyG (unwaitG g j) j) + 1 = wcount n g := by
  obtain ⟨hj, t, ht, hp⟩ := best_lt h
  obtain ⟨ts, now, nx, log⟩ := g
  dsimp only at hj ht
  simp only [wcount, readyG, unwaitG, List.modify_modify_eq]
  have ht' : ts[j] = t := by rw [List.getElem?_eq_getElem hj] at ht; injection ht
  have hpos : 0 < ts.countP (waitsP n) := List.countP_pos_iff.2 ⟨t, ht' ▸ List.getElem_mem hj, hp⟩
  rw [modify_set _ _ _ hj, List.countP_set hj, ht', if_pos hp]
  have hq : ¬ (-1 == n) = true := by simp; omega
  simp only [waitsP, Function.comp] at hq hpos ⊢
  rw [if_neg hq]
  omega
set_option maxHeartbeats 2000000 in
theorem ended_R (jobs : List Jb) (g : Sg) (n : Nat) (hn : n < g.tasks.length) (hb : g.next + g.tasks.length ≤ 1000000000) (h0 : 0 ≤ g.next) (hl : g.log.length ≤ 1000000) (ht : g.tasks.length ≤ 60) : CallsA Try.prog 65 [sgA jobs g, di n] (sgO g) (Iso (sgA jobs (endG g n)) (sgO (endG g n))) := by
  generalize hR : endG g n = R
  obtain ⟨ts, now, nx, log⟩ := g
  dsimp only at hn hb h0 hl ht
  have hm := modify_set ts n (fun t => { t with ended := true }) hn
  have hrw : ∀ {K : List V → Prop}, K (ts[n]).v → Rw (ts.map Tk6.v) n K := fun k => Rw.map hn k
  simp only [endG, hm] at hR
  have hT : ∀ T, ts.set n { ts[n] with ended := true } = T → T.length = ts.length := fun T h => by rw [← h]; simp
  generalize hT1 : ts.set n { ts[n] with ended := true } = T at hT hR
  have hTl := hT T rfl
  clear hT
  refine callsA_of_vcO (T := tt) Try.func65 rfl rfl rfl rfl rfl ?_
  repeat' ((conv => whnf); first | refine Ixo.mk ⟨n, rfl, hn, ?_⟩ | refine hrw ?_ | refine Gs.id ?_ | (refine CL.mk (Or.inr (Raw.callI [901,902] [901,902] rfl rfl rfl rfl rfl rfl rfl (record_R' jobs T now nx log n 3 0 _ _ hTl.symm rfl _ _ (by rw [← hT1]; simp) rfl hl) ?_)); rintro _ _ ⟨rfl, rfl⟩; refine Bk.mk rfl rfl ?_))
  all_goals (conv => whnf)
  have hR0 : wakeG n T.length ⟨T, now, nx, log ++ [⟨now, n, 3, 0⟩]⟩ = R := by rw [← hR]; simp only [recG, hTl]
  clear hR hrw hm hT1
  refine ⟨⟨Nat × Sg, fun q => wcount n q.2 ≤ q.1 ∧ wakeG n q.1 q.2 = R ∧ q.2.tasks.length = T.length ∧ 0 ≤ q.2.next ∧ q.2.next + q.1 ≤ 1000000000, fun q => q.1, fun q => ⟨[(1, di n), (2, .d (.p 2 0)), (4, .d (.p 4 0))], [(2, .bx 88 [.u (jvs jobs), .ow 901 q.2.tasks.length, .u (.int .i64 q.2.now), .u (.int .i64 q.2.next), .ow 902 q.2.log.length]), (4, .bx 88 [.u .nl, .u .nl, .u (.int .i64 0), .u (.int .i64 0), .u .nl]), (901, .ar 85 10 (q.2.tasks.map Tk6.v)), (902, .ar 55 4 (q.2.log.map Rc.v))]⟩, (T.length, ⟨T, now, nx, log ++ [⟨now, n, 3, 0⟩]⟩), ⟨List.countP_le_length, hR0, rfl, h0, by dsimp only; omega⟩, ⟨[(2, .k 2), (4, .k 4), (901, .k 901), (902, .k 902)], ⟨by (try dsimp only); (repeat (refine LeT.cons rfl (by exact LeS.d (by first | exact LeD.u rfl | exact LeD.p rfl)) ?_)); exact LeT.nil, by (try dsimp only); repeat (first | exact LeO.nil | refine LeO.bx rfl rfl (by repeat (first | exact LeL.nil | refine LeL.cons (by first | exact LeD.u rfl | exact LeD.ow rfl rfl) ?_)) ?_ | refine LeO.ar rfl rfl (by rfl) ?_)⟩⟩, fun ⟨f, g⟩ ⟨q1, q2, q3, q4, q5⟩ => ?_⟩⟩
  obtain ⟨us, no, ne, lo⟩ := g
  dsimp only at q1 q2 q3 q4 q5 ⊢
  repeat' ((conv => whnf); refine Gs.id ?_)
  all_goals (conv => whnf)
  refine ⟨⟨Nat, fun i => i ≤ us.length, fun i => us.length - i, fun i => ⟨[(1, di n), (2, .d (.p 2 0)), (4, .d (.p 4 0)), (5, di (optI (best (waitsP n) sinceL us i))), (6, di i)], [(2, .bx 88 [.u (jvs jobs), .ow 901 us.length, .u (.int .i64 no), .u (.int .i64 ne), .ow 902 lo.length]), (4, .bx 88 [.u .nl, .u .nl, .u (.int .i64 0), .u (.int .i64 0), .u .nl]), (901, .ar 85 10 (us.map Tk6.v)), (902, .ar 55 4 (lo.map Rc.v))]⟩, 0, Nat.zero_le _, ⟨[(2, .k 2), (4, .k 4), (901, .k 901), (902, .k 902)], ⟨by (try dsimp only); (repeat (refine LeT.cons rfl (by exact LeS.d (by first | exact LeD.u rfl | exact LeD.p rfl)) ?_)); exact LeT.nil, by (try dsimp only); repeat (first | exact LeO.nil | refine LeO.bx rfl rfl (by repeat (first | exact LeL.nil | refine LeL.cons (by first | exact LeD.u rfl | exact LeD.ow rfl rfl) ?_)) ?_ | refine LeO.ar rfl rfl (by rfl) ?_)⟩⟩, fun i hi => ?_⟩⟩
  dsimp only at hi ⊢
  by_cases h9 : i < us.length
  · have hget : us[i]? = some us[i] := List.getElem?_eq_getElem h9
    rcases hbst : best (waitsP n) sinceL us i with _ | j
    · repeat' ((conv => whnf); first | refine Ixo.mk ⟨i, rfl, h9, ?_⟩ | refine Gs.id ?_ | with_reducible refine Brn.T rfl ?_ | with_reducible refine Brn.F rfl ?_ | refine Brn.T (by (try simp only [smT]); first | rfl | assumption | omega) ?_ | refine Brn.F (by (try simp only [smT]); first | rfl | assumption) ?_ | (refine Brn.mk (fun hb => ?_) (fun hb => ?_) <;> (try simp only [smT] at hb) <;> (try (exact absurd trivial hb)) <;> (try (exfalso; omega))) | (refine Bnd.mk (fun hm => ?_); (try simp only [smT] at hm)) | refine Rng.mk (by (try simp only [smT]); omega) ?_ | refine Rw.map (by (try simp only [smT]); omega) ?_ | refine Drw.of (T := tt) (i := 7) [] [] [(0, true), (1, true), (2, true), (3, true), (4, true), (5, true), (6, true), (7, true), (8, true), (9, true), (10, true), (11, true), (12, true), (13, true), (14, true), (15, true), (16, true), (17, true), (18, true), (19, true), (20, true), (21, true), (22, true), (23, true), (24, true), (25, true), (26, true)] (by kernel_rfl) ?_)
      all_goals (conv => whnf)
      all_goals first
        | (have hs : best (waitsP n) sinceL us (i + 1) = some i := by
              rw [best, hget]
              dsimp only
              rw [hbst]
              dsimp only
              first | (simp [waitsP, sinceL, *]; done) | (simp_all [waitsP, sinceL]; done) | (simp_all [waitsP, sinceL]; omega)
           refine ⟨i + 1, by omega, by omega, [(2, .k 2), (4, .k 4), (901, .k 901), (902, .k 902)], ?_⟩
           rw [hs]
           exact ⟨by (try dsimp only); (repeat (refine LeT.cons rfl (by exact LeS.d (by first | exact LeD.u rfl | exact LeD.p rfl)) ?_)); exact LeT.nil, by (try dsimp only); repeat (first | exact LeO.nil | refine LeO.bx rfl rfl (by repeat (first | exact LeL.nil | refine LeL.cons (by first | exact LeD.u rfl | exact LeD.ow rfl rfl) ?_)) ?_ | refine LeO.ar rfl rfl (by rfl) ?_)⟩)
        | (have hs : best (waitsP n) sinceL us (i + 1) = none := by
              rw [best, hget]
              dsimp only
              rw [hbst]
              dsimp only
              first | (simp [waitsP, sinceL, *]; done) | (simp_all [waitsP, sinceL]; done) | (simp_all [waitsP, sinceL]; omega)
           refine ⟨i + 1, by omega, by omega, [(2, .k 2), (4, .k 4), (901, .k 901), (902, .k 902)], ?_⟩
           rw [hs]
           exact ⟨by (try dsimp only); (repeat (refine LeT.cons rfl (by exact LeS.d (by first | exact LeD.u rfl | exact LeD.p rfl)) ?_)); exact LeT.nil, by (try dsimp only); repeat (first | exact LeO.nil | refine LeO.bx rfl rfl (by repeat (first | exact LeL.nil | refine LeL.cons (by first | exact LeD.u rfl | exact LeD.ow rfl rfl) ?_)) ?_ | refine LeO.ar rfl rfl (by rfl) ?_)⟩)
    · obtain ⟨hj, u, hju, hpu⟩ := best_lt hbst
      have hju' : us[j]? = some us[j] := List.getElem?_eq_getElem (by omega)
      repeat' ((conv => whnf); first | refine Ixo.mk ⟨i, rfl, h9, ?_⟩ | refine Ixo.mk ⟨j, rfl, Nat.lt_trans hj h9, ?_⟩ | refine Gs.id ?_ | with_reducible refine Brn.F rfl ?_ | refine Brn.T (by (try simp only [smT]); first | rfl | assumption | omega) ?_ | refine Brn.F (by (try simp only [smT]); first | rfl | assumption) ?_ | (refine Brn.mk (fun hb => ?_) (fun hb => ?_) <;> (try simp only [smT] at hb) <;> (try (exact absurd trivial hb)) <;> (try (exfalso; omega))) | (refine Bnd.mk (fun hm => ?_); (try simp only [smT] at hm)) | refine Rng.mk (by (try simp only [smT]); omega) ?_ | refine Rw.map (by (try simp only [smT]); omega) ?_ | refine Drw.of (T := tt) (i := 7) [] [] [(0, true), (1, true), (2, true), (3, true), (4, true), (5, true), (6, true), (7, true), (8, true), (9, true), (10, true), (11, true), (12, true), (13, true), (14, true), (15, true), (16, true), (17, true), (18, true), (19, true), (20, true), (21, true), (22, true), (23, true), (24, true), (25, true), (26, true)] (by kernel_rfl) ?_)
      all_goals (conv => whnf)
      all_goals first
        | (have hs : best (waitsP n) sinceL us (i + 1) = some i := by
              rw [best, hget]
              dsimp only
              rw [hbst]
              dsimp only
              rw [hju']
              dsimp only
              first | (simp [waitsP, sinceL, *]; done) | (simp_all [waitsP, sinceL]; done) | (simp_all [waitsP, sinceL]; omega)
           refine ⟨i + 1, by omega, by omega, [(2, .k 2), (4, .k 4), (901, .k 901), (902, .k 902)], ?_⟩
           rw [hs]
           exact ⟨by (try dsimp only); (repeat (refine LeT.cons rfl (by exact LeS.d (by first | exact LeD.u rfl | exact LeD.p rfl)) ?_)); exact LeT.nil, by (try dsimp only); repeat (first | exact LeO.nil | refine LeO.bx rfl rfl (by repeat (first | exact LeL.nil | refine LeL.cons (by first | exact LeD.u rfl | exact LeD.ow rfl rfl) ?_)) ?_ | refine LeO.ar rfl rfl (by rfl) ?_)⟩)
        | (have hs : best (waitsP n) sinceL us (i + 1) = some j := by
              rw [best, hget]
              dsimp only
              rw [hbst]
              dsimp only
              rw [hju']
              dsimp only
              first | (simp [waitsP, sinceL, *]; done) | (simp_all [waitsP, sinceL]; done) | (simp_all [waitsP, sinceL]; omega)
           refine ⟨i + 1, by omega, by omega, [(2, .k 2), (4, .k 4), (901, .k 901), (902, .k 902)], ?_⟩
           rw [hs]
           exact ⟨by (try dsimp only); (repeat (refine LeT.cons rfl (by exact LeS.d (by first | exact LeD.u rfl | exact LeD.p rfl)) ?_)); exact LeT.nil, by (try dsimp only); repeat (first | exact LeO.nil | refine LeO.bx rfl rfl (by repeat (first | exact LeL.nil | refine LeL.cons (by first | exact LeD.u rfl | exact LeD.ow rfl rfl) ?_)) ?_ | refine LeO.ar rfl rfl (by rfl) ?_)⟩)
  · obtain rfl : i = us.length := by omega
    rcases hbst : best (waitsP n) sinceL us us.length with _ | j
    · repeat' ((conv => whnf); first | refine Gs.id ?_ | with_reducible refine Brn.T rfl ?_ | refine Brn.F (by (try simp only [smT]); first | rfl | omega) ?_ | (refine Bnd.mk (fun hm => ?_); (try simp only [smT] at hm)))
      all_goals (conv => whnf)
      · have e : R = ⟨us, no, ne, lo⟩ := by
          rw [← q2]
          cases f with
          | zero => rfl
          | succ f => rw [wakeG]; dsimp only; rw [hbst]
        rw [e]
        refine RetO.mk ⟨[(901, .k 901), (902, .k 902)], _, _, (by exact LeS.a (by repeat (first | exact LeL.nil | refine LeL.cons (by first | exact LeD.u rfl | exact LeD.ow rfl rfl) ?_))), (by repeat (first | exact LeO.nil | refine LeO.ar rfl rfl (by rfl) ?_)), rfl, rfl⟩
    · obtain ⟨hj, u, hju, hpu⟩ := best_lt hbst
      repeat' ((conv => whnf); first | refine Ixo.mk ⟨j, rfl, hj, ?_⟩ | refine Gs.id ?_ | with_reducible refine Brn.F rfl ?_ | refine Brn.F (by (try simp only [smT]); first | rfl | omega) ?_ | (refine Bnd.mk (fun hm => ?_); (try simp only [smT] at hm)) | refine Rw.map (by (try simp only [smT]); omega) ?_ | (refine CL.mk (Or.inr (Raw.callI [901,902] [901,902] rfl rfl rfl rfl rfl rfl rfl (ready_R' jobs (us.set j { us[j] with waits := -1 }) no ne lo j (by simpa using hj) (by omega) q4 _ _ (by simp) rfl _ _ (by simp) rfl) ?_)); rintro _ _ ⟨rfl, rfl⟩; refine Bk.mk rfl rfl ?_))
      all_goals (conv => whnf)
      · have hst := wcount_step (n := n) (by omega) (g := ⟨us, no, ne, lo⟩) hbst
        have e1 : readyG (unwaitG ⟨us, no, ne, lo⟩ j) j = readyG ⟨us.set j { us[j] with waits := -1 }, no, ne, lo⟩ j := by simp only [unwaitG, modify_set us j _ hj]
        obtain ⟨f, rfl⟩ : ∃ f', f = f' + 1 := ⟨f - 1, by omega⟩
        rw [wakeG] at q2
        dsimp only at q2
        rw [hbst] at q2
        dsimp only at q2
        rw [e1] at q2 hst
        replace q1 : wcount n ⟨us, no, ne, lo⟩ ≤ f + 1 := q1
        replace q5 : ne + ((f + 1 : Nat) : Int) ≤ 1000000000 := q5
        exact ⟨(f, readyG ⟨us.set j { us[j] with waits := -1 }, no, ne, lo⟩ j), ⟨by dsimp only at hst ⊢; omega, q2, by simpa [readyG] using q3, by simp only [readyG]; omega, by simp only [readyG]; omega⟩, by dsimp only; omega, [(2, .k 2), (4, .k 4), (901, .k 901), (902, .k 902)], ⟨by (try dsimp only); (repeat (refine LeT.cons rfl (by exact LeS.d (by first | exact LeD.u rfl | exact LeD.p rfl)) ?_)); exact LeT.nil, by (try dsimp only); repeat (first | exact LeO.nil | refine LeO.bx rfl rfl (by repeat (first | exact LeL.nil | refine LeL.cons (by first | exact LeD.u rfl | exact LeD.ow rfl rfl) ?_)) ?_ | refine LeO.ar rfl rfl (by rfl) ?_)⟩⟩
end Go.Proofs.Ytgiebofmfkacgaa
namespace Go.Proofs.Ytgiebofmfkacgaa
open Go.RowKit

theorem strike_filter (n : Int) : ∀ ts : List Tm, (ts.map (·.task)).Nodup → (match ts.findIdx? (·.task == n) with | some i => ts.eraseIdx i | none => ts) = ts.filter (fun t => t.task != n)
  | [], _ => by simp
  | t :: l, h => by
    simp only [List.map_cons, List.nodup_cons] at h
    have ih := strike_filter n l h.2
    rw [List.findIdx?_cons]
    cases ht : (t.task == n)
    · simp only [Bool.false_eq_true, if_false]
      have : (t.task != n) = true := by simp [bne, ht]
      rw [List.filter_cons]
      simp only [this, if_true]
      rw [← ih]
      cases l.findIdx? (·.task == n) <;> simp
    · have htn : t.task = n := by simpa using ht
      have : (t.task != n) = false := by simp [htn]
      rw [List.filter_cons]
      simp only [if_true, this, if_false, List.eraseIdx_cons_zero]
      simp only [Bool.false_eq_true, if_false]
      refine (List.filter_eq_self.2 fun x hx => ?_).symm
      have : x.task ≠ n := fun e => h.1 (by rw [htn, ← e]; exact List.mem_map_of_mem hx)
      simpa using this
theorem strike_woken {c : Ck} (h : Valid c) (n : Int) : strike c.ts n = wokenT n c.ts := by
  have hnd : (c.ts.map (·.task)).Nodup := (List.nodup_append.1 h.nodup).2.1
  have := strike_filter n c.ts hnd
  rw [wokenT, ← this, strike, tidx]
  cases c.ts.findIdx? (·.task == n) <;> simp
theorem tidx_none {ts : List Tm} {n : Int} (h : busyT ts n = false) : strike ts n = ts := by
  have := tidx_busy ts n
  rw [h] at this
  have : ¬ 0 ≤ tidx ts n := by simpa using this
  simp [strike, this]
theorem strike_len {ts : List Tm} {n : Int} (h : busyT ts n = true) : (strike ts n).length + 1 = ts.length := by
  have h1 := tidx_busy ts n
  rw [h] at h1
  have h2 : 0 ≤ tidx ts n := by simpa using h1
  have h3 := tidx_lt ts n
  rw [strike, if_pos h2, List.length_eraseIdx_of_lt (by omega)]
  omega
theorem cf_val {c : Ck} (h : (clockFault c).1 = 0) : (validate c).1 = 0 := by rw [← fault_eq]; exact h
theorem wake_ok {c : Ck} {n : Int} (h : (clockFault c).1 = 0) (hn : 0 ≤ n ∧ n ≤ 1000000000000000) (hb : busy c.rs c.ts n = true ∨ ¬ (c.rs.length : Int) + (c.ts.length : Int) = 1000) : wakeP c n = (wokenM c n, (0, 0)) := by
  have hV := cf_valid h
  have hlen := hV.len
  have ht := (timeB_iff n).2 hn
  cases hh : has c.rs n
  · have hw := strike_woken hV n
    rw [wakeP_ok (cf_val h) ht hh ?_]
    · simp [wokenM, hh, enq, hw]
    · cases hq : busyT c.ts n
      · rw [tidx_none hq]
        rcases hb with hb | hb
        · simp [busy, hq, hh] at hb
        · exact hb
      · have := strike_len hq
        omega
  · rw [wakeP_has (cf_val h) ht hh]
    simp [wokenM, hh]
theorem wake_small {c : Ck} {n : Int} (h : c.rs.length + c.ts.length ≤ 1000) : Small (wakeP c n).1 := by
  have hs : (strike c.ts n).length ≤ c.ts.length := by
    unfold strike
    split
    · exact List.length_eraseIdx_le ..
    · exact Nat.le_refl _
  unfold wakeP
  split
  · split
    · split
      · exact ⟨by dsimp only; omega, by dsimp only; omega⟩
      · split
        · exact ⟨by simp, by simp⟩
        · exact ⟨by simp; omega, by dsimp only; omega⟩
    · exact ⟨by simp, by simp⟩
  · exact ⟨by simp, by simp⟩
theorem wake_T' (now ser : Int) (rs : List Int) (ts : List Tm) (hs : Small ⟨now, ser, rs, ts⟩) (n y1 y2 : Int) (y3 : List Int) (y4 : List Tm) (f : Int × Int) (e : wakeP ⟨now, ser, rs, ts⟩ n = (⟨y1, y2, y3, y4⟩, f)) : CallsA Try.prog 25 [.a [.u (.int .i64 now), .u (.int .i64 ser), .u (ivs rs), .u (tvs ts)], di n] [] (Is (.t [.a [.u (.int .i64 y1), .u (.int .i64 y2), .u (ivs y3), .u (tvs y4)], .a (fd f)])) := by
  have := wake_T ⟨now, ser, rs, ts⟩ hs n
  rw [e] at this
  exact this
end Go.Proofs.Ytgiebofmfkacgaa
namespace Go.Proofs.Ytgiebofmfkacgaa
open Go.RowKit

def cancelTs (tasks : List Tsk) (n : Nat) : List Tsk := (tasks.modify n fun t => { t with cancelled := true }).map fun t => { t with waiters := t.waiters.filter fun w => w != n }
abbrev iar (ws : List Int) : Nat × Ob := (900, .ar 3 1 (ws.map fun n => [V.int .i64 n]))
abbrev clM (m : Int) : V := .cl 73 [[.int .i64 m]]
theorem cancel1_T (x m : Int) : CallsA Try.prog 73 [di x, .d (.q [.int .i64 m] 0)] [] (Is (db (x == m))) := by
  refine callsA_of_vc (T := tt) Try.func73 rfl rfl rfl rfl rfl ?_
  repeat' ((conv => whnf); refine Gs.id ?_)
  all_goals (conv => whnf)
  · exact Ret.is rfl
/-- Where the first m stands, from i on; -1: nowhere. -/
def ixM (m : Int) : List Int → Nat → Int
  | [], _ => -1
  | w :: r, i => if w = m then i else ixM m r (i + 1)
theorem ixM_cases (m : Int) : ∀ (ws : List Int) (k : Nat), (ixM m ws k = -1 ∧ (ws.filter fun w => w != m) = ws) ∨ ∃ i : Nat, i < ws.length ∧ ixM m ws k = ((k + i : Nat) : Int) ∧ ((ws.take (i + 1)).filter fun w => w != m) = ws.take i
  | [], k => .inl ⟨rfl, rfl⟩
  | w :: r, k => by
    by_cases h : w = m
    · exact .inr ⟨0, by simp, by simp [ixM, h], by simp [h]⟩
    · rcases ixM_cases m r (k + 1) with ⟨h1, h2⟩ | ⟨i, h1, h2, h3⟩
      · exact .inl ⟨by rw [ixM, if_neg h, h1], by rw [List.filter_cons_of_pos (by simpa using h), h2]⟩
      · refine .inr ⟨i + 1, by simpa using h1, by rw [ixM, if_neg h, h2]; congr 1; omega, ?_⟩
        rw [List.take_succ_cons, List.filter_cons_of_pos (by simpa using h), h3, List.take_succ_cons]
theorem ix_T (ws : List Int) (m : Int) (hl : ws.length ≤ 1000000) : CallsA Try.prog 74 [.d (.u (ivs ws)), .d (.u (clM m))] [] (Is (di (ixM m ws 0))) := by
  refine callsA_of_vc (T := tt) Try.func74 rfl rfl rfl rfl rfl ?_
  repeat' ((conv => whnf); first | refine Gs.id ?_ | (refine Bnd.mk (fun hm => ?_); (try simp only [smT] at hm)))
  all_goals (conv => whnf)
  · refine ⟨⟨Nat, fun i => i ≤ ws.length ∧ ixM m ws 0 = ixM m (ws.drop i) i, fun i => ws.length - i, fun i => ⟨[(0, .d (.u (ivs ws))), (1, .d (.u (clM m))), (7, di ws.length), (8, di i)], []⟩, 0, ⟨Nat.zero_le _, rfl⟩, ⟨[], ⟨by (try dsimp only); (repeat (refine LeT.cons rfl (by exact LeS.d (by first | exact LeD.u rfl | exact LeD.u (by simp; done))) ?_)); exact LeT.nil, by (try dsimp only); repeat (exact LeO.nil)⟩⟩, fun i ⟨hi, he⟩ => ?_⟩⟩
    dsimp only
    repeat' ((conv => whnf); first | refine Gs.id ?_ | (refine Brn.mk (fun hb => ?_) (fun hb => ?_) <;> (try simp only [smT] at hb) <;> (try (exact absurd trivial hb)) <;> (try (exfalso; omega))) | refine Rng.mk (by (try simp only [smT]); omega) ?_ | refine Ix.map rfl (by (try simp only [smT]); omega) ?_ | (refine Raw.callF [] [] rfl rfl rfl rfl rfl rfl rfl rfl (cancel1_T _ m) ?_; rintro _ _ ⟨rfl, rfl⟩; refine Bk.mk rfl rfl ?_))
    all_goals (conv => whnf)
    · have h9 : i < ws.length := by omega
      have e : ixM m ws 0 = i := by rw [he, List.drop_eq_getElem_cons h9, ixM, if_pos (by assumption)]
      rw [e]
      exact Ret.is rfl
    · have h9 : i < ws.length := by omega
      refine ⟨i + 1, ⟨by omega, ?_⟩, by omega, [], ⟨by (try dsimp only); (repeat (refine LeT.cons rfl (by exact LeS.d (by exact LeD.u rfl)) ?_)); exact LeT.nil, by (try dsimp only); repeat (exact LeO.nil)⟩⟩
      rw [he, List.drop_eq_getElem_cons h9, ixM, if_neg (by assumption)]
    · have h9 : i = ws.length := by omega
      have e : ixM m ws 0 = -1 := by rw [he, h9, List.drop_length, ixM]
      rw [e]
      exact Ret.is rfl
theorem putR_take {α : Type} (rs new : List α) (n : Nat) (h : n ≤ rs.length) : (putR rs new n).take n = rs.take n := by
  rw [putR, List.append_assoc, List.take_append_of_le_length (by simp; omega), List.take_take, Nat.min_self]
set_option maxHeartbeats 1000000 in
theorem delF_T (ws : List Int) (m : Int) (hl : ws.length ≤ 1000000) : CallsA Try.prog 72 [.d (.ow 900 ws.length), .d (.u (clM m))] [iar ws] (Iso (.d (.ow 900 (ws.filter fun w => w != m).length)) [iar (ws.filter fun w => w != m)]) := by
  rcases ixM_cases m ws 0 with ⟨h1, h2⟩ | ⟨i0, h1, h2, h3⟩
  · rw [h2]
    have hx := ix_T ws m hl
    rw [h1] at hx
    refine callsA_of_vcO (T := tt) Try.func72 rfl rfl rfl rfl rfl ?_
    repeat' ((conv => whnf); first | refine Gs.id ?_ | with_reducible refine Brn.T rfl ?_ | (refine CL.mk (Or.inl ?_); (conv => whnf); refine ClO.mk (Or.inl ?_); (repeat ((conv => whnf); refine Len.mk (by first | rfl | (simp; done)) ?_)); (conv => whnf); refine Cl.is (hx) rfl (by exact fun _ => rfl) ?_))
    all_goals (conv => whnf)
    · refine RetO.mk ⟨[(900, .k 900)], _, _, (by exact LeS.d (by exact LeD.ow rfl rfl)), (by repeat (first | exact LeO.nil | refine LeO.ar rfl rfl (by rfl) ?_)), rfl, rfl⟩
  · have hx := ix_T ws m hl
    rw [h2, Nat.zero_add] at hx
    refine callsA_of_vcO (T := tt) Try.func72 rfl rfl rfl rfl rfl ?_
    repeat' ((conv => whnf); first | refine Gs.id ?_ | with_reducible refine Brn.F rfl ?_ | refine Rng.mk (by (try simp only [smT]); omega) ?_ | (refine CL.mk (Or.inl ?_); (conv => whnf); refine ClO.mk (Or.inl ?_); (repeat ((conv => whnf); refine Len.mk (by first | rfl | (simp; done)) ?_)); (conv => whnf); refine Cl.is (hx) rfl (by exact fun _ => rfl) ?_))
    all_goals (conv => whnf)
    · refine ⟨⟨Nat × Nat × List Int, fun x => x.1 < x.2.1 ∧ x.2.1 ≤ ws.length ∧ x.2.2.length = ws.length ∧ x.2.2.take x.1 = ((ws.take x.2.1).filter fun w => w != m) ∧ x.2.2.drop x.2.1 = ws.drop x.2.1, fun x => ws.length - x.2.1, fun x => ⟨[(0, .d (.ow 900 ws.length)), (1, .d (.u (clM m))), (5, di x.1), (6, di x.2.1)], [iar x.2.2]⟩, (i0, i0 + 1, ws), ⟨by dsimp only; omega, by dsimp only; omega, rfl, h3.symm, rfl⟩, ⟨[(900, .k 900)], ⟨by (try dsimp only); (repeat (refine LeT.cons rfl (by exact LeS.d (by first | exact LeD.u rfl | exact LeD.ow rfl rfl)) ?_)); exact LeT.nil, by (try dsimp only); repeat (first | exact LeO.nil | refine LeO.ar rfl rfl (by rfl) ?_)⟩⟩, fun ⟨i, j, a⟩ ⟨q1, q2, q3, q4, q5⟩ => ?_⟩⟩
      dsimp only at q1 q2 q3 q4 q5 ⊢
      repeat' ((conv => whnf); first | refine Gs.id ?_ | (refine Brn.mk (fun hb => ?_) (fun hb => ?_) <;> (try simp only [smT] at hb) <;> (try (exact absurd trivial hb)) <;> (try (exfalso; omega))) | (refine Bnd.mk (fun hm => ?_); (try simp only [smT] at hm)) | refine Rng.mk (by (try simp only [smT]); omega) ?_ | refine Ixo.mk ⟨_, rfl, (by (try simp only [smT]); omega), ?_⟩ | refine Rw.map (by (try simp only [smT]); omega) ?_ | refine Raw.clear (T := tt) rfl rfl rfl rfl rfl rfl rfl (by (try simp only [smT]); omega) ?_ | refine Slc.mk ⟨_, _, rfl, rfl, (by (try simp only [smT]); omega), (by (try simp only [smT]); omega), ?_⟩ | (refine Raw.callF [] [] rfl rfl rfl rfl rfl rfl rfl rfl (cancel1_T _ m) ?_; rintro _ _ ⟨rfl, rfl⟩; refine Bk.mk rfl rfl ?_))
      all_goals (conv => whnf)
      · have h9 : j < ws.length := by omega
        have hv : a[j]'(by omega) = ws[j] := by
          have := congrArg List.head? q5
          simpa [List.head?_drop, h9, show j < a.length by omega] using this
        have hne : ¬ ws[j] = m := by rw [← hv]; assumption
        refine ⟨(i + 1, j + 1, a.set i (a[j]'(by omega))), ⟨by dsimp only; omega, by dsimp only; omega, by simp [q3], ?_, ?_⟩, by dsimp only; omega, [(900, .k 900)], ⟨by (try dsimp only); (repeat (refine LeT.cons rfl (by exact LeS.d (by first | exact LeD.u rfl | exact LeD.ow rfl rfl)) ?_)); exact LeT.nil, by (try dsimp only); repeat (first | exact LeO.nil | refine LeO.ar rfl rfl (by first | simp [List.map_set]) ?_)⟩⟩
        · dsimp only
          rw [List.take_succ_eq_append_getElem h9, List.filter_append, ← q4, List.filter_cons_of_pos (by simpa using hne), List.filter_nil, List.take_succ_eq_append_getElem (by simp; omega), List.take_set_of_le (Nat.le_refl _), List.getElem_set_self, hv]
        · dsimp only
          rw [List.drop_set_of_lt (by omega), ← List.tail_drop, q5, List.tail_drop]
      · have h9 : j < ws.length := by omega
        have hv : a[j]'(by omega) = ws[j] := by
          have := congrArg List.head? q5
          simpa [List.head?_drop, h9, show j < a.length by omega] using this
        have hne : ws[j] = m := by rw [← hv]; assumption
        refine ⟨(i, j + 1, a), ⟨by dsimp only; omega, by dsimp only; omega, q3, ?_, ?_⟩, by dsimp only; omega, [(900, .k 900)], ⟨by (try dsimp only); (repeat (refine LeT.cons rfl (by exact LeS.d (by first | exact LeD.u rfl | exact LeD.ow rfl rfl)) ?_)); exact LeT.nil, by (try dsimp only); repeat (first | exact LeO.nil | refine LeO.ar rfl rfl (by rfl) ?_)⟩⟩
        · dsimp only
          rw [List.take_succ_eq_append_getElem h9, List.filter_append, ← q4, List.filter_cons_of_neg (by simpa using hne), List.filter_nil, List.append_nil]
        · dsimp only
          rw [← List.tail_drop, q5, List.tail_drop]
      · have h9 : j = ws.length := by omega
        subst h9
        rw [List.take_length] at q4
        have hl2 : i = (ws.filter fun w => w != m).length := by rw [← q4]; simp; omega
        refine RetO.mk ⟨[(900, .k 900)], _, _, .d (.ow rfl hl2), LeO.tr (m := i) rfl rfl ?_ ?_ .nil, rfl, rfl⟩
        · simp [putR]; omega
        · rw [putR_take _ _ _ (by simp; omega), ← List.map_take, q4]
theorem delF_T' (ws : List Int) (m : Int) (n0 : Nat) (h0 : n0 = ws.length) (hl : ws.length ≤ 1000000) : CallsA Try.prog 72 [.d (.ow 900 n0), .d (.u (clM m))] [iar ws] (Iso (.d (.ow 900 (ws.filter fun w => w != m).length)) [iar (ws.filter fun w => w != m)]) := by
  subst h0; exact delF_T ws m hl
def strT (n : Nat) (t : Tsk) : Tsk := { t with waiters := t.waiters.filter fun w => w != n }
def mixT (l : List Tsk) (n k : Nat) : List Tsk := (l.take k).map (strT n) ++ l.drop k
theorem mixT_len (l : List Tsk) (n k : Nat) : (mixT l n k).length = l.length := by simp [mixT]; omega
theorem mixT_get (l : List Tsk) (n k : Nat) (h : k < l.length) : (mixT l n k)[k]? = some l[k] := by
  rw [mixT, List.getElem?_append_right (by simp; omega)]
  simp [Nat.min_eq_left (Nat.le_of_lt h), h]
theorem mixT_succ (l : List Tsk) (n k : Nat) (h : k < l.length) : mixT l n (k + 1) = (mixT l n k).set k (strT n l[k]) := by
  rw [mixT, mixT, List.take_succ_eq_append_getElem h, List.map_append, List.set_append_right _ _ (by simp; omega)]
  simp only [List.length_map, List.length_take, Nat.min_eq_left (Nat.le_of_lt h), Nat.sub_self]
  simp
  rw [List.drop_eq_getElem_cons h]
  rfl
set_option maxHeartbeats 1000000 in
theorem cancel_T (jobs : List Jb) (now ser : Int) (rs : List Int) (ts : List Tm) (tasks : List Tsk) (log : List Rc) (n : Nat) (hn : n < tasks.length) (hw : ∀ t ∈ tasks, t.waiters.length ≤ 1000000) (hs : Small ⟨now, ser, rs, ts⟩) (y1 y2 : Int) (y3 : List Int) (y4 : List Tm) (f : Int × Int) (ys : List Tsk) (e : wakeP ⟨now, ser, rs, ts⟩ n = (⟨y1, y2, y3, y4⟩, f)) (ey : cancelTs tasks n = ys) (r1 r2 : List (List E)) (e1 : r1 = [smRow jobs now ser rs ts tasks.length log]) (e2 : r2 = tasks.map Tsk.row) :
    CallsA Try.prog 70 [smP, di n] [(1, .fm 80 r1), (2, .fm 104 r2)] (Iso (.t []) (smOb jobs y1 y2 y3 y4 ys log)) := by
  subst e1 e2
  obtain ⟨tn, htn⟩ : ∃ t, tasks[n]? = some t := ⟨_, List.getElem?_eq_getElem hn⟩
  obtain ⟨job, begun, guarding, ended, cancelled, left, ws⟩ := tn
  have hmod : (tasks.modify n fun t => { t with cancelled := true }) = tasks.set n ⟨job, begun, guarding, ended, true, left, ws⟩ := by
    apply List.ext_getElem?
    intro i
    rw [List.getElem?_modify, List.getElem?_set]
    by_cases hi : n = i
    · subst hi; rw [htn]; simp [hn]
    · simp [hi]
  have hw0 : ∀ t ∈ tasks.set n ⟨job, begun, guarding, ended, true, left, ws⟩, t.waiters.length ≤ 1000000 := fun t ht => by
    rcases List.mem_or_eq_of_mem_set ht with h | rfl
    · exact hw t h
    · have := hw _ (List.mem_of_getElem? htn); exact this
  have hlen0 : (tasks.set n ⟨job, begun, guarding, ended, true, left, ws⟩).length = tasks.length := by simp
  have hys : ys = mixT (tasks.set n ⟨job, begun, guarding, ended, true, left, ws⟩) n tasks.length := by
    rw [← ey, cancelTs, hmod, mixT, List.take_of_length_le (by simp), List.drop_of_length_le (by simp), List.append_nil]; rfl
  refine callsA_of_vcO (T := tt) Try.func70 rfl rfl rfl rfl rfl ?_
  repeat' ((conv => whnf); first | refine Rw_ptrs (by omega) ?_ | refine Rw_tsk htn ?_ | refine Gs.go (i := 2) (Ghost.frzB 3 rfl rfl) ?_ | refine Gs.id ?_ | (refine Bnd.mk (fun hm => ?_); (try simp only [smT] at hm)) | refine Ixo.mk ⟨_, rfl, (by (try simp only [smT]); omega), ?_⟩ | refine Rw.lit rfl ?_ | refine Drw.of (T := tt) (i := 1) [9] [] [(0, true), (1, true), (2, true), (3, true), (4, true), (5, true), (6, true), (7, true), (8, true), (9, false)] (by kernel_rfl) ?_)
  all_goals (conv => whnf)
  generalize htk : tasks.set n ⟨job, begun, guarding, ended, true, left, ws⟩ = tk at hw0 hys hlen0
  refine ⟨⟨Nat, fun k => k ≤ tasks.length, fun k => tasks.length - k, fun k => ⟨[(0, smP), (3, .d (.q [.int .i64 n] 0)), (18, .d (D.r 1 0 5 1 tasks.length)), (19, di tasks.length), (20, di k)], [(1, .fm 80 [smRow jobs now ser rs ts tasks.length log]), (2, .fm 104 ((mixT tk n k).map Tsk.row))]⟩, 0, Nat.zero_le _, ⟨[(1, .k 1), (2, .k 2)], ⟨by (try dsimp only); (repeat (refine LeT.cons rfl (by exact LeS.d (by first | exact LeD.u rfl | exact LeD.u (by simp [mixT, ← htk, List.map_set, Tsk.row]; done) | exact LeD.q rfl | exact LeD.r (by simp [mixT, ← htk, List.map_set, Tsk.row]; done))) ?_)); exact LeT.nil, by (try dsimp only); repeat (first | exact LeO.nil | refine LeO.fm rfl (by first | rfl | simp [mixT, ← htk, List.map_set, Tsk.row]) ?_)⟩⟩, fun k hk => ?_⟩⟩
  dsimp only at hk ⊢
  by_cases h9 : k < tasks.length
  · have hg := mixT_get tk n k (by omega)
    have hws := hw0 _ (List.getElem_mem (show k < tk.length by omega))
    have hsu := mixT_succ tk n k (by omega)
    generalize tk[k]'(by omega) = t at hg hws hsu
    obtain ⟨job', begun', guarding', ended', cancelled', left', ws'⟩ := t
    repeat' ((conv => whnf); first | refine Rw_ptrs (by omega) ?_ | refine Rw_tsk hg ?_ | refine Rw.self (by simp [mixT_len]; omega) ?_ | refine Gs.id ?_ | refine Brn.T (by (try simp only [smT]); first | rfl | omega) ?_ | refine Rng.mk (by (try simp only [smT]); omega) ?_ | refine Ixo.mk ⟨_, rfl, (by (try simp only [smT]); omega), ?_⟩ | refine Rw.lit rfl ?_ | refine Len.mk (by first | rfl | (simp; done)) ?_ | (refine CL.mk (Or.inr (Raw.take 900 28 rfl rfl rfl ((by rw [List.getElem?_map, hg]; rfl)) rfl rfl rfl (Raw.callI [900] [900] rfl rfl rfl rfl rfl rfl rfl (delF_T' ws' n _ (by simp) hws) ?_))); rintro _ _ ⟨rfl, rfl⟩; refine Bk.mk rfl rfl ?_))
    all_goals (conv => whnf)
    · refine ⟨k + 1, by omega, by omega, [(1, .k 1), (2, .k 2)], ⟨by (try dsimp only); (repeat (refine LeT.cons rfl (by exact LeS.d (by first | exact LeD.u rfl | exact LeD.q rfl | exact LeD.r rfl)) ?_)); exact LeT.nil, by (try dsimp only); repeat (first | exact LeO.nil | refine LeO.fm rfl (by first | rfl | simp [hsu, List.map_set, strT, Tsk.row]) ?_)⟩⟩
  · obtain rfl : k = tasks.length := by omega
    repeat' ((conv => whnf); first | refine Gs.id ?_ | refine Brn.F (by (try simp only [smT]); first | rfl | omega) ?_ | refine Rw.lit rfl ?_ | refine Drw.of (T := tt) (i := 7) [12] [9] [(0, true), (1, true), (2, true), (3, true), (4, true), (5, true), (6, false), (7, true), (8, true), (9, true), (10, true), (11, true), (12, false)] (by kernel_rfl) ?_ | (refine CL.mk (Or.inl ?_); (conv => whnf); refine Cl.is (wake_T' _ _ _ _ hs _ y1 y2 y3 y4 f e) rfl (by first | (intro e; cases e; done)) ?_))
    all_goals (conv => whnf)
    · subst hys
      exact RetO.mk ⟨[], _, _, .ts .nil, LeO.fm rfl (by simp [mixT_len, hlen0]) (LeO.fm rfl rfl .nil), rfl, rfl⟩
end Go.Proofs.Ytgiebofmfkacgaa
namespace Go.Proofs.Ytgiebofmfkacgaa
open Go.RowKit

structure Sm where
  now : Int
  ser : Int
  rs : List Int
  ts : List Tm
  tasks : List Tsk
  log : List Rc
abbrev Sm.ck (s : Sm) : Ck := ⟨s.now, s.ser, s.rs, s.ts⟩
def Sm.put (s : Sm) (c : Ck) : Sm := ⟨c.now, c.ser, c.rs, c.ts, s.tasks, s.log⟩
def Sm.note (s : Sm) (n k x : Int) : Sm := ⟨s.now, s.ser, s.rs, s.ts, s.tasks, s.log ++ [⟨s.now, n, k, x⟩]⟩
def spawnM (jobs : List Jb) (s : Sm) (j : Nat) : Sm := if s.tasks.length = 60 then s else
  ⟨(readyM s.ck s.tasks.length).1.now, (readyM s.ck s.tasks.length).1.ser, (readyM s.ck s.tasks.length).1.rs, (readyM s.ck s.tasks.length).1.ts, s.tasks ++ [⟨j, false, false, false, false, (jobs.getD j ⟨[], []⟩).acts, []⟩], s.log⟩
theorem sleep_T' (now ser : Int) (rs : List Int) (ts : List Tm) (hs : Small ⟨now, ser, rs, ts⟩) (n d y1 y2 : Int) (y3 : List Int) (y4 : List Tm) (f : Int × Int) (e : sleepM ⟨now, ser, rs, ts⟩ n d = (⟨y1, y2, y3, y4⟩, f)) : CallsA Try.prog 12 [.a [.u (.int .i64 now), .u (.int .i64 ser), .u (ivs rs), .u (tvs ts)], di n, di d] [] (Is (.t [.a [.u (.int .i64 y1), .u (.int .i64 y2), .u (ivs y3), .u (tvs y4)], .a (fd f)])) := by
  have := sleep_T ⟨now, ser, rs, ts⟩ hs n d
  rw [e] at this
  exact this
theorem spawn_T' (jobs : List Jb) (now ser : Int) (rs : List Int) (ts : List Tm) (tasks : List Tsk) (log : List Rc) (j : Nat) (hj : j < jobs.length) (hn : tasks.length ≤ 60) (hs : Small ⟨now, ser, rs, ts⟩) (y1 y2 : Int) (y3 : List Int) (y4 : List Tm) (ys : List Tsk) (e : spawnM jobs ⟨now, ser, rs, ts, tasks, log⟩ j = ⟨y1, y2, y3, y4, ys, log⟩) (r1 r2 : List (List E)) (e1 : r1 = [smRow jobs now ser rs ts tasks.length log]) (e2 : r2 = tasks.map Tsk.row) :
    CallsA Try.prog 46 [smP, di j] [(1, .fm 80 r1), (2, .fm 104 r2)] (Iso (.t []) (smOb jobs y1 y2 y3 y4 ys log)) := by
  subst e1 e2
  by_cases h6 : tasks.length = 60
  · rw [spawnM, if_pos h6] at e
    injection e with q1 q2 q3 q4 q5
    subst q1 q2 q3 q4 q5
    refine callsA_of_vcO (T := tt) Try.func46 rfl rfl rfl rfl rfl ?_
    repeat' ((conv => whnf); first | refine Gs.id ?_ | refine Brn.T (by (try simp only [smT]); first | rfl | omega) ?_ | (refine Bnd.mk (fun hm => ?_); (try simp only [smT] at hm)) | refine Rw.lit rfl ?_)
    all_goals (conv => whnf)
    · exact RetO.mk ⟨[], _, _, .ts .nil, LeO.fm rfl rfl (LeO.fm rfl rfl .nil), rfl, rfl⟩
  · rw [spawnM, if_neg h6] at e
    generalize hz : readyM ⟨now, ser, rs, ts⟩ tasks.length = z at e
    obtain ⟨⟨z1, z2, z3, z4⟩, zf⟩ := z
    have := spawn_T jobs now ser rs ts tasks log j hj (by omega) hs z1 z2 z3 z4 zf hz
    injection e with q1 q2 q3 q4 q5
    dsimp only [Sm.ck] at q1 q2 q3 q4 q5
    try rw [hz] at q1 q2 q3 q4
    try dsimp only at q1 q2 q3 q4
    subst q1 q2 q3 q4 q5
    have hq : jobs.getD j ⟨[], []⟩ = jobs[j] := by simp [List.getD, hj]
    rw [hq]
    exact this
theorem Rw_ptrs' {n m : Nat} (m' : Nat) {K : List V → Prop} (h : m' < n) (hm : m = m') (k : K [V.m 2 m' 0]) : Rw (ptrs n) m K := by subst hm; exact Rw_ptrs h k
theorem act1_T (jobs : List Jb) (now ser : Int) (rs : List Int) (ts : List Tm) (tasks : List Tsk) (log : List Rc) (n : Nat) (hn : n < tasks.length) (m : Nat) (hl : log.length ≤ 1000000) (r1 r2 : List (List E)) (e1 : r1 = [smRow jobs now ser rs ts tasks.length log]) (e2 : r2 = tasks.map Tsk.row) :
    CallsA Try.prog 63 [smP, di n, .a [.u (.int .i64 1), .u (.int .i64 m)]] [(1, .fm 80 r1), (2, .fm 104 r2)] (Iso (db false) (smOb jobs now ser rs ts tasks (log ++ [⟨now, n, 2, m⟩]))) := by
  subst e1 e2
  refine callsA_of_vcO (T := tt) Try.func63 rfl rfl rfl rfl rfl ?_
  repeat' ((conv => whnf); first | refine Rw_ptrs' m (by omega) (by omega) ?_ | refine Ixo.mk ⟨m, (by first | (simp only [smT]; omega)), (by first | (simp only [smT]; omega)), ?_⟩ | refine Gs.id ?_ | with_reducible refine Brn.T rfl ?_ | with_reducible refine Brn.F rfl ?_ | refine Brn.T (by (try simp only [smT]); first | rfl | assumption) ?_ | refine Brn.F (by (try simp only [smT]); first | rfl | assumption) ?_ | (refine Brn.mk (fun hb => ?_) (fun hb => ?_) <;> (try simp only [smT] at hb) <;> (try (exact absurd trivial hb)) <;> (try (exfalso; omega))) | (refine Bnd.mk (fun hm => ?_); (try simp only [smT] at hm)) | refine Rng.mk (by (try simp only [smT]); omega) ?_ | refine Rw.lit rfl ?_ | refine Rw.map (by (try simp only [smT]); omega) ?_ | refine Drw.of (T := tt) (i := 2) [] [] [(0, true), (1, true), (2, true), (3, true), (4, true), (5, true), (6, true), (7, true), (8, true), (9, true), (10, true), (11, true), (12, true), (13, true), (14, true), (15, true), (16, true), (17, true), (18, true), (19, true), (20, true), (21, true), (22, true), (23, true), (24, true), (25, true), (26, true), (27, true), (28, true), (29, true), (30, true), (31, true), (32, true)] (by kernel_rfl) ?_ | (refine CL.mk (Or.inr (Raw.callI [1,2] [1,2] rfl rfl rfl rfl rfl rfl rfl (note_T' jobs now ser rs ts tasks _ _ _ _ hl _ _ rfl rfl) ?_)); rintro _ _ ⟨rfl, rfl⟩; refine Bk.mk rfl rfl ?_))
  all_goals (conv => whnf)
  all_goals exact RetO.mk ⟨[], _, _, .d (.u rfl), LeO.fm rfl (by first | rfl | simp [Tsk.row, List.map_set]) (LeO.fm rfl (by first | rfl | simp [Tsk.row, List.map_set]) .nil), rfl, rfl⟩
theorem act2_T (jobs : List Jb) (now ser : Int) (rs : List Int) (ts : List Tm) (tasks : List Tsk) (log : List Rc) (n : Nat) (hn : n < tasks.length) (m : Nat) (hs : Small ⟨now, ser, rs, ts⟩) (z1 z2 : Int) (z3 : List Int) (z4 : List Tm) (zf : Int × Int) (hz : sleepM ⟨now, ser, rs, ts⟩ n m = (⟨z1, z2, z3, z4⟩, zf)) (r1 r2 : List (List E)) (e1 : r1 = [smRow jobs now ser rs ts tasks.length log]) (e2 : r2 = tasks.map Tsk.row) :
    CallsA Try.prog 63 [smP, di n, .a [.u (.int .i64 2), .u (.int .i64 m)]] [(1, .fm 80 r1), (2, .fm 104 r2)] (Iso (db true) (smOb jobs z1 z2 z3 z4 tasks log)) := by
  subst e1 e2
  refine callsA_of_vcO (T := tt) Try.func63 rfl rfl rfl rfl rfl ?_
  repeat' ((conv => whnf); first | refine Rw_ptrs' m (by omega) (by omega) ?_ | refine Ixo.mk ⟨m, (by first | (simp only [smT]; omega)), (by first | (simp only [smT]; omega)), ?_⟩ | refine Gs.id ?_ | with_reducible refine Brn.T rfl ?_ | with_reducible refine Brn.F rfl ?_ | refine Brn.T (by (try simp only [smT]); first | rfl | assumption) ?_ | refine Brn.F (by (try simp only [smT]); first | rfl | assumption) ?_ | (refine Brn.mk (fun hb => ?_) (fun hb => ?_) <;> (try simp only [smT] at hb) <;> (try (exact absurd trivial hb)) <;> (try (exfalso; omega))) | (refine Bnd.mk (fun hm => ?_); (try simp only [smT] at hm)) | refine Rng.mk (by (try simp only [smT]); omega) ?_ | refine Rw.lit rfl ?_ | refine Rw.map (by (try simp only [smT]); omega) ?_ | refine Drw.of (T := tt) (i := 2) [] [] [(0, true), (1, true), (2, true), (3, true), (4, true), (5, true), (6, true), (7, true), (8, true), (9, true), (10, true), (11, true), (12, true), (13, true), (14, true), (15, true), (16, true), (17, true), (18, true), (19, true), (20, true), (21, true), (22, true), (23, true), (24, true), (25, true), (26, true), (27, true), (28, true), (29, true), (30, true), (31, true), (32, true)] (by kernel_rfl) ?_ | refine Drw.of (T := tt) (i := 7) [14] [11] [(0, true), (1, true), (2, true), (3, true), (4, true), (5, true), (6, true), (7, true), (8, false), (9, true), (10, true), (11, true), (12, true), (13, true), (14, false)] (by kernel_rfl) ?_ | (refine CL.mk (Or.inl ?_); (conv => whnf); refine Cl.is (sleep_T' _ _ _ _ hs _ _ z1 z2 z3 z4 zf hz) rfl (by first | (intro e; cases e; done)) ?_))
  all_goals (conv => whnf)
  all_goals exact RetO.mk ⟨[], _, _, .d (.u rfl), LeO.fm rfl (by first | rfl | simp [Tsk.row, List.map_set]) (LeO.fm rfl (by first | rfl | simp [Tsk.row, List.map_set]) .nil), rfl, rfl⟩
theorem act3_T (jobs : List Jb) (now ser : Int) (rs : List Int) (ts : List Tm) (tasks : List Tsk) (log : List Rc) (n : Nat) (hn : n < tasks.length) (m : Nat) (hmj : m < jobs.length) (hn6 : tasks.length ≤ 60) (hs : Small ⟨now, ser, rs, ts⟩) (p1 p2 : Int) (p3 : List Int) (p4 : List Tm) (ys : List Tsk) (hp : spawnM jobs ⟨now, ser, rs, ts, tasks, log⟩ m = ⟨p1, p2, p3, p4, ys, log⟩) (r1 r2 : List (List E)) (e1 : r1 = [smRow jobs now ser rs ts tasks.length log]) (e2 : r2 = tasks.map Tsk.row) :
    CallsA Try.prog 63 [smP, di n, .a [.u (.int .i64 3), .u (.int .i64 m)]] [(1, .fm 80 r1), (2, .fm 104 r2)] (Iso (db false) (smOb jobs p1 p2 p3 p4 ys log)) := by
  subst e1 e2
  refine callsA_of_vcO (T := tt) Try.func63 rfl rfl rfl rfl rfl ?_
  repeat' ((conv => whnf); first | refine Rw_ptrs' m (by omega) (by omega) ?_ | refine Ixo.mk ⟨m, (by first | (simp only [smT]; omega)), (by first | (simp only [smT]; omega)), ?_⟩ | refine Gs.id ?_ | with_reducible refine Brn.T rfl ?_ | with_reducible refine Brn.F rfl ?_ | refine Brn.T (by (try simp only [smT]); first | rfl | assumption) ?_ | refine Brn.F (by (try simp only [smT]); first | rfl | assumption) ?_ | (refine Brn.mk (fun hb => ?_) (fun hb => ?_) <;> (try simp only [smT] at hb) <;> (try (exact absurd trivial hb)) <;> (try (exfalso; omega))) | (refine Bnd.mk (fun hm => ?_); (try simp only [smT] at hm)) | refine Rng.mk (by (try simp only [smT]); omega) ?_ | refine Rw.lit rfl ?_ | refine Rw.map (by (try simp only [smT]); omega) ?_ | refine Drw.of (T := tt) (i := 2) [] [] [(0, true), (1, true), (2, true), (3, true), (4, true), (5, true), (6, true), (7, true), (8, true), (9, true), (10, true), (11, true), (12, true), (13, true), (14, true), (15, true), (16, true), (17, true), (18, true), (19, true), (20, true), (21, true), (22, true), (23, true), (24, true), (25, true), (26, true), (27, true), (28, true), (29, true), (30, true), (31, true), (32, true)] (by kernel_rfl) ?_ | (refine CL.mk (Or.inr (Raw.callI [1,2] [1,2] rfl rfl rfl rfl rfl rfl rfl (spawn_T' jobs now ser rs ts tasks _ m hmj hn6 hs p1 p2 p3 p4 ys hp _ _ rfl rfl) ?_)); rintro _ _ ⟨rfl, rfl⟩; refine Bk.mk rfl rfl ?_))
  all_goals (conv => whnf)
  all_goals exact RetO.mk ⟨[], _, _, .d (.u rfl), LeO.fm rfl (by first | rfl | simp [Tsk.row, List.map_set]) (LeO.fm rfl (by first | rfl | simp [Tsk.row, List.map_set]) .nil), rfl, rfl⟩
theorem act4a_T (jobs : List Jb) (now ser : Int) (rs : List Int) (ts : List Tm) (tasks : List Tsk) (log : List Rc) (n : Nat) (hn : n < tasks.length) (m : Nat) (job : Int) (begun guarding cancelled : Bool) (left : List Ac) (ws : List Int) (ht : tasks[m]? = some ⟨job, begun, guarding, false, cancelled, left, ws⟩) (hmn : m ≠ n) (hw : ws.length ≤ 1000000) (r1 r2 : List (List E)) (e1 : r1 = [smRow jobs now ser rs ts tasks.length log]) (e2 : r2 = tasks.map Tsk.row) :
    CallsA Try.prog 63 [smP, di n, .a [.u (.int .i64 4), .u (.int .i64 m)]] [(1, .fm 80 r1), (2, .fm 104 r2)] (Iso (db true) (smOb jobs now ser rs ts (tasks.set m ⟨job, begun, guarding, false, cancelled, left, ws ++ [(n : Int)]⟩) log)) := by
  subst e1 e2
  have hmt := lt_of_get ht
  refine callsA_of_vcO (T := tt) Try.func63 rfl rfl rfl rfl rfl ?_
  repeat' ((conv => whnf); first | refine Rw_ptrs' m (by omega) (by omega) ?_ | refine Ixo.mk ⟨m, (by first | omega | (simp only [smT]; omega)), (by first | (simp only [smT]; omega)), ?_⟩ | refine Rw_tsk ht ?_ | refine Gs.id ?_ | with_reducible refine Brn.T rfl ?_ | with_reducible refine Brn.F rfl ?_ | refine Brn.T (by (try simp only [smT]); first | rfl | omega) ?_ | (refine Bnd.mk (fun hm => ?_); (try simp only [smT] at hm)) | refine Rng.mk (by (try simp only [smT]); omega) ?_ | refine Rw.lit rfl ?_ | refine Rw.self (by (try simp only [smT]); omega) ?_ | refine Len.mk (by rfl) ?_ | refine Apd.mk (by rfl) (by rfl) (by (try simp only [smT]); omega) (by unfold maxLen; first | (simp; omega)) ?_ | (refine Raw.appendR (T := tt) ?_; (conv => whnf); refine Rw_tsk ht ?_) | refine Drw.of (T := tt) (i := 2) [] [] [(0, true), (1, true), (2, true), (3, true), (4, true), (5, true), (6, true), (7, true), (8, true), (9, true), (10, true), (11, true), (12, true), (13, true), (14, true), (15, true), (16, true), (17, true), (18, true), (19, true), (20, true), (21, true), (22, true), (23, true), (24, true), (25, true), (26, true), (27, true), (28, true), (29, true), (30, true), (31, true), (32, true)] (by kernel_rfl) ?_)
  all_goals (conv => whnf)
  all_goals exact RetO.mk ⟨[], _, _, .d (.u rfl), LeO.fm rfl (by first | rfl | simp [Tsk.row, List.map_set]) (LeO.fm rfl (by first | rfl | simp [Tsk.row, List.map_set]) .nil), rfl, rfl⟩
theorem act4b_T (jobs : List Jb) (now ser : Int) (rs : List Int) (ts : List Tm) (tasks : List Tsk) (log : List Rc) (n : Nat) (hn : n < tasks.length) (m : Nat) (hd : m = n ∨ tasks.length ≤ m) (r1 r2 : List (List E)) (e1 : r1 = [smRow jobs now ser rs ts tasks.length log]) (e2 : r2 = tasks.map Tsk.row) :
    CallsA Try.prog 63 [smP, di n, .a [.u (.int .i64 4), .u (.int .i64 m)]] [(1, .fm 80 r1), (2, .fm 104 r2)] (Iso (db false) (smOb jobs now ser rs ts tasks log)) := by
  subst e1 e2
  refine callsA_of_vcO (T := tt) Try.func63 rfl rfl rfl rfl rfl ?_
  repeat' ((conv => whnf); first | refine Gs.id ?_ | with_reducible refine Brn.T rfl ?_ | with_reducible refine Brn.F rfl ?_ | refine Brn.T (by (try simp only [smT]); first | rfl | assumption) ?_ | refine Brn.F (by (try simp only [smT]); first | rfl | assumption | omega) ?_ | (refine Brn.mk (fun hb => ?_) (fun hb => ?_) <;> (try simp only [smT] at hb) <;> (try (exact absurd trivial hb)) <;> (try (exfalso; omega))) | (refine Bnd.mk (fun hm => ?_); (try simp only [smT] at hm)) | refine Rw.lit rfl ?_ | refine Drw.of (T := tt) (i := 2) [] [] [(0, true), (1, true), (2, true), (3, true), (4, true), (5, true), (6, true), (7, true), (8, true), (9, true), (10, true), (11, true), (12, true), (13, true), (14, true), (15, true), (16, true), (17, true), (18, true), (19, true), (20, true), (21, true), (22, true), (23, true), (24, true), (25, true), (26, true), (27, true), (28, true), (29, true), (30, true), (31, true), (32, true)] (by kernel_rfl) ?_)
  all_goals (conv => whnf)
  all_goals exact RetO.mk ⟨[], _, _, .d (.u rfl), LeO.fm rfl (by first | rfl | simp [Tsk.row, List.map_set]) (LeO.fm rfl (by first | rfl | simp [Tsk.row, List.map_set]) .nil), rfl, rfl⟩
theorem act4c_T (jobs : List Jb) (now ser : Int) (rs : List Int) (ts : List Tm) (tasks : List Tsk) (log : List Rc) (n : Nat) (hn : n < tasks.length) (m : Nat) (job : Int) (begun guarding cancelled : Bool) (left : List Ac) (ws : List Int) (ht : tasks[m]? = some ⟨job, begun, guarding, true, cancelled, left, ws⟩) (r1 r2 : List (List E)) (e1 : r1 = [smRow jobs now ser rs ts tasks.length log]) (e2 : r2 = tasks.map Tsk.row) :
    CallsA Try.prog 63 [smP, di n, .a [.u (.int .i64 4), .u (.int .i64 m)]] [(1, .fm 80 r1), (2, .fm 104 r2)] (Iso (db false) (smOb jobs now ser rs ts tasks log)) := by
  subst e1 e2
  have hmt := lt_of_get ht
  refine callsA_of_vcO (T := tt) Try.func63 rfl rfl rfl rfl rfl ?_
  repeat' ((conv => whnf); first | refine Rw_ptrs' m (by omega) (by omega) ?_ | refine Ixo.mk ⟨m, (by first | (simp only [smT]; omega)), (by first | (simp only [smT]; omega)), ?_⟩ | refine Rw_tsk ht ?_ | refine Gs.id ?_ | with_reducible refine Brn.T rfl ?_ | with_reducible refine Brn.F rfl ?_ | refine Brn.T (by (try simp only [smT]); first | rfl | assumption | omega) ?_ | refine Brn.F (by (try simp only [smT]); first | rfl | assumption) ?_ | (refine Brn.mk (fun hb => ?_) (fun hb => ?_) <;> (try simp only [smT] at hb) <;> (try (exact absurd trivial hb)) <;> (try (exfalso; omega))) | (refine Bnd.mk (fun hm => ?_); (try simp only [smT] at hm)) | refine Rng.mk (by (try simp only [smT]); omega) ?_ | refine Rw.lit rfl ?_ | refine Drw.of (T := tt) (i := 2) [] [] [(0, true), (1, true), (2, true), (3, true), (4, true), (5, true), (6, true), (7, true), (8, true), (9, true), (10, true), (11, true), (12, true), (13, true), (14, true), (15, true), (16, true), (17, true), (18, true), (19, true), (20, true), (21, true), (22, true), (23, true), (24, true), (25, true), (26, true), (27, true), (28, true), (29, true), (30, true), (31, true), (32, true)] (by kernel_rfl) ?_)
  all_goals (conv => whnf)
  all_goals exact RetO.mk ⟨[], _, _, .d (.u rfl), LeO.fm rfl (by first | rfl | simp [Tsk.row, List.map_set]) (LeO.fm rfl (by first | rfl | simp [Tsk.row, List.map_set]) .nil), rfl, rfl⟩
theorem act5a_T (jobs : List Jb) (now ser : Int) (rs : List Int) (ts : List Tm) (tasks : List Tsk) (log : List Rc) (n : Nat) (hn : n < tasks.length) (m : Nat) (job : Int) (begun guarding : Bool) (left : List Ac) (ws : List Int) (ht : tasks[m]? = some ⟨job, begun, guarding, false, false, left, ws⟩) (hmn : m ≠ n) (hwl : ∀ t ∈ tasks, t.waiters.length ≤ 1000000) (hs : Small ⟨now, ser, rs, ts⟩) (w1 w2 : Int) (w3 : List Int) (w4 : List Tm) (wf : Int × Int) (hw : wakeP ⟨now, ser, rs, ts⟩ m = (⟨w1, w2, w3, w4⟩, wf)) (r1 r2 : List (List E)) (e1 : r1 = [smRow jobs now ser rs ts tasks.length log]) (e2 : r2 = tasks.map Tsk.row) :
    CallsA Try.prog 63 [smP, di n, .a [.u (.int .i64 5), .u (.int .i64 m)]] [(1, .fm 80 r1), (2, .fm 104 r2)] (Iso (db false) (smOb jobs w1 w2 w3 w4 (cancelTs tasks m) log)) := by
  subst e1 e2
  have hmt := lt_of_get ht
  refine callsA_of_vcO (T := tt) Try.func63 rfl rfl rfl rfl rfl ?_
  repeat' ((conv => whnf); first | refine Rw_ptrs' m (by omega) (by omega) ?_ | refine Ixo.mk ⟨m, (by first | omega | (simp only [smT]; omega)), (by first | (simp only [smT]; omega)), ?_⟩ | refine Rw_tsk ht ?_ | refine Gs.id ?_ | with_reducible refine Brn.T rfl ?_ | with_reducible refine Brn.F rfl ?_ | refine Brn.T (by (try simp only [smT]); first | rfl | omega) ?_ | (refine Bnd.mk (fun hm => ?_); (try simp only [smT] at hm)) | refine Rng.mk (by (try simp only [smT]); omega) ?_ | refine Rw.lit rfl ?_ | refine Drw.of (T := tt) (i := 2) [] [] [(0, true), (1, true), (2, true), (3, true), (4, true), (5, true), (6, true), (7, true), (8, true), (9, true), (10, true), (11, true), (12, true), (13, true), (14, true), (15, true), (16, true), (17, true), (18, true), (19, true), (20, true), (21, true), (22, true), (23, true), (24, true), (25, true), (26, true), (27, true), (28, true), (29, true), (30, true), (31, true), (32, true)] (by kernel_rfl) ?_ | (refine CL.mk (Or.inr (Raw.callI [1,2] [1,2] rfl rfl rfl rfl rfl rfl rfl (cancel_T jobs now ser rs ts tasks _ m hmt hwl hs w1 w2 w3 w4 wf _ hw rfl _ _ rfl rfl) ?_)); rintro _ _ ⟨rfl, rfl⟩; refine Bk.mk rfl rfl ?_))
  all_goals (conv => whnf)
  all_goals exact RetO.mk ⟨[], _, _, .d (.u rfl), LeO.fm rfl (by first | rfl | simp [Tsk.row, List.map_set]) (LeO.fm rfl (by first | rfl | simp [Tsk.row, List.map_set]) .nil), rfl, rfl⟩
theorem act5b_T (jobs : List Jb) (now ser : Int) (rs : List Int) (ts : List Tm) (tasks : List Tsk) (log : List Rc) (n : Nat) (hn : n < tasks.length) (m : Nat) (hd : m = n ∨ tasks.length ≤ m) (r1 r2 : List (List E)) (e1 : r1 = [smRow jobs now ser rs ts tasks.length log]) (e2 : r2 = tasks.map Tsk.row) :
    CallsA Try.prog 63 [smP, di n, .a [.u (.int .i64 5), .u (.int .i64 m)]] [(1, .fm 80 r1), (2, .fm 104 r2)] (Iso (db false) (smOb jobs now ser rs ts tasks log)) := by
  subst e1 e2
  refine callsA_of_vcO (T := tt) Try.func63 rfl rfl rfl rfl rfl ?_
  repeat' ((conv => whnf); first | refine Gs.id ?_ | with_reducible refine Brn.T rfl ?_ | with_reducible refine Brn.F rfl ?_ | refine Brn.T (by (try simp only [smT]); first | rfl | assumption) ?_ | refine Brn.F (by (try simp only [smT]); first | rfl | assumption | omega) ?_ | (refine Brn.mk (fun hb => ?_) (fun hb => ?_) <;> (try simp only [smT] at hb) <;> (try (exact absurd trivial hb)) <;> (try (exfalso; omega))) | (refine Bnd.mk (fun hm => ?_); (try simp only [smT] at hm)) | refine Rw.lit rfl ?_ | refine Drw.of (T := tt) (i := 2) [] [] [(0, true), (1, true), (2, true), (3, true), (4, true), (5, true), (6, true), (7, true), (8, true), (9, true), (10, true), (11, true), (12, true), (13, true), (14, true), (15, true), (16, true), (17, true), (18, true), (19, true), (20, true), (21, true), (22, true), (23, true), (24, true), (25, true), (26, true), (27, true), (28, true), (29, true), (30, true), (31, true), (32, true)] (by kernel_rfl) ?_)
  all_goals (conv => whnf)
  all_goals exact RetO.mk ⟨[], _, _, .d (.u rfl), LeO.fm rfl (by first | rfl | simp [Tsk.row, List.map_set]) (LeO.fm rfl (by first | rfl | simp [Tsk.row, List.map_set]) .nil), rfl, rfl⟩
theorem act5c_T (jobs : List Jb) (now ser : Int) (rs : List Int) (ts : List Tm) (tasks : List Tsk) (log : List Rc) (n : Nat) (hn : n < tasks.length) (m : Nat) (job : Int) (begun guarding ended cancelled : Bool) (left : List Ac) (ws : List Int) (ht : tasks[m]? = some ⟨job, begun, guarding, ended, cancelled, left, ws⟩) (hec : ended = true ∨ cancelled = true) (r1 r2 : List (List E)) (e1 : r1 = [smRow jobs now ser rs ts tasks.length log]) (e2 : r2 = tasks.map Tsk.row) :
    CallsA Try.prog 63 [smP, di n, .a [.u (.int .i64 5), .u (.int .i64 m)]] [(1, .fm 80 r1), (2, .fm 104 r2)] (Iso (db false) (smOb jobs now ser rs ts tasks log)) := by
  subst e1 e2
  have hmt := lt_of_get ht
  rcases hec with rfl | rfl
  all_goals (
    refine callsA_of_vcO (T := tt) Try.func63 rfl rfl rfl rfl rfl ?_
    repeat' ((conv => whnf); first | refine Rw_ptrs' m (by omega) (by omega) ?_ | refine Ixo.mk ⟨m, (by first | omega | (simp only [smT]; omega)), (by first | (simp only [smT]; omega)), ?_⟩ | refine Rw_tsk ht ?_ | refine Gs.id ?_ | with_reducible refine Brn.T rfl ?_ | with_reducible refine Brn.F rfl ?_ | refine Brn.T (by (try simp only [smT]); first | rfl | assumption | omega) ?_ | refine Brn.F (by (try simp only [smT]); first | rfl | assumption) ?_ | (refine Brn.mk (fun hb => ?_) (fun hb => ?_) <;> (try simp only [smT] at hb) <;> (try (exact absurd trivial hb)) <;> (try (exfalso; omega))) | (refine Bnd.mk (fun hm => ?_); (try simp only [smT] at hm)) | refine Rng.mk (by (try simp only [smT]); omega) ?_ | refine Rw.lit rfl ?_ | refine Drw.of (T := tt) (i := 2) [] [] [(0, true), (1, true), (2, true), (3, true), (4, true), (5, true), (6, true), (7, true), (8, true), (9, true), (10, true), (11, true), (12, true), (13, true), (14, true), (15, true), (16, true), (17, true), (18, true), (19, true), (20, true), (21, true), (22, true), (23, true), (24, true), (25, true), (26, true), (27, true), (28, true), (29, true), (30, true), (31, true), (32, true)] (by kernel_rfl) ?_)
    all_goals (conv => whnf)
    all_goals exact RetO.mk ⟨[], _, _, .d (.u rfl), LeO.fm rfl (by first | rfl | simp [Tsk.row, List.map_set]) (LeO.fm rfl (by first | rfl | simp [Tsk.row, List.map_set]) .nil), rfl, rfl⟩)
end Go.Proofs.Ytgiebofmfkacgaa
namespace Go.Proofs.Ytgiebofmfkacgaa
open Go.RowKit

def actM (jobs : List Jb) (s : Sm) (n : Nat) (k : Int) (m : Nat) : Sm × Bool :=
  if k = 1 then (s.note n 2 m, false) else
  if k = 2 then (s.put (sleepM s.ck n m).1, true) else
  if k = 3 then (spawnM jobs s m, false) else
  match s.tasks[m]? with
  | none => (s, false)
  | some t =>
    if k = 4 then (if m ≠ n ∧ t.ended = false then (⟨s.now, s.ser, s.rs, s.ts, s.tasks.set m { t with waiters := t.waiters ++ [(n : Int)] }, s.log⟩, true) else (s, false)) else
    (if m ≠ n ∧ t.ended = false ∧ t.cancelled = false then (⟨(wakeP s.ck m).1.now, (wakeP s.ck m).1.ser, (wakeP s.ck m).1.rs, (wakeP s.ck m).1.ts, cancelTs s.tasks m, s.log⟩, false) else (s, false))
theorem act_T (jobs : List Jb) (now ser : Int) (rs : List Int) (ts : List Tm) (tasks : List Tsk) (log : List Rc) (n : Nat) (hn : n < tasks.length) (hn6 : tasks.length ≤ 60) (hl : log.length ≤ 1000000) (hs : Small ⟨now, ser, rs, ts⟩) (k : Int) (m : Nat) (hk : 1 ≤ k ∧ k ≤ 5) (hv : k = 3 → m < jobs.length) (hwl : ∀ t ∈ tasks, t.waiters.length ≤ 1000000) (y1 y2 : Int) (y3 : List Int) (y4 : List Tm) (ys : List Tsk) (yl : List Rc) (b : Bool) (e : actM jobs ⟨now, ser, rs, ts, tasks, log⟩ n k m = (⟨y1, y2, y3, y4, ys, yl⟩, b)) (r1 r2 : List (List E)) (e1 : r1 = [smRow jobs now ser rs ts tasks.length log]) (e2 : r2 = tasks.map Tsk.row) :
    CallsA Try.prog 63 [smP, di n, .a [.u (.int .i64 k), .u (.int .i64 m)]] [(1, .fm 80 r1), (2, .fm 104 r2)] (Iso (db b) (smOb jobs y1 y2 y3 y4 ys yl)) := by
  have h5 : k = 1 ∨ k = 2 ∨ k = 3 ∨ k = 4 ∨ k = 5 := by omega
  rcases h5 with rfl | rfl | rfl | rfl | rfl
  · simp only [actM, if_true, Sm.note, Prod.mk.injEq, Sm.mk.injEq] at e
    obtain ⟨⟨rfl, rfl, rfl, rfl, rfl, rfl⟩, rfl⟩ := e
    exact act1_T jobs now ser rs ts tasks log n hn m hl r1 r2 e1 e2
  · simp only [actM, (show ¬ (2 : Int) = 1 by decide), if_false, if_true, Sm.put, Sm.ck, Prod.mk.injEq, Sm.mk.injEq] at e
    obtain ⟨⟨rfl, rfl, rfl, rfl, rfl, rfl⟩, rfl⟩ := e
    exact act2_T jobs now ser rs ts tasks log n hn m hs _ _ _ _ _ rfl r1 r2 e1 e2
  · simp only [actM, (show ¬ (3 : Int) = 1 by decide), (show ¬ (3 : Int) = 2 by decide), if_false, if_true, Prod.mk.injEq] at e
    obtain ⟨e, rfl⟩ := e
    have q : yl = log := by
      unfold spawnM at e
      split at e <;> (injection e with _ _ _ _ _ e; exact e.symm)
    subst q
    exact act3_T jobs now ser rs ts tasks yl n hn m (hv rfl) hn6 hs _ _ _ _ _ e r1 r2 e1 e2
  · simp only [actM, (show ¬ (4 : Int) = 1 by decide), (show ¬ (4 : Int) = 2 by decide), (show ¬ (4 : Int) = 3 by decide), if_false, if_true] at e
    cases ht : tasks[m]? with
    | none =>
      simp only [ht, Prod.mk.injEq, Sm.mk.injEq] at e
      obtain ⟨⟨rfl, rfl, rfl, rfl, rfl, rfl⟩, rfl⟩ := e
      exact act4b_T jobs now ser rs ts tasks log n hn m (.inr (List.getElem?_eq_none_iff.1 ht)) r1 r2 e1 e2
    | some t =>
      obtain ⟨job, begun, guarding, ended, cancelled, left, ws⟩ := t
      have hw : ws.length ≤ 1000000 := hwl _ (List.mem_of_getElem? ht)
      simp only [ht] at e
      by_cases hmn : m = n
      · rw [if_neg (by simp [hmn])] at e
        simp only [Prod.mk.injEq, Sm.mk.injEq] at e
        obtain ⟨⟨rfl, rfl, rfl, rfl, rfl, rfl⟩, rfl⟩ := e
        exact act4b_T jobs now ser rs ts tasks log n hn m (.inl hmn) r1 r2 e1 e2
      · cases ended
        · rw [if_pos ⟨hmn, rfl⟩] at e
          simp only [Prod.mk.injEq, Sm.mk.injEq] at e
          obtain ⟨⟨rfl, rfl, rfl, rfl, rfl, rfl⟩, rfl⟩ := e
          exact act4a_T jobs now ser rs ts tasks log n hn m job begun guarding cancelled left ws ht hmn hw r1 r2 e1 e2
        · rw [if_neg (by simp)] at e
          simp only [Prod.mk.injEq, Sm.mk.injEq] at e
          obtain ⟨⟨rfl, rfl, rfl, rfl, rfl, rfl⟩, rfl⟩ := e
          exact act4c_T jobs now ser rs ts tasks log n hn m job begun guarding cancelled left ws ht r1 r2 e1 e2
  · simp only [actM, (show ¬ (5 : Int) = 1 by decide), (show ¬ (5 : Int) = 2 by decide), (show ¬ (5 : Int) = 3 by decide), (show ¬ (5 : Int) = 4 by decide), if_false, Sm.ck] at e
    cases ht : tasks[m]? with
    | none =>
      simp only [ht, Prod.mk.injEq, Sm.mk.injEq] at e
      obtain ⟨⟨rfl, rfl, rfl, rfl, rfl, rfl⟩, rfl⟩ := e
      exact act5b_T jobs now ser rs ts tasks log n hn m (.inr (List.getElem?_eq_none_iff.1 ht)) r1 r2 e1 e2
    | some t =>
      obtain ⟨job, begun, guarding, ended, cancelled, left, ws⟩ := t
      simp only [ht] at e
      by_cases hmn : m = n
      · rw [if_neg (by simp [hmn])] at e
        simp only [Prod.mk.injEq, Sm.mk.injEq] at e
        obtain ⟨⟨rfl, rfl, rfl, rfl, rfl, rfl⟩, rfl⟩ := e
        exact act5b_T jobs now ser rs ts tasks log n hn m (.inl hmn) r1 r2 e1 e2
      · by_cases hec : ended = false ∧ cancelled = false
        · obtain ⟨rfl, rfl⟩ := hec
          rw [if_pos ⟨hmn, rfl, rfl⟩] at e
          simp only [Prod.mk.injEq, Sm.mk.injEq] at e
          obtain ⟨⟨rfl, rfl, rfl, rfl, rfl, rfl⟩, rfl⟩ := e
          exact act5a_T jobs now ser rs ts tasks log n hn m job begun guarding left ws ht hmn hwl hs _ _ _ _ _ rfl r1 r2 e1 e2
        · rw [if_neg (by intro h; exact hec h.2)] at e
          simp only [Prod.mk.injEq, Sm.mk.injEq] at e
          obtain ⟨⟨rfl, rfl, rfl, rfl, rfl, rfl⟩, rfl⟩ := e
          exact act5c_T jobs now ser rs ts tasks log n hn m job begun guarding ended cancelled left ws ht (by cases ended <;> cases cancelled <;> simp_all) r1 r2 e1 e2
end Go.Proofs.Ytgiebofmfkacgaa
namespace Go.Proofs.Ytgiebofmfkacgaa
open Go.RowKit

def endM (s : Sm) (n : Nat) : Sm := match s.tasks[n]? with
  | none => s
  | some t => ⟨(wakes s.ck t.waiters).now, (wakes s.ck t.waiters).ser, (wakes s.ck t.waiters).rs, (wakes s.ck t.waiters).ts, s.tasks.set n { t with ended := true, waiters := [] }, s.log ++ [⟨s.now, n, 3, 0⟩]⟩
def Sm.set (s : Sm) (n : Nat) (t : Tsk) : Sm := ⟨s.now, s.ser, s.rs, s.ts, s.tasks.set n t, s.log⟩
def goM (jobs : List Jb) (n : Nat) : List Ac → Sm → Sm
  | [], s => endM s n
  | a :: l, s => match s.tasks[n]? with
    | none => s
    | some t => if (actM jobs (s.set n { t with left := l }) n a.kind a.n.toNat).2 then (actM jobs (s.set n { t with left := l }) n a.kind a.n.toNat).1 else goM jobs n l (actM jobs (s.set n { t with left := l }) n a.kind a.n.toNat).1
def proceedM (jobs : List Jb) (s : Sm) (n : Nat) : Sm := match s.tasks[n]? with
  | none => s
  | some t => if t.cancelled then
      (if !t.begun || t.guarding then endM ((s.set n { t with cancelled := false }).note n 4 0) n
        else goM jobs n (jobs.getD t.job.toNat ⟨[], []⟩).guard (((s.set n { t with cancelled := false }).note n 4 0).set n { t with cancelled := false, guarding := true, left := (jobs.getD t.job.toNat ⟨[], []⟩).guard }))
    else if !t.begun then goM jobs n t.left ((s.note n 1 t.job).set n { t with begun := true }) else goM jobs n t.left s
/-- What is left of the task n stays, whatever the task does. -/
theorem actM_left (jobs : List Jb) (s : Sm) (n m : Nat) (k : Int) (t : Tsk) (h : s.tasks[n]? = some t) : ∃ u, (actM jobs s n k m).1.tasks[n]? = some u ∧ u.left = t.left ∧ u.job = t.job := by
  have hn := lt_of_get h
  unfold actM
  split
  · exact ⟨t, h, rfl, rfl⟩
  split
  · exact ⟨t, h, rfl, rfl⟩
  split
  · unfold spawnM
    split
    · exact ⟨t, h, rfl, rfl⟩
    · exact ⟨t, by simp [List.getElem?_append_left hn, h], rfl, rfl⟩
  split
  · exact ⟨t, h, rfl, rfl⟩
  · rename_i v hv
    split
    · split
      · rename_i hc
        exact ⟨t, by simp [List.getElem?_set_ne hc.1, h], rfl, rfl⟩
      · exact ⟨t, h, rfl, rfl⟩
    · split
      · rename_i hc
        refine ⟨{ t with waiters := t.waiters.filter fun w => w != m }, ?_, rfl, rfl⟩
        simp [cancelTs, List.getElem?_modify, hc.1, h]
      · exact ⟨t, h, rfl, rfl⟩
theorem actM_len (jobs : List Jb) (s : Sm) (n m : Nat) (k : Int) (h : s.tasks.length ≤ 60) : s.tasks.length ≤ (actM jobs s n k m).1.tasks.length ∧ (actM jobs s n k m).1.tasks.length ≤ 60 := by
  unfold actM
  split
  · exact ⟨Nat.le_refl _, h⟩
  split
  · exact ⟨Nat.le_refl _, h⟩
  split
  · unfold spawnM
    split
    · exact ⟨Nat.le_refl _, h⟩
    · simp; omega
  split
  · exact ⟨Nat.le_refl _, h⟩
  · split
    · split
      · simp; omega
      · exact ⟨Nat.le_refl _, h⟩
    · split
      · simp [cancelTs]; omega
      · exact ⟨Nat.le_refl _, h⟩
theorem actM_log (jobs : List Jb) (s : Sm) (n m : Nat) (k : Int) : (actM jobs s n k m).1.log.length ≤ s.log.length + 1 := by
  unfold actM
  split
  · simp [Sm.note]
  split
  · simp [Sm.put]
  split
  · unfold spawnM; split <;> simp
  split
  · simp
  · split
    · split <;> simp
    · split <;> simp
theorem wakeP_small (c : Ck) (n : Int) (h : Small c) : Small (wakeP c n).1 := by
  by_cases hv : (validate c).1 = 0
  · exact wake_small (by have := validate_small hv; omega)
  · rw [wakeP, if_neg hv]
    exact ⟨by simp, by simp⟩
theorem actM_small (jobs : List Jb) (s : Sm) (n m : Nat) (k : Int) (h : Small s.ck) : Small (actM jobs s n k m).1.ck := by
  unfold actM
  split
  · exact h
  split
  · exact sleep_small _ _ _
  split
  · unfold spawnM
    split
    · exact h
    · exact ready_small _ _
  split
  · exact h
  · split
    · split <;> exact h
    · split
      · exact wakeP_small _ _ h
      · exact h
/-- The waiters of a task: at most one more. -/
theorem actM_wait (jobs : List Jb) (s : Sm) (n m B : Nat) (k : Int) (h : ∀ t ∈ s.tasks, t.waiters.length ≤ B) : ∀ t ∈ (actM jobs s n k m).1.tasks, t.waiters.length ≤ B + 1 := by
  have h' : ∀ t ∈ s.tasks, t.waiters.length ≤ B + 1 := fun t ht => Nat.le_succ_of_le (h t ht)
  unfold actM
  split
  · exact h'
  split
  · exact h'
  split
  · unfold spawnM
    split
    · exact h'
    · intro t ht
      simp only [List.mem_append, List.mem_singleton] at ht
      rcases ht with ht | rfl
      · exact h' t ht
      · simp
  split
  · exact h'
  · rename_i v hv
    have hv' := h v (List.mem_of_getElem? hv)
    split
    · split
      · intro t ht
        rcases List.mem_or_eq_of_mem_set ht with ht | rfl
        · exact h' t ht
        · simp; exact hv'
      · exact h'
    · split
      · intro t ht
        simp only [cancelTs, List.mem_map] at ht
        obtain ⟨u, hu, rfl⟩ := ht
        have hb : u.waiters.length ≤ B := by
          obtain ⟨i, hi⟩ := List.getElem?_of_mem hu
          rw [List.getElem?_modify] at hi
          cases ho : s.tasks[i]? with
          | none => simp [ho] at hi
          | some w =>
            have hw := h w (List.mem_of_getElem? ho)
            by_cases hmi : m = i
            · simp [ho, hmi] at hi
              subst hi
              exact hw
            · simp [ho, hmi] at hi
              subst hi
              exact hw
        exact Nat.le_succ_of_le (Nat.le_trans (List.length_filter_le ..) hb)
      · exact h'
end Go.Proofs.Ytgiebofmfkacgaa
namespace Go.Proofs.Ytgiebofmfkacgaa
open Go.RowKit

def okA (jobs : List Jb) (a : Ac) : Prop := (1 ≤ a.kind ∧ a.kind ≤ 5) ∧ 0 ≤ a.n ∧ (a.kind = 3 → a.n.toNat < jobs.length)
structure Inv (jobs : List Jb) (n : Nat) (l : List Ac) (s : Sm) : Prop where
  at_ : ∃ t, s.tasks[n]? = some t ∧ t.left = l
  len : s.tasks.length ≤ 60
  log : s.log.length + l.length ≤ 1000000
  small : Small s.ck
  wait : ∀ t ∈ s.tasks, t.waiters.length + l.length ≤ 1000000
  ok : ∀ a ∈ l, okA jobs a
set_option maxHeartbeats 1000000 in
theorem proceedA_T (jobs : List Jb) (now ser : Int) (rs : List Int) (ts : List Tm) (tasks : List Tsk) (log : List Rc) (n : Nat) (job : Int) (guarding ended : Bool) (left : List Ac) (ws : List Int) (ht : tasks[n]? = some ⟨job, true, guarding, ended, false, left, ws⟩) (hi : Inv jobs n left ⟨now, ser, rs, ts, tasks, log⟩) (y1 y2 : Int) (y3 : List Int) (y4 : List Tm) (ys : List Tsk) (yl : List Rc) (e : goM jobs n left ⟨now, ser, rs, ts, tasks, log⟩ = ⟨y1, y2, y3, y4, ys, yl⟩) (r1 r2 : List (List E)) (e1 : r1 = [smRow jobs now ser rs ts tasks.length log]) (e2 : r2 = tasks.map Tsk.row) :
    CallsA Try.prog 47 [smP, di n] [(1, .fm 80 r1), (2, .fm 104 r2)] (Iso (.t []) (smOb jobs y1 y2 y3 y4 ys yl)) := by
  subst e1 e2
  have hn := lt_of_get ht
  refine callsA_of_vcO (T := tt) Try.func47 rfl rfl rfl rfl rfl ?_
  repeat' ((conv => whnf); first | refine Rw_ptrs (by omega) ?_ | refine Rw_tsk ht ?_ | refine Gs.id ?_ | with_reducible refine Brn.F rfl ?_ | refine Ixo.mk ⟨_, rfl, (by (try simp only [smT]); omega), ?_⟩ | refine Rw.lit rfl ?_)
  all_goals (conv => whnf)
  · refine ⟨⟨List Ac × Sm, fun q => Inv jobs n q.1 q.2 ∧ goM jobs n q.1 q.2 = ⟨y1, y2, y3, y4, ys, yl⟩, fun q => q.1.length, fun q => ⟨[(0, smP), (1, di n), (4, .d (.u (.m 2 n 0)))], smOb jobs q.2.now q.2.ser q.2.rs q.2.ts q.2.tasks q.2.log⟩, (left, ⟨now, ser, rs, ts, tasks, log⟩), ⟨hi, e⟩, ⟨[(1, .k 1), (2, .k 2)], ⟨by (try dsimp only); (repeat (refine LeT.cons rfl (by exact LeS.d (by exact LeD.u rfl)) ?_)); exact LeT.nil, by (try dsimp only); repeat (first | exact LeO.nil | refine LeO.fm rfl (by rfl) ?_)⟩⟩, fun ⟨l, s⟩ ⟨hv, he⟩ => ?_⟩⟩
    clear ht hi e hn
    obtain ⟨b1, b2, b3, b4, b5, b6⟩ := s
    obtain ⟨⟨⟨job, begun, guarding, ended, cancelled, lf, ws⟩, ht, hl0⟩, v1, v2, v3, v4, v5⟩ := hv
    dsimp only at hl0
    subst hl0
    dsimp only at ht v1 v2 v3 v4 v5 he ⊢
    have hn := lt_of_get ht
    cases lf with
    | nil =>
      rw [goM, endM] at he
      dsimp only at he
      rw [ht] at he
      dsimp only at he
      generalize hw : wakes ⟨b1, b2, b3, b4⟩ ws = w at he
      obtain ⟨w1, w2, w3, w4⟩ := w
      injection he with q1 q2 q3 q4 q5 q6
      subst q1 q2 q3 q4 q5 q6
      repeat' ((conv => whnf); first | refine Rw_tsk ht ?_ | refine Gs.id ?_ | with_reducible refine Brn.F rfl ?_ | (refine Bnd.mk (fun hm => ?_); (try simp only [smT] at hm)) | (refine CL.mk (Or.inr (Raw.callI [1,2] [1,2] rfl rfl rfl rfl rfl rfl rfl (end_T jobs _ _ _ _ b5 b6 n job begun guarding ended cancelled [] ws ht (by simp at v2; omega) v3 w1 w2 w3 w4 hw _ _ rfl rfl) ?_)); rintro _ _ ⟨rfl, rfl⟩; refine Bk.mk rfl rfl ?_))
      all_goals (conv => whnf)
      all_goals exact RetO.mk ⟨[], _, _, .ts .nil, LeO.fm rfl rfl (LeO.fm rfl rfl .nil), rfl, rfl⟩
    | cons a l =>
      obtain ⟨ak, an⟩ := a
      have hok := v5 ⟨ak, an⟩ (by simp)
      obtain ⟨o1, o2, o3⟩ := hok
      dsimp only at o1 o2 o3
      obtain ⟨m, rfl⟩ : ∃ m : Nat, an = (m : Int) := ⟨an.toNat, by omega⟩
      rw [goM] at he
      dsimp only at he
      rw [ht] at he
      simp only [Sm.set, Int.toNat_natCast] at he o3
      have q9 : ∃ z1 z2 z3 z4 z5 z6 b, actM jobs ⟨b1, b2, b3, b4, b5.set n ⟨job, begun, guarding, ended, cancelled, l, ws⟩, b6⟩ n ak m = (⟨z1, z2, z3, z4, z5, z6⟩, b) := ⟨_, _, _, _, _, _, _, rfl⟩
      obtain ⟨z1, z2, z3, z4, z5, z6, b, hr⟩ := q9
      simp only [hr] at he
      simp only [List.length_cons] at v2 v4
      have hw8 : ∀ t ∈ b5.set n ⟨job, begun, guarding, ended, cancelled, l, ws⟩, t.waiters.length ≤ 1000000 - (l.length + 1) := by
        intro t ht'
        rcases List.mem_or_eq_of_mem_set ht' with h | rfl
        · have := v4 t h; omega
        · have := v4 _ (List.mem_of_getElem? ht); dsimp only at this ⊢; omega
      have hw9 : ∀ t ∈ b5.set n ⟨job, begun, guarding, ended, cancelled, l, ws⟩, t.waiters.length ≤ 1000000 := fun t h => by have := hw8 t h; omega
      repeat' ((conv => whnf); first | refine Rw_tsk ht ?_ | refine Gs.id ?_ | refine Brn.T (by (try simp only [smT]); first | rfl | omega) ?_ | (refine Brn.mk (fun hb => ?_) (fun hb => ?_) <;> (try simp only [smT] at hb) <;> (try (exact absurd trivial hb)) <;> (try (exfalso; omega))) | (refine Bnd.mk (fun hm => ?_); (try simp only [smT] at hm)) | refine Ix.map rfl (by (try simp only [smT]); omega) ?_ | refine Slc.mk ⟨_, _, rfl, rfl, (by (try simp only [smT]); omega), (by (try simp only [smT]); omega), ?_⟩ | (refine CL.mk (Or.inr (Raw.callI [1,2] [1,2] rfl rfl rfl rfl rfl rfl rfl (act_T jobs b1 b2 b3 b4 (b5.set n ⟨job, begun, guarding, ended, cancelled, l, ws⟩) b6 n (by simp; omega) (by simp; omega) (by omega) v3 ak m o1 o3 hw9 z1 z2 z3 z4 z5 z6 b hr _ _ (by simp) (by simp [List.map_set, Tsk.row, List.take_of_length_le])) ?_)); rintro _ _ ⟨rfl, rfl⟩; refine Bk.mk rfl rfl ?_))
      all_goals (conv => whnf)
      · subst hb
        simp only [if_true, Sm.mk.injEq] at he
        obtain ⟨rfl, rfl, rfl, rfl, rfl, rfl⟩ := he
        exact RetO.mk ⟨[], _, _, .ts .nil, LeO.fm rfl rfl (LeO.fm rfl rfl .nil), rfl, rfl⟩
      · subst hb
        simp only [Bool.false_eq_true, if_false] at he
        have a1 := actM_left jobs ⟨b1, b2, b3, b4, b5.set n ⟨job, begun, guarding, ended, cancelled, l, ws⟩, b6⟩ n m ak ⟨job, begun, guarding, ended, cancelled, l, ws⟩ (by simp [hn])
        have a2 := actM_len jobs ⟨b1, b2, b3, b4, b5.set n ⟨job, begun, guarding, ended, cancelled, l, ws⟩, b6⟩ n m ak (by simpa using v1)
        have a3 := actM_log jobs ⟨b1, b2, b3, b4, b5.set n ⟨job, begun, guarding, ended, cancelled, l, ws⟩, b6⟩ n m ak
        have a4 := actM_small jobs ⟨b1, b2, b3, b4, b5.set n ⟨job, begun, guarding, ended, cancelled, l, ws⟩, b6⟩ n m ak v3
        have a5 := actM_wait jobs ⟨b1, b2, b3, b4, b5.set n ⟨job, begun, guarding, ended, cancelled, l, ws⟩, b6⟩ n m _ ak hw8
        rw [hr] at a1 a2 a3 a4 a5
        obtain ⟨u, u1, u2, _⟩ := a1
        have hv : Inv jobs n l ⟨z1, z2, z3, z4, z5, z6⟩ := ⟨⟨u, u1, u2⟩, a2.2, by dsimp only at a3 ⊢; omega, a4, fun t h => by have := a5 t h; omega, fun a h => v5 a (by simp [h])⟩
        exact ⟨(l, ⟨z1, z2, z3, z4, z5, z6⟩), ⟨hv, he⟩, by simp, [(1, .k 1), (2, .k 2)], ⟨by (try dsimp only); (repeat (refine LeT.cons rfl (by exact LeS.d (by exact LeD.u rfl)) ?_)); exact LeT.nil, by (try dsimp only); repeat (first | exact LeO.nil | refine LeO.fm rfl (by rfl) ?_)⟩⟩
end Go.Proofs.Ytgiebofmfkacgaa
namespace Go.Proofs.Ytgiebofmfkacgaa
open Go.RowKit

set_option maxHeartbeats 1000000 in
theorem proceedB_T (jobs : List Jb) (now ser : Int) (rs : List Int) (ts : List Tm) (tasks : List Tsk) (log : List Rc) (n : Nat) (job : Int) (guarding ended : Bool) (left : List Ac) (ws : List Int) (ht : tasks[n]? = some ⟨job, false, guarding, ended, false, left, ws⟩) (hl : log.length ≤ 1000000) (hi : Inv jobs n left ⟨now, ser, rs, ts, tasks.set n ⟨job, true, guarding, ended, false, left, ws⟩, log ++ [⟨now, n, 1, job⟩]⟩) (y1 y2 : Int) (y3 : List Int) (y4 : List Tm) (ys : List Tsk) (yl : List Rc) (e : goM jobs n left ⟨now, ser, rs, ts, tasks.set n ⟨job, true, guarding, ended, false, left, ws⟩, log ++ [⟨now, n, 1, job⟩]⟩ = ⟨y1, y2, y3, y4, ys, yl⟩) (r1 r2 : List (List E)) (e1 : r1 = [smRow jobs now ser rs ts tasks.length log]) (e2 : r2 = tasks.map Tsk.row) :
    CallsA Try.prog 47 [smP, di n] [(1, .fm 80 r1), (2, .fm 104 r2)] (Iso (.t []) (smOb jobs y1 y2 y3 y4 ys yl)) := by
  subst e1 e2
  have hn := lt_of_get ht
  refine callsA_of_vcO (T := tt) Try.func47 rfl rfl rfl rfl rfl ?_
  repeat' ((conv => whnf); first | refine Rw_ptrs (by omega) ?_ | refine Rw_tsk ht ?_ | refine Gs.id ?_ | with_reducible refine Brn.T rfl ?_ | with_reducible refine Brn.F rfl ?_ | refine Ixo.mk ⟨_, rfl, (by (try simp only [smT]); omega), ?_⟩ | refine Rw.lit rfl ?_ | (refine CL.mk (Or.inr (Raw.callI [1,2] [1,2] rfl rfl rfl rfl rfl rfl rfl (note_T' jobs now ser rs ts tasks log _ _ _ hl _ _ rfl rfl) ?_)); rintro _ _ ⟨rfl, rfl⟩; refine Bk.mk rfl rfl ?_))
  all_goals (conv => whnf)
  · refine ⟨⟨List Ac × Sm, fun q => Inv jobs n q.1 q.2 ∧ goM jobs n q.1 q.2 = ⟨y1, y2, y3, y4, ys, yl⟩, fun q => q.1.length, fun q => ⟨[(0, smP), (1, di n), (4, .d (.u (.m 2 n 0)))], smOb jobs q.2.now q.2.ser q.2.rs q.2.ts q.2.tasks q.2.log⟩, (left, ⟨now, ser, rs, ts, tasks.set n ⟨job, true, guarding, ended, false, left, ws⟩, log ++ [⟨now, n, 1, job⟩]⟩), ⟨hi, e⟩, ⟨[(1, .k 1), (2, .k 2)], ⟨by (try dsimp only); (repeat (refine LeT.cons rfl (by first | exact LeS.d (by first | exact LeD.u rfl | exact LeD.u (by simp; done))) ?_)); exact LeT.nil, LeO.fm rfl (by simp) (LeO.fm rfl (by simp [List.map_set, Tsk.row]) .nil)⟩⟩, fun ⟨l, s⟩ ⟨hv, he⟩ => ?_⟩⟩
    clear ht hi e hn
    obtain ⟨b1, b2, b3, b4, b5, b6⟩ := s
    obtain ⟨⟨⟨job, begun, guarding, ended, cancelled, lf, ws⟩, ht, hl0⟩, v1, v2, v3, v4, v5⟩ := hv
    dsimp only at hl0
    subst hl0
    dsimp only at ht v1 v2 v3 v4 v5 he ⊢
    have hn := lt_of_get ht
    cases lf with
    | nil =>
      rw [goM, endM] at he
      dsimp only at he
      rw [ht] at he
      dsimp only at he
      generalize hw : wakes ⟨b1, b2, b3, b4⟩ ws = w at he
      obtain ⟨w1, w2, w3, w4⟩ := w
      injection he with q1 q2 q3 q4 q5 q6
      subst q1 q2 q3 q4 q5 q6
      repeat' ((conv => whnf); first | refine Rw_tsk ht ?_ | refine Gs.id ?_ | with_reducible refine Brn.F rfl ?_ | (refine Bnd.mk (fun hm => ?_); (try simp only [smT] at hm)) | (refine CL.mk (Or.inr (Raw.callI [1,2] [1,2] rfl rfl rfl rfl rfl rfl rfl (end_T jobs _ _ _ _ b5 b6 n job begun guarding ended cancelled [] ws ht (by simp at v2; omega) v3 w1 w2 w3 w4 hw _ _ rfl rfl) ?_)); rintro _ _ ⟨rfl, rfl⟩; refine Bk.mk rfl rfl ?_))
      all_goals (conv => whnf)
      all_goals exact RetO.mk ⟨[], _, _, .ts .nil, LeO.fm rfl rfl (LeO.fm rfl rfl .nil), rfl, rfl⟩
    | cons a l =>
      obtain ⟨ak, an⟩ := a
      have hok := v5 ⟨ak, an⟩ (by simp)
      obtain ⟨o1, o2, o3⟩ := hok
      dsimp only at o1 o2 o3
      obtain ⟨m, rfl⟩ : ∃ m : Nat, an = (m : Int) := ⟨an.toNat, by omega⟩
      rw [goM] at he
      dsimp only at he
      rw [ht] at he
      simp only [Sm.set, Int.toNat_natCast] at he o3
      have q9 : ∃ z1 z2 z3 z4 z5 z6 b, actM jobs ⟨b1, b2, b3, b4, b5.set n ⟨job, begun, guarding, ended, cancelled, l, ws⟩, b6⟩ n ak m = (⟨z1, z2, z3, z4, z5, z6⟩, b) := ⟨_, _, _, _, _, _, _, rfl⟩
      obtain ⟨z1, z2, z3, z4, z5, z6, b, hr⟩ := q9
      simp only [hr] at he
      simp only [List.length_cons] at v2 v4
      have hw8 : ∀ t ∈ b5.set n ⟨job, begun, guarding, ended, cancelled, l, ws⟩, t.waiters.length ≤ 1000000 - (l.length + 1) := by
        intro t ht'
        rcases List.mem_or_eq_of_mem_set ht' with h | rfl
        · have := v4 t h; omega
        · have := v4 _ (List.mem_of_getElem? ht); dsimp only at this ⊢; omega
      have hw9 : ∀ t ∈ b5.set n ⟨job, begun, guarding, ended, cancelled, l, ws⟩, t.waiters.length ≤ 1000000 := fun t h => by have := hw8 t h; omega
      repeat' ((conv => whnf); first | refine Rw_tsk ht ?_ | refine Gs.id ?_ | refine Brn.T (by (try simp only [smT]); first | rfl | omega) ?_ | (refine Brn.mk (fun hb => ?_) (fun hb => ?_) <;> (try simp only [smT] at hb) <;> (try (exact absurd trivial hb)) <;> (try (exfalso; omega))) | (refine Bnd.mk (fun hm => ?_); (try simp only [smT] at hm)) | refine Ix.map rfl (by (try simp only [smT]); omega) ?_ | refine Slc.mk ⟨_, _, rfl, rfl, (by (try simp only [smT]); omega), (by (try simp only [smT]); omega), ?_⟩ | (refine CL.mk (Or.inr (Raw.callI [1,2] [1,2] rfl rfl rfl rfl rfl rfl rfl (act_T jobs b1 b2 b3 b4 (b5.set n ⟨job, begun, guarding, ended, cancelled, l, ws⟩) b6 n (by simp; omega) (by simp; omega) (by omega) v3 ak m o1 o3 hw9 z1 z2 z3 z4 z5 z6 b hr _ _ (by simp) (by simp [List.map_set, Tsk.row, List.take_of_length_le])) ?_)); rintro _ _ ⟨rfl, rfl⟩; refine Bk.mk rfl rfl ?_))
      all_goals (conv => whnf)
      · subst hb
        simp only [if_true, Sm.mk.injEq] at he
        obtain ⟨rfl, rfl, rfl, rfl, rfl, rfl⟩ := he
        exact RetO.mk ⟨[], _, _, .ts .nil, LeO.fm rfl rfl (LeO.fm rfl rfl .nil), rfl, rfl⟩
      · subst hb
        simp only [Bool.false_eq_true, if_false] at he
        have a1 := actM_left jobs ⟨b1, b2, b3, b4, b5.set n ⟨job, begun, guarding, ended, cancelled, l, ws⟩, b6⟩ n m ak ⟨job, begun, guarding, ended, cancelled, l, ws⟩ (by simp [hn])
        have a2 := actM_len jobs ⟨b1, b2, b3, b4, b5.set n ⟨job, begun, guarding, ended, cancelled, l, ws⟩, b6⟩ n m ak (by simpa using v1)
        have a3 := actM_log jobs ⟨b1, b2, b3, b4, b5.set n ⟨job, begun, guarding, ended, cancelled, l, ws⟩, b6⟩ n m ak
        have a4 := actM_small jobs ⟨b1, b2, b3, b4, b5.set n ⟨job, begun, guarding, ended, cancelled, l, ws⟩, b6⟩ n m ak v3
        have a5 := actM_wait jobs ⟨b1, b2, b3, b4, b5.set n ⟨job, begun, guarding, ended, cancelled, l, ws⟩, b6⟩ n m _ ak hw8
        rw [hr] at a1 a2 a3 a4 a5
        obtain ⟨u, u1, u2, _⟩ := a1
        have hv : Inv jobs n l ⟨z1, z2, z3, z4, z5, z6⟩ := ⟨⟨u, u1, u2⟩, a2.2, by dsimp only at a3 ⊢; omega, a4, fun t h => by have := a5 t h; omega, fun a h => v5 a (by simp [h])⟩
        exact ⟨(l, ⟨z1, z2, z3, z4, z5, z6⟩), ⟨hv, he⟩, by simp, [(1, .k 1), (2, .k 2)], ⟨by (try dsimp only); (repeat (refine LeT.cons rfl (by exact LeS.d (by exact LeD.u rfl)) ?_)); exact LeT.nil, by (try dsimp only); repeat (first | exact LeO.nil | refine LeO.fm rfl (by rfl) ?_)⟩⟩
end Go.Proofs.Ytgiebofmfkacgaa
namespace Go.Proofs.Ytgiebofmfkacgaa
open Go.RowKit

theorem proceedC_T (jobs : List Jb) (now ser : Int) (rs : List Int) (ts : List Tm) (tasks : List Tsk) (log : List Rc) (n : Nat) (job : Int) (begun guarding ended : Bool) (left : List Ac) (ws : List Int) (hc : begun = false ∨ (begun = true ∧ guarding = true)) (ht : tasks[n]? = some ⟨job, begun, guarding, ended, true, left, ws⟩) (hl : log.length ≤ 900000) (hs : Small ⟨now, ser, rs, ts⟩) (y1 y2 : Int) (y3 : List Int) (y4 : List Tm) (e : wakes ⟨now, ser, rs, ts⟩ ws = ⟨y1, y2, y3, y4⟩) (r1 r2 : List (List E)) (e1 : r1 = [smRow jobs now ser rs ts tasks.length log]) (e2 : r2 = tasks.map Tsk.row) :
    CallsA Try.prog 47 [smP, di n] [(1, .fm 80 r1), (2, .fm 104 r2)] (Iso (.t []) (smOb jobs y1 y2 y3 y4 ((tasks.set n ⟨job, begun, guarding, ended, false, left, ws⟩).set n ⟨job, begun, guarding, true, false, left, []⟩) ((log ++ [⟨now, n, 4, 0⟩]) ++ [⟨now, n, 3, 0⟩]))) := by
  subst e1 e2
  have hn := lt_of_get ht
  have ht2 : (tasks.set n ⟨job, begun, guarding, ended, false, left, ws⟩)[n]? = some ⟨job, begun, guarding, ended, false, left, ws⟩ := by simp [hn]
  rcases hc with rfl | ⟨rfl, rfl⟩
  all_goals (
    refine callsA_of_vcO (T := tt) Try.func47 rfl rfl rfl rfl rfl ?_
    repeat' ((conv => whnf); first | refine Rw_ptrs (by omega) ?_ | refine Rw_tsk ht ?_ | refine Rw_mset hn ?_ | refine Gs.id ?_ | with_reducible refine Brn.T rfl ?_ | with_reducible refine Brn.F rfl ?_ | refine Ixo.mk ⟨_, rfl, (by (try simp only [smT]); omega), ?_⟩ | refine Rw.lit rfl ?_ | (refine CL.mk (Or.inr (Raw.callI [1,2] [1,2] rfl rfl rfl rfl rfl rfl rfl (note_T' jobs now ser rs ts (tasks.set n ⟨job, false, guarding, ended, false, left, ws⟩) log _ 4 0 (by omega) _ _ (by simp) (by simp [List.map_set, Tsk.row])) ?_)); rintro _ _ ⟨rfl, rfl⟩; refine Bk.mk rfl rfl ?_) | (refine CL.mk (Or.inr (Raw.callI [1,2] [1,2] rfl rfl rfl rfl rfl rfl rfl (note_T' jobs now ser rs ts (tasks.set n ⟨job, true, true, ended, false, left, ws⟩) log _ 4 0 (by omega) _ _ (by simp) (by simp [List.map_set, Tsk.row])) ?_)); rintro _ _ ⟨rfl, rfl⟩; refine Bk.mk rfl rfl ?_) | (refine CL.mk (Or.inr (Raw.callI [1,2] [1,2] rfl rfl rfl rfl rfl rfl rfl (end_T jobs now ser rs ts _ (log ++ [⟨now, n, 4, 0⟩]) n job _ _ ended false left ws ht2 (by simp; omega) hs y1 y2 y3 y4 e _ _ rfl rfl) ?_)); rintro _ _ ⟨rfl, rfl⟩; refine Bk.mk rfl rfl ?_))
    all_goals (conv => whnf)
    all_goals exact RetO.mk ⟨[], _, _, .ts .nil, LeO.fm rfl rfl (LeO.fm rfl rfl .nil), rfl, rfl⟩)
end Go.Proofs.Ytgiebofmfkacgaa
namespace Go.Proofs.Ytgiebofmfkacgaa
open Go.RowKit

set_option maxHeartbeats 1000000 in
theorem proceedD_T (jobs : List Jb) (now ser : Int) (rs : List Int) (ts : List Tm) (tasks : List Tsk) (log : List Rc) (n : Nat) (j : Nat) (hj : j < jobs.length) (ended : Bool) (left : List Ac) (ws : List Int) (ht : tasks[n]? = some ⟨j, true, false, ended, true, left, ws⟩) (hl : log.length ≤ 1000000) (hi : Inv jobs n jobs[j].guard ⟨now, ser, rs, ts, (tasks.set n ⟨j, true, false, ended, false, left, ws⟩).set n ⟨j, true, true, ended, false, jobs[j].guard, ws⟩, log ++ [⟨now, n, 4, 0⟩]⟩) (y1 y2 : Int) (y3 : List Int) (y4 : List Tm) (ys : List Tsk) (yl : List Rc) (e : goM jobs n jobs[j].guard ⟨now, ser, rs, ts, (tasks.set n ⟨j, true, false, ended, false, left, ws⟩).set n ⟨j, true, true, ended, false, jobs[j].guard, ws⟩, log ++ [⟨now, n, 4, 0⟩]⟩ = ⟨y1, y2, y3, y4, ys, yl⟩) (r1 r2 : List (List E)) (e1 : r1 = [smRow jobs now ser rs ts tasks.length log]) (e2 : r2 = tasks.map Tsk.row) :
    CallsA Try.prog 47 [smP, di n] [(1, .fm 80 r1), (2, .fm 104 r2)] (Iso (.t []) (smOb jobs y1 y2 y3 y4 ys yl)) := by
  subst e1 e2
  have hn := lt_of_get ht
  refine callsA_of_vcO (T := tt) Try.func47 rfl rfl rfl rfl rfl ?_
  repeat' ((conv => whnf); first | refine Rw_ptrs (by omega) ?_ | refine Rw_tsk ht ?_ | refine Rw_mset hn ?_ | refine Rw.self (by simpa using hn) ?_ | refine Gs.id ?_ | with_reducible refine Brn.T rfl ?_ | with_reducible refine Brn.F rfl ?_ | refine Ix.map rfl (by (try simp only [smT]); omega) ?_ | refine Ixo.mk ⟨_, rfl, (by (try simp only [smT]); omega), ?_⟩ | refine Rw.lit rfl ?_ | refine Drw.of (T := tt) (i := 6) [15, 16, 17, 18] [1] [(0, true), (1, true), (2, true), (3, true), (4, true), (5, true), (6, true), (7, true), (8, true), (9, true), (10, true), (11, true), (12, true), (13, true), (14, true), (15, false), (16, false), (17, false), (18, false)] (by kernel_rfl) ?_ | (refine CL.mk (Or.inr (Raw.callI [1,2] [1,2] rfl rfl rfl rfl rfl rfl rfl (note_T' jobs now ser rs ts (tasks.set n ⟨j, true, false, ended, false, left, ws⟩) log _ 4 0 (by omega) _ _ (by simp) (by simp [List.map_set, Tsk.row])) ?_)); rintro _ _ ⟨rfl, rfl⟩; refine Bk.mk rfl rfl ?_))
  all_goals (conv => whnf)
  · refine ⟨⟨List Ac × Sm, fun q => Inv jobs n q.1 q.2 ∧ goM jobs n q.1 q.2 = ⟨y1, y2, y3, y4, ys, yl⟩, fun q => q.1.length, fun q => ⟨[(0, smP), (1, di n), (4, .d (.u (.m 2 n 0)))], smOb jobs q.2.now q.2.ser q.2.rs q.2.ts q.2.tasks q.2.log⟩, (jobs[j].guard, ⟨now, ser, rs, ts, (tasks.set n ⟨j, true, false, ended, false, left, ws⟩).set n ⟨j, true, true, ended, false, jobs[j].guard, ws⟩, log ++ [⟨now, n, 4, 0⟩]⟩), ⟨hi, e⟩, ⟨[(1, .k 1), (2, .k 2)], ⟨by (try dsimp only); (repeat (refine LeT.cons rfl (by exact LeS.d (by exact LeD.u rfl)) ?_)); exact LeT.nil, by (try dsimp only); repeat (first | exact LeO.nil | refine LeO.fm rfl (by first | simp [List.map_set, Tsk.row]) ?_)⟩⟩, fun ⟨l, s⟩ ⟨hv, he⟩ => ?_⟩⟩
    clear ht hi e hn
    obtain ⟨b1, b2, b3, b4, b5, b6⟩ := s
    obtain ⟨⟨⟨job, begun, guarding, ended, cancelled, lf, ws⟩, ht, hl0⟩, v1, v2, v3, v4, v5⟩ := hv
    dsimp only at hl0
    subst hl0
    dsimp only at ht v1 v2 v3 v4 v5 he ⊢
    have hn := lt_of_get ht
    cases lf with
    | nil =>
      rw [goM, endM] at he
      dsimp only at he
      rw [ht] at he
      dsimp only at he
      generalize hw : wakes ⟨b1, b2, b3, b4⟩ ws = w at he
      obtain ⟨w1, w2, w3, w4⟩ := w
      injection he with q1 q2 q3 q4 q5 q6
      subst q1 q2 q3 q4 q5 q6
      repeat' ((conv => whnf); first | refine Rw_tsk ht ?_ | refine Gs.id ?_ | with_reducible refine Brn.F rfl ?_ | (refine Bnd.mk (fun hm => ?_); (try simp only [smT] at hm)) | (refine CL.mk (Or.inr (Raw.callI [1,2] [1,2] rfl rfl rfl rfl rfl rfl rfl (end_T jobs _ _ _ _ b5 b6 n job begun guarding ended cancelled [] ws ht (by simp at v2; omega) v3 w1 w2 w3 w4 hw _ _ rfl rfl) ?_)); rintro _ _ ⟨rfl, rfl⟩; refine Bk.mk rfl rfl ?_))
      all_goals (conv => whnf)
      all_goals exact RetO.mk ⟨[], _, _, .ts .nil, LeO.fm rfl rfl (LeO.fm rfl rfl .nil), rfl, rfl⟩
    | cons a l =>
      obtain ⟨ak, an⟩ := a
      have hok := v5 ⟨ak, an⟩ (by simp)
      obtain ⟨o1, o2, o3⟩ := hok
      dsimp only at o1 o2 o3
      obtain ⟨m, rfl⟩ : ∃ m : Nat, an = (m : Int) := ⟨an.toNat, by omega⟩
      rw [goM] at he
      dsimp only at he
      rw [ht] at he
      simp only [Sm.set, Int.toNat_natCast] at he o3
      have q9 : ∃ z1 z2 z3 z4 z5 z6 b, actM jobs ⟨b1, b2, b3, b4, b5.set n ⟨job, begun, guarding, ended, cancelled, l, ws⟩, b6⟩ n ak m = (⟨z1, z2, z3, z4, z5, z6⟩, b) := ⟨_, _, _, _, _, _, _, rfl⟩
      obtain ⟨z1, z2, z3, z4, z5, z6, b, hr⟩ := q9
      simp only [hr] at he
      simp only [List.length_cons] at v2 v4
      have hw8 : ∀ t ∈ b5.set n ⟨job, begun, guarding, ended, cancelled, l, ws⟩, t.waiters.length ≤ 1000000 - (l.length + 1) := by
        intro t ht'
        rcases List.mem_or_eq_of_mem_set ht' with h | rfl
        · have := v4 t h; omega
        · have := v4 _ (List.mem_of_getElem? ht); dsimp only at this ⊢; omega
      have hw9 : ∀ t ∈ b5.set n ⟨job, begun, guarding, ended, cancelled, l, ws⟩, t.waiters.length ≤ 1000000 := fun t h => by have := hw8 t h; omega
      repeat' ((conv => whnf); first | refine Rw_tsk ht ?_ | refine Gs.id ?_ | refine Brn.T (by (try simp only [smT]); first | rfl | omega) ?_ | (refine Brn.mk (fun hb => ?_) (fun hb => ?_) <;> (try simp only [smT] at hb) <;> (try (exact absurd trivial hb)) <;> (try (exfalso; omega))) | (refine Bnd.mk (fun hm => ?_); (try simp only [smT] at hm)) | refine Ix.map rfl (by (try simp only [smT]); omega) ?_ | refine Slc.mk ⟨_, _, rfl, rfl, (by (try simp only [smT]); omega), (by (try simp only [smT]); omega), ?_⟩ | (refine CL.mk (Or.inr (Raw.callI [1,2] [1,2] rfl rfl rfl rfl rfl rfl rfl (act_T jobs b1 b2 b3 b4 (b5.set n ⟨job, begun, guarding, ended, cancelled, l, ws⟩) b6 n (by simp; omega) (by simp; omega) (by omega) v3 ak m o1 o3 hw9 z1 z2 z3 z4 z5 z6 b hr _ _ (by simp) (by simp [List.map_set, Tsk.row, List.take_of_length_le])) ?_)); rintro _ _ ⟨rfl, rfl⟩; refine Bk.mk rfl rfl ?_))
      all_goals (conv => whnf)
      · subst hb
        simp only [if_true, Sm.mk.injEq] at he
        obtain ⟨rfl, rfl, rfl, rfl, rfl, rfl⟩ := he
        exact RetO.mk ⟨[], _, _, .ts .nil, LeO.fm rfl rfl (LeO.fm rfl rfl .nil), rfl, rfl⟩
      · subst hb
        simp only [Bool.false_eq_true, if_false] at he
        have a1 := actM_left jobs ⟨b1, b2, b3, b4, b5.set n ⟨job, begun, guarding, ended, cancelled, l, ws⟩, b6⟩ n m ak ⟨job, begun, guarding, ended, cancelled, l, ws⟩ (by simp [hn])
        have a2 := actM_len jobs ⟨b1, b2, b3, b4, b5.set n ⟨job, begun, guarding, ended, cancelled, l, ws⟩, b6⟩ n m ak (by simpa using v1)
        have a3 := actM_log jobs ⟨b1, b2, b3, b4, b5.set n ⟨job, begun, guarding, ended, cancelled, l, ws⟩, b6⟩ n m ak
        have a4 := actM_small jobs ⟨b1, b2, b3, b4, b5.set n ⟨job, begun, guarding, ended, cancelled, l, ws⟩, b6⟩ n m ak v3
        have a5 := actM_wait jobs ⟨b1, b2, b3, b4, b5.set n ⟨job, begun, guarding, ended, cancelled, l, ws⟩, b6⟩ n m _ ak hw8
        rw [hr] at a1 a2 a3 a4 a5
        obtain ⟨u, u1, u2, _⟩ := a1
        have hv : Inv jobs n l ⟨z1, z2, z3, z4, z5, z6⟩ := ⟨⟨u, u1, u2⟩, a2.2, by dsimp only at a3 ⊢; omega, a4, fun t h => by have := a5 t h; omega, fun a h => v5 a (by simp [h])⟩
        exact ⟨(l, ⟨z1, z2, z3, z4, z5, z6⟩), ⟨hv, he⟩, by simp, [(1, .k 1), (2, .k 2)], ⟨by (try dsimp only); (repeat (refine LeT.cons rfl (by exact LeS.d (by exact LeD.u rfl)) ?_)); exact LeT.nil, by (try dsimp only); repeat (first | exact LeO.nil | refine LeO.fm rfl (by rfl) ?_)⟩⟩
end Go.Proofs.Ytgiebofmfkacgaa
namespace Go.Proofs.Ytgiebofmfkacgaa
open Go.RowKit

theorem woken_valid {c : Ck} {n : Int} (h : Valid c) (hn : 0 ≤ n ∧ n ≤ 1000000000000000) (hh : has c.rs n = false) (hl : c.rs.length + (wokenT n c.ts).length < 1000) : Valid ⟨c.now, c.ser, c.rs ++ [n], wokenT n c.ts⟩ := by
  have hsub : (wokenT n c.ts).Sublist c.ts := List.filter_sublist
  have hmap := hsub.map (·.task)
  have hnr : n ∉ c.rs := fun hm => by
    have : has c.rs n = true := by simp only [has, List.any_eq_true]; exact ⟨n, hm, by simp⟩
    rw [hh] at this; cases this
  have hnt : n ∉ (wokenT n c.ts).map (·.task) := fun hm => by
    obtain ⟨t, h1, h2⟩ := List.mem_map.1 hm
    have := (List.mem_filter.1 h1).2
    simp [h2] at this
  refine ⟨h.now, h.ser, by simp; omega, fun x hx => ?_, ?_, fun t ht => h.times t (hsub.subset ht), h.sorted.sublist hsub⟩
  · simp only [List.mem_append, List.mem_singleton] at hx
    rcases hx with (hx | hx) | hx
    · exact h.tasks x (List.mem_append_left _ hx)
    · subst hx; exact (timeB_iff x).2 hn
    · exact h.tasks x (List.mem_append_right _ (hmap.subset hx))
  · have h0 : (c.rs ++ (wokenT n c.ts).map (·.task)).Nodup := ((List.Sublist.refl c.rs).append hmap).nodup h.nodup
    obtain ⟨a1, a2, a3⟩ := List.nodup_append.1 h0
    rw [List.append_assoc]
    refine List.nodup_append.2 ⟨a1, ?_, ?_⟩
    · exact List.nodup_cons.2 ⟨hnt, a2⟩
    · intro x hx y hy e
      subst e
      rcases List.mem_cons.1 hy with e | hy
      · subst e; exact hnr hx
      · exact a3 x hx x hy rfl
theorem next_T' (now ser : Int) (rs : List Int) (ts : List Tm) (hs : Small ⟨now, ser, rs, ts⟩) (y1 y2 : Int) (y3 : List Int) (y4 : List Tm) (k : Int) (f : Int × Int) (e : nextM ⟨now, ser, rs, ts⟩ = (⟨y1, y2, y3, y4⟩, (k, f))) : CallsA Try.prog 23 [.a [.u (.int .i64 now), .u (.int .i64 ser), .u (ivs rs), .u (tvs ts)]] [] (Is (.t [.a [.u (.int .i64 y1), .u (.int .i64 y2), .u (ivs y3),   .u (tvs y4)], .d (.u (.int .i64 k)), .a (fd f)])) := by
  have := next_T ⟨now, ser, rs, ts⟩ hs
  rw [e] at this
  exact this
end Go.Proofs.Ytgiebofmfkacgaa
namespace Go.Proofs.Ytgiebofmfkacgaa

def alive (tasks : List Tsk) (x : Int) : Prop := ∃ (i : Nat) (t : Tsk), x = (i : Int) ∧ tasks[i]? = some t ∧ t.ended = false
structure Plc (tasks : List Tsk) (l : List Int) : Prop where
  nd : l.Nodup
  al : ∀ x ∈ l, alive tasks x
theorem Plc.perm {tasks : List Tsk} {l l' : List Int} (h : Plc tasks l) (p : l.Perm l') : Plc tasks l' := ⟨p.nodup_iff.1 h.nd, fun x hx => h.al x (p.mem_iff.2 hx)⟩
theorem Plc.sub {tasks : List Tsk} {l l' : List Int} (h : Plc tasks l) (p : l'.Sublist l) : Plc tasks l' := ⟨h.nd.sublist p, fun x hx => h.al x (p.subset hx)⟩
theorem Plc.up {tasks tasks' : List Tsk} {l : List Int} (h : Plc tasks l) (p : ∀ x ∈ l, alive tasks x → alive tasks' x) : Plc tasks' l := ⟨h.nd, fun x hx => p x hx (h.al x hx)⟩
theorem nodup_len : ∀ (n : Nat) (l : List Int), l.Nodup → (∀ x ∈ l, ∃ i : Nat, x = (i : Int) ∧ i < n) → l.length ≤ n
  | 0, l, _, h => by
    cases l with
    | nil => simp
    | cons x r => obtain ⟨i, _, h2⟩ := h x (by simp); omega
  | n + 1, l, hn, h => by
    by_cases hm : (n : Int) ∈ l
    · have h1 := nodup_len n (l.erase (n : Int)) (hn.erase _) fun x hx => by
        obtain ⟨i, rfl, h2⟩ := h x (List.mem_of_mem_erase hx)
        have : (i : Int) ≠ (n : Int) := (hn.mem_erase_iff.1 hx).1
        exact ⟨i, rfl, by omega⟩
      rw [List.length_erase_of_mem hm] at h1
      omega
    · have := nodup_len n l hn fun x hx => by
        obtain ⟨i, rfl, h2⟩ := h x hx
        refine ⟨i, rfl, ?_⟩
        rcases Nat.lt_or_eq_of_le (Nat.le_of_lt_succ h2) with h3 | h3
        · exact h3
        · subst h3; exact absurd hx hm
      omega
theorem alive_lt {tasks : List Tsk} {x : Int} (h : alive tasks x) : ∃ i : Nat, x = (i : Int) ∧ i < tasks.length := by
  obtain ⟨i, t, h1, h2, _⟩ := h
  exact ⟨i, h1, lt_of_get h2⟩
theorem Plc.len {tasks : List Tsk} {l : List Int} (h : Plc tasks l) : l.length ≤ tasks.length := nodup_len _ l h.nd fun x hx => alive_lt (h.al x hx)
def wts (tasks : List Tsk) : List Int := (tasks.map (·.waiters)).flatten
def pl (s : Sm) : List Int := s.rs ++ s.ts.map (·.task) ++ wts s.tasks
def wk (t : Tsk) : Nat := t.left.length + (if t.guarding then 0 else 30)
def work (tasks : List Tsk) : Nat := (tasks.map wk).sum + (60 - tasks.length) * 60
def pot (s : Sm) : Nat := 2 * work s.tasks + (pl s).length
theorem sum_set {f : Tsk → Nat} : ∀ {l : List Tsk} {n : Nat} {t t' : Tsk}, l[n]? = some t → ((l.set n t').map f).sum + f t = (l.map f).sum + f t'
  | [], n, t, t', h => by simp at h
  | x :: r, 0, t, t', h => by simp at h; subst h; simp; omega
  | x :: r, n + 1, t, t', h => by
    have := sum_set (f := f) (t' := t') (show r[n]? = some t by simpa using h)
    simp only [List.set_cons_succ, List.map_cons, List.sum_cons]
    omega
theorem wts_set : ∀ {l : List Tsk} {n : Nat} {t : Tsk}, l[n]? = some t → ∃ rest, (wts l).Perm (t.waiters ++ rest) ∧ ∀ t' : Tsk, (wts (l.set n t')).Perm (t'.waiters ++ rest)
  | [], n, t, h => by simp at h
  | x :: r, 0, t, h => by
    simp at h; subst h
    exact ⟨wts r, by simp [wts], fun t' => by simp [wts]⟩
  | x :: r, n + 1, t, h => by
    obtain ⟨rest, h1, h2⟩ := wts_set (show r[n]? = some t by simpa using h)
    have key : ∀ (l : List Int) (w : List Int), l.Perm (w ++ rest) → (x.waiters ++ l).Perm (w ++ (x.waiters ++ rest)) := fun l w p => by
      refine (p.append_left x.waiters).trans ?_
      rw [← List.append_assoc, ← List.append_assoc]
      exact (List.perm_append_comm).append_right rest
    exact ⟨x.waiters ++ rest, key _ _ h1, fun t' => key _ _ (h2 t')⟩
theorem wts_same : ∀ {l : List Tsk} {n : Nat} {t t' : Tsk}, l[n]? = some t → t'.waiters = t.waiters → wts (l.set n t') = wts l
  | [], n, t, t', h, _ => by simp at h
  | x :: r, 0, t, t', h, e => by simp at h; subst h; simp [wts, e]
  | x :: r, n + 1, t, t', h, e => by
    have := wts_same (show r[n]? = some t by simpa using h) e
    simp only [wts, List.set_cons_succ, List.map_cons, List.flatten_cons] at this ⊢
    rw [this]
theorem wts_filter : ∀ (l : List Tsk) (m : Int), wts (l.map fun t => { t with waiters := t.waiters.filter fun w => w != m }) = (wts l).filter fun w => w != m
  | [], _ => rfl
  | x :: r, m => by
    have := wts_filter r m
    simp only [wts, List.map_cons, List.flatten_cons, List.filter_append] at this ⊢
    rw [this]
theorem mem_wts {l : List Tsk} {x : Int} : x ∈ wts l ↔ ∃ t ∈ l, x ∈ t.waiters := by
  simp only [wts, List.mem_flatten, List.mem_map]
  exact ⟨fun ⟨w, ⟨t, h1, h2⟩, h3⟩ => ⟨t, h1, h2 ▸ h3⟩, fun ⟨t, h1, h2⟩ => ⟨_, ⟨t, h1, rfl⟩, h2⟩⟩

/-- A valid clock stays so. -/
theorem enq_valid {c : Ck} {n : Int} (h : Valid c) (hn : 0 ≤ n ∧ n ≤ 1000000000000000) (hx : n ∉ c.rs ++ c.ts.map (·.task)) (hl : c.rs.length + c.ts.length < 1000) : Valid (enq c n) := by
  have hx1 : n ∉ c.rs := fun q => hx (List.mem_append_left _ q)
  have hx2 : n ∉ c.ts.map (·.task) := fun q => hx (List.mem_append_right _ q)
  have hnd := h.nodup
  rw [List.nodup_append] at hnd
  refine ⟨h.now, h.ser, by simp [enq]; omega, fun x hm => ?_, ?_, h.times, h.sorted⟩
  · simp only [enq, List.mem_append, List.mem_singleton] at hm
    rcases hm with (hm | rfl) | hm
    · exact h.tasks x (List.mem_append_left _ hm)
    · exact (timeB_iff _).2 hn
    · exact h.tasks x (List.mem_append_right _ hm)
  · simp only [enq]
    rw [List.nodup_append, List.nodup_append]
    refine ⟨⟨hnd.1, by simp, fun a ha b hb => ?_⟩, hnd.2.1, fun a ha b hb => ?_⟩
    · simp at hb; subst hb; exact fun e => hx1 (e ▸ ha)
    · simp only [List.mem_append, List.mem_singleton] at ha
      rcases ha with ha | rfl
      · exact hnd.2.2 a ha b hb
      · exact fun e => hx2 (e ▸ hb)
theorem slept_tasks (t : Tm) (ts : List Tm) : (sleptT t ts).Perm (t :: ts) := by
  rw [sleptT_eq]
  refine List.perm_middle.trans (List.Perm.cons _ ?_)
  rw [List.takeWhile_append_dropWhile]
theorem slept_sorted {t : Tm} {ts : List Tm} (h : ts.Pairwise Later) (hs : ∀ x ∈ ts, x.ser < t.ser) : (sleptT t ts).Pairwise Later := by
  rw [sleptT_eq]
  have hd : ∀ y ∈ ts.dropWhile (fun x => !laterB x t), Later t y := by
    induction ts with
    | nil => intro y hy; simp at hy
    | cons x r ih =>
      intro y hy
      rw [List.pairwise_cons] at h
      rw [List.dropWhile_cons] at hy
      by_cases hx : laterB x t = true
      · have e : (if (!laterB x t) = true then r.dropWhile (fun x => !laterB x t) else x :: r) = x :: r := by simp [hx]
        rw [e] at hy
        rcases List.mem_cons.1 hy with rfl | hy
        · exact hx
        · exact later_trans (show Later t x from hx) (h.1 y hy)
      · have e : (if (!laterB x t) = true then r.dropWhile (fun x => !laterB x t) else x :: r) = r.dropWhile (fun x => !laterB x t) := by simp [hx]
        rw [e] at hy
        exact ih h.2 (fun z hz => hs z (by simp [hz])) y hy
  have htk : ∀ x ∈ ts.takeWhile (fun x => !laterB x t), Later x t := by
    intro x hx
    have h1 : laterB x t = false := by
      have := List.all_eq_true.1 (List.all_takeWhile (p := fun x => !laterB x t) (l := ts)) x hx
      simpa using this
    have h2 := hs x ((List.takeWhile_sublist _).subset hx)
    rw [later_iff]
    simp only [laterB, Bool.or_eq_false_iff, decide_eq_false_iff_not, Bool.and_eq_false_imp, beq_iff_eq] at h1
    rcases Int.lt_or_eq_of_le (Int.not_lt.1 h1.1) with q | q
    · exact .inl q
    · exact .inr ⟨q.symm, h2⟩
  rw [List.pairwise_append, List.pairwise_cons]
  refine ⟨h.sublist (List.takeWhile_sublist _), ⟨hd, h.sublist (List.dropWhile_sublist _)⟩, fun a ha b hb => ?_⟩
  rcases List.mem_cons.1 hb with rfl | hb
  · exact htk a ha
  · exact later_trans (htk a ha) (hd b hb)
theorem slept_valid {c : Ck} {n d : Int} (h : Valid c) (hn : 0 ≤ n ∧ n ≤ 1000000000000000) (hx : n ∉ c.rs ++ c.ts.map (·.task)) (hl : c.rs.length + c.ts.length < 1000) (hd : 0 ≤ d) (hm : d = 0 ∨ c.now + d ≤ 1000000000000000 ∧ c.ser < 1000000000000000) : Valid (sleptM c n d) := by
  unfold sleptM
  by_cases h0 : d = 0
  · rw [if_pos h0]; exact enq_valid h hn hx hl
  · rw [if_neg h0]
    obtain ⟨m1, m2⟩ := hm.resolve_left h0
    have hx1 : n ∉ c.rs := fun q => hx (List.mem_append_left _ q)
    have hx2 : n ∉ c.ts.map (·.task) := fun q => hx (List.mem_append_right _ q)
    have q1 := timeB_le h.now
    have q2 := timeB_le h.ser
    have hp := slept_tasks ⟨c.now + d, c.ser, n⟩ c.ts
    have hpt : ((sleptT ⟨c.now + d, c.ser, n⟩ c.ts).map (·.task)).Perm (n :: c.ts.map (·.task)) := hp.map (·.task)
    have hpl : (c.rs ++ (sleptT ⟨c.now + d, c.ser, n⟩ c.ts).map (·.task)).Perm (n :: (c.rs ++ c.ts.map (·.task))) := (hpt.append_left _).trans List.perm_middle
    refine ⟨h.now, (timeB_iff _).2 (by dsimp only; omega), by dsimp only; rw [hp.length_eq]; simp; omega, fun x hm => ?_, hpl.nodup_iff.2 (List.nodup_cons.2 ⟨hx, h.nodup⟩), fun x hm => ?_, slept_sorted h.sorted fun x hm => ?_⟩
    · rcases List.mem_cons.1 (hpl.mem_iff.1 hm) with rfl | hm
      · exact (timeB_iff _).2 hn
      · exact h.tasks x hm
    · rcases List.mem_cons.1 (hp.mem_iff.1 hm) with rfl | hm
      · rw [okT_iff]; dsimp only; exact ⟨by omega, (timeB_iff _).2 (by omega), by omega, by omega⟩
      · have := (okT_iff _ _ _).1 (h.times x hm)
        rw [okT_iff]; dsimp only; exact ⟨this.1, this.2.1, this.2.2.1, by omega⟩
    · exact ((okT_iff _ _ _).1 (h.times x hm)).2.2.2
end Go.Proofs.Ytgiebofmfkacgaa
namespace Go.Proofs.Ytgiebofmfkacgaa

def okB (jobs : List Jb) (a : Ac) : Prop := (1 ≤ a.kind ∧ a.kind ≤ 5) ∧ 0 ≤ a.n ∧ (a.kind = 2 → a.n ≤ 1000000000) ∧ (a.kind = 3 → a.n.toNat < jobs.length)
def okK (jobs : List Jb) (t : Tsk) : Prop := (∃ j : Nat, t.job = (j : Int) ∧ j < jobs.length) ∧ t.left.length ≤ 30 ∧ ∀ a ∈ t.left, okB jobs a
structure Jok (jobs : List Jb) : Prop where
  ne : 0 < jobs.length
  le : jobs.length ≤ 60
  acts : ∀ (j : Nat) (h : j < jobs.length), jobs[j].acts.length ≤ 30 ∧ ∀ a ∈ jobs[j].acts, okB jobs a
  guard : ∀ (j : Nat) (h : j < jobs.length), jobs[j].guard.length ≤ 30 ∧ ∀ a ∈ jobs[j].guard, okB jobs a
abbrev B0 : Nat := 7201
structure Good (jobs : List Jb) (s : Sm) (run : List Int) (M σ : Nat) : Prop where
  v : Valid s.ck
  len : s.tasks.length ≤ 60
  pl : Plc s.tasks (run ++ pl s)
  tk : ∀ t ∈ s.tasks, okK jobs t
  ats : ∀ t ∈ s.ts, t.at_ ≤ s.now + 1000000000
  pot : pot s ≤ M
  tm : s.now + 1000000000 * (M : Int) ≤ 1000000000 * 7201
  se : s.ser + (M : Int) ≤ 7201
  lg : s.log.length + 3 * M + σ ≤ 21603
theorem alive_set {tasks : List Tsk} {n : Nat} {t t' : Tsk} {x : Int} (h : tasks[n]? = some t) (e : t'.ended = t.ended) (a : alive tasks x) : alive (tasks.set n t') x := by
  obtain ⟨i, u, rfl, h1, h2⟩ := a
  by_cases hi : n = i
  · subst hi
    rw [h] at h1
    injection h1 with h1
    subst h1
    exact ⟨n, t', rfl, by simp [lt_of_get h], e.trans h2⟩
  · exact ⟨i, u, rfl, by rw [List.getElem?_set_ne hi]; exact h1, h2⟩
theorem alive_ne {tasks : List Tsk} {n : Nat} {t' : Tsk} {x : Int} (hx : x ≠ (n : Int)) (a : alive tasks x) : alive (tasks.set n t') x := by
  obtain ⟨i, u, rfl, h1, h2⟩ := a
  have hi : ¬ n = i := fun e => hx (by rw [e])
  exact ⟨i, u, rfl, by rw [List.getElem?_set_ne hi]; exact h1, h2⟩
theorem alive_app {tasks l : List Tsk} {x : Int} (a : alive tasks x) : alive (tasks ++ l) x := by
  obtain ⟨i, u, rfl, h1, h2⟩ := a
  exact ⟨i, u, rfl, by rw [List.getElem?_append_left (lt_of_get h1)]; exact h1, h2⟩
theorem alive_rng {tasks : List Tsk} {x : Int} (a : alive tasks x) (h : tasks.length ≤ 60) : 0 ≤ x ∧ x ≤ 59 := by
  obtain ⟨i, rfl, h1⟩ := alive_lt a
  omega
theorem busy_no {rs : List Int} {ts : List Tm} {x : Int} (h : x ∉ rs ++ ts.map (·.task)) : busy rs ts x = false := by
  rw [busy, ← has_tasks, Bool.or_eq_false_iff, has_false_iff, has_false_iff]
  exact ⟨fun q => h (List.mem_append_right _ q), fun q => h (List.mem_append_left _ q)⟩
theorem cf_of {c : Ck} (h : Valid c) : (clockFault c).1 = 0 := by rw [fault_eq]; exact (valid_iff c).2 h
theorem ready_eq {c : Ck} {x : Int} (hv : Valid c) (hx : 0 ≤ x ∧ x ≤ 59) (hn : x ∉ c.rs ++ c.ts.map (·.task)) (hl : c.rs.length + c.ts.length ≤ 60) : readyM c x = (enq c x, (0, 0)) := ready_ok (cf_of hv) ⟨hx.1, by omega⟩ (busy_no hn) (by omega)
theorem sleep_eq {c : Ck} {x d : Int} (hv : Valid c) (hx : 0 ≤ x ∧ x ≤ 59) (hn : x ∉ c.rs ++ c.ts.map (·.task)) (hl : c.rs.length + c.ts.length ≤ 60) (hd : 0 ≤ d ∧ d ≤ 1000000000) (hm : c.now + d ≤ 1000000000000000 ∧ c.ser < 1000000000000000) : sleepM c x d = (sleptM c x d, (0, 0)) :=
  sleep_ok (cf_of hv) ⟨hx.1, by omega⟩ (busy_no hn) (by omega) hd (.inr ⟨hm.1, by omega⟩)
theorem wake_eq {c : Ck} {x : Int} (hv : Valid c) (hx : 0 ≤ x ∧ x ≤ 59) (hl : c.rs.length + c.ts.length ≤ 60) : wakeP c x = (wokenM c x, (0, 0)) := wake_ok (cf_of hv) ⟨hx.1, by omega⟩ (.inr (by omega))
theorem wakes_eq : ∀ (ws : List Int) {c : Ck}, Valid c → (c.rs ++ c.ts.map (·.task) ++ ws).Nodup → (∀ x ∈ ws, 0 ≤ x ∧ x ≤ 59) → c.rs.length + c.ts.length + ws.length ≤ 60 → wakes c ws = ⟨c.now, c.ser, c.rs ++ ws, c.ts⟩ ∧ Valid ⟨c.now, c.ser, c.rs ++ ws, c.ts⟩
  | [], c, hv, _, _, _ => by simp only [wakes, List.append_nil]; exact ⟨trivial, hv⟩
  | w :: r, c, hv, hn, hx, hl => by
    have hp : (c.rs ++ c.ts.map (·.task) ++ w :: r).Perm (w :: (c.rs ++ c.ts.map (·.task) ++ r)) := List.perm_middle
    have hn' := List.nodup_cons.1 (hp.nodup_iff.1 hn)
    have hw : w ∉ c.rs ++ c.ts.map (·.task) := fun q => hn'.1 (List.mem_append_left _ q)
    simp only [List.length_cons] at hl
    have e := ready_eq hv (hx w (by simp)) hw (by omega)
    have hw2 := hx w (by simp)
    have hv' := enq_valid hv ⟨hw2.1, by omega⟩ hw (by omega)
    have hn2 : ((enq c w).rs ++ (enq c w).ts.map (·.task) ++ r).Nodup := by
      have hp2 : ((enq c w).rs ++ (enq c w).ts.map (·.task) ++ r).Perm (w :: (c.rs ++ c.ts.map (·.task) ++ r)) := by
        simp only [enq, List.append_assoc, List.singleton_append]
        exact List.perm_middle
      exact hp2.nodup_iff.2 (List.nodup_cons.2 hn')
    have := wakes_eq r hv' hn2 (fun x q => hx x (by simp [q])) (by simp [enq]; omega)
    rw [wakes, e]
    simpa [enq] using this
section
variable {jobs : List Jb} {s : Sm} {run : List Int} {M σ : Nat}
theorem Good.weak (g : Good jobs s run M (σ + 1)) : Good jobs s run M σ := ⟨g.v, g.len, g.pl, g.tk, g.ats, g.pot, g.tm, g.se, by have := g.lg; omega⟩
theorem Good.clk (g : Good jobs s run M σ) : s.rs.length + s.ts.length ≤ 60 := by
  have h1 := g.pl.len
  have h2 := g.len
  simp only [Go.Proofs.Ytgiebofmfkacgaa.pl, List.length_append, List.length_map] at h1
  omega
theorem Good.note (g : Good jobs s run M (σ + 1)) (n k x : Int) : Good jobs (⟨s.now, s.ser, s.rs, s.ts, s.tasks, s.log ++ [⟨s.now, n, k, x⟩]⟩) run M σ := ⟨g.v, g.len, g.pl, g.tk, g.ats, g.pot, g.tm, g.se, by have := g.lg; simp; omega⟩
/-- A task is changed: where it is, whether it lives. -/
theorem Good.upd (g : Good jobs s run M σ) {n : Nat} {t t' : Tsk} (h : s.tasks[n]? = some t) (e1 : t'.ended = t.ended) (e2 : t'.waiters = t.waiters) (e3 : okK jobs t') (e4 : wk t' ≤ wk t) : Good jobs ⟨s.now, s.ser, s.rs, s.ts, s.tasks.set n t', s.log⟩ run M σ := by
  have hp : Go.Proofs.Ytgiebofmfkacgaa.pl ⟨s.now, s.ser, s.rs, s.ts, s.tasks.set n t', s.log⟩ = Go.Proofs.Ytgiebofmfkacgaa.pl s := by simp only [Go.Proofs.Ytgiebofmfkacgaa.pl, wts_same h e2]
  have hs := sum_set (f := wk) (t' := t') h
  have hpot := g.pot
  refine ⟨g.v, by simpa using g.len, by rw [hp]; exact g.pl.up fun x _ a => alive_set h e1 a, fun u hu => ?_, g.ats, ?_, g.tm, g.se, g.lg⟩
  · rcases List.mem_or_eq_of_mem_set hu with hu | rfl
    · exact g.tk u hu
    · exact e3
  · simp only [Go.Proofs.Ytgiebofmfkacgaa.pot, hp, work, List.length_set] at hpot ⊢
    omega
/-- An action is taken. -/
theorem Good.take (g : Good jobs s run M σ) {n : Nat} {t : Tsk} {a : Ac} {l : List Ac} (h : s.tasks[n]? = some t) (hl : t.left = a :: l) : Good jobs ⟨s.now, s.ser, s.rs, s.ts, s.tasks.set n { t with left := l }, s.log⟩ run M σ ∧ Go.Proofs.Ytgiebofmfkacgaa.pot ⟨s.now, s.ser, s.rs, s.ts, s.tasks.set n { t with left := l }, s.log⟩ + 2 ≤ M := by
  obtain ⟨k1, k2, k3⟩ := g.tk t (List.mem_of_getElem? h)
  rw [hl] at k2 k3
  simp only [List.length_cons] at k2
  have hw : wk { t with left := l } + 1 = wk t := by simp only [wk, hl, List.length_cons]; omega
  refine ⟨g.upd h rfl rfl ⟨k1, by dsimp only; omega, fun b hb => k3 b (List.mem_cons_of_mem _ hb)⟩ (by omega), ?_⟩
  have hp : Go.Proofs.Ytgiebofmfkacgaa.pl ⟨s.now, s.ser, s.rs, s.ts, s.tasks.set n { t with left := l }, s.log⟩ = Go.Proofs.Ytgiebofmfkacgaa.pl s := by simp only [Go.Proofs.Ytgiebofmfkacgaa.pl, wts_same (t' := { t with left := l }) h rfl]
  have hs := sum_set (f := wk) (t' := { t with left := l }) h
  have hpot := g.pot
  simp only [Go.Proofs.Ytgiebofmfkacgaa.pot, hp, work, List.length_set] at hpot ⊢
  omega
theorem next_ser {c c' : Ck} {n : Int} (h : nextM c = (c', (n, (0, 0)))) (hv : Valid c) : c'.ser = c.ser := by
  rw [nextM, if_pos ((valid_iff c).2 hv)] at h
  have e : (fire c).ser = c.ser := by
    unfold fire
    split <;> rfl
  rw [← e]
  generalize fire c = d at h
  obtain ⟨d1, d2, d3, d4⟩ := d
  cases d3 with
  | nil => simp [popM] at h
  | cons x r => simp [popM] at h; rw [← h.1]
/-- The next task. -/
theorem Good.pop (g : Good jobs s [] M 0) {c' : Ck} {n : Int} (h : nextM s.ck = (c', (n, (0, 0)))) : 1 ≤ M ∧ Good jobs (s.put c') [n] (M - 1) 3 ∧ s.now ≤ c'.now ∧ s.rs ++ s.ts.map (·.task) = n :: (c'.rs ++ c'.ts.map (·.task)) := by
  rcases next_spec g.v with ⟨_, h2⟩ | ⟨m, a, rest, c2, h1, h2, h3, h4, h5, h6⟩
  · rw [h2] at h; simp at h
  · rw [h2] at h
    simp only [Prod.mk.injEq, and_true] at h
    obtain ⟨rfl, rfl⟩ := h
    have hser := next_ser h2 g.v
    have hdue : ∀ p ∈ due s.ck, p.2 ≤ s.now + 1000000000 := by
      intro p hp
      simp only [due, List.mem_append, List.mem_map] at hp
      rcases hp with ⟨r, _, rfl⟩ | ⟨t, ht, rfl⟩
      · dsimp only [Sm.ck]; omega
      · exact g.ats t ht
    have ha := hdue (m, a) (by rw [h1]; simp)
    have hf : s.rs ++ s.ts.map (·.task) = m :: (c2.rs ++ c2.ts.map (·.task)) := by
      have e1 := congrArg (List.map Prod.fst) h1
      have e2 := congrArg (List.map Prod.fst) h4
      have e1' : s.rs ++ s.ts.map (·.task) = m :: rest.map Prod.fst := by simpa [due, Sm.ck, Function.comp_def] using e1
      have e2' : c2.rs ++ c2.ts.map (·.task) = rest.map Prod.fst := by simpa [due, Function.comp_def] using e2
      rw [e1', e2']
    have hpl : Go.Proofs.Ytgiebofmfkacgaa.pl s = m :: Go.Proofs.Ytgiebofmfkacgaa.pl (s.put c2) := by simp only [Go.Proofs.Ytgiebofmfkacgaa.pl, hf, Sm.put, List.cons_append]
    have hpot := g.pot
    have hM : 1 ≤ M := by
      simp only [Go.Proofs.Ytgiebofmfkacgaa.pot, hpl, List.length_cons] at hpot; omega
    refine ⟨hM, ⟨h5, g.len, ?_, g.tk, fun t ht => ?_, ?_, ?_, ?_, ?_⟩, by rw [h3]; exact h6, hf⟩
    · have := g.pl
      rw [List.nil_append, hpl] at this
      exact this
    · have hq := hdue (t.task, t.at_) (by
        rw [h1, ← h4]
        refine List.mem_cons_of_mem _ ?_
        simp only [due, List.mem_append, List.mem_map]
        exact .inr ⟨t, ht, rfl⟩)
      simp only [Sm.put]
      rw [h3]
      dsimp only [Sm.ck] at h6 hq ⊢
      omega
    · simp only [Go.Proofs.Ytgiebofmfkacgaa.pot, hpl, List.length_cons] at hpot
      simp only [Go.Proofs.Ytgiebofmfkacgaa.pot]
      have : (s.put c2).tasks = s.tasks := rfl
      rw [this]
      omega
    · simp only [Sm.put]
      have := g.tm
      dsimp only [Sm.ck] at ha
      rw [h3]
      omega
    · simp only [Sm.put]
      have := g.se
      rw [hser]
      dsimp only [Sm.ck]
      omega
    · have := g.lg
      simp only [Sm.put]
      omega
end
end Go.Proofs.Ytgiebofmfkacgaa
namespace Go.Proofs.Ytgiebofmfkacgaa
section
variable {jobs : List Jb} {s : Sm} {run : List Int} {M σ n : Nat} {x : Int}
theorem Good.run_lt (g : Good jobs s run M σ) {n : Nat} (h : (n : Int) ∈ run) : n < s.tasks.length := by
  obtain ⟨i, e, hi⟩ := alive_lt (g.pl.al _ (List.mem_append_left _ h))
  omega
theorem Good.noclk (g : Good jobs s [x] M σ) : x ∉ s.rs ++ s.ts.map (·.task) ∧ x ∉ wts s.tasks ∧ (0 ≤ x ∧ x ≤ 59) := by
  have h1 := g.pl.nd
  simp only [List.singleton_append, List.nodup_cons, Go.Proofs.Ytgiebofmfkacgaa.pl] at h1
  refine ⟨fun q => h1.1 (List.mem_append_left _ q), fun q => h1.1 (List.mem_append_right _ q), alive_rng (g.pl.al x (by simp)) g.len⟩
theorem Good.sleepEq (g : Good jobs s [x] M σ) {d : Int} (hd : 0 ≤ d ∧ d ≤ 1000000000) : sleepM s.ck x d = (sleptM s.ck x d, (0, 0)) := by
  obtain ⟨q1, _, q3⟩ := g.noclk
  have h1 := g.tm
  have h2 := g.se
  exact sleep_eq g.v q3 q1 g.clk hd ⟨by dsimp only [Sm.ck]; omega, by dsimp only [Sm.ck]; omega⟩
theorem Good.sleep (g : Good jobs s [x] M σ) (hp : Go.Proofs.Ytgiebofmfkacgaa.pot s + 2 ≤ M) {d : Int} (hd : 0 ≤ d ∧ d ≤ 1000000000) : Good jobs (s.put (sleptM s.ck x d)) [] (M - 1) σ := by
  obtain ⟨q1, q2, q3⟩ := g.noclk
  have h1 := g.tm
  have h2 := g.se
  have hv := slept_valid g.v ⟨q3.1, by omega⟩ q1 (by have := g.clk; dsimp only [Sm.ck]; omega) hd.1 (.inr ⟨by dsimp only [Sm.ck]; omega, by dsimp only [Sm.ck]; omega⟩)
  have hperm : (Go.Proofs.Ytgiebofmfkacgaa.pl (s.put (sleptM s.ck x d))).Perm (x :: Go.Proofs.Ytgiebofmfkacgaa.pl s) := by
    simp only [Go.Proofs.Ytgiebofmfkacgaa.pl, Sm.put, sleptM]
    split
    · simp only [enq, Sm.ck, List.append_assoc, List.singleton_append]
      exact List.perm_middle
    · simp only [Sm.ck]
      rw [← List.cons_append]
      refine List.Perm.append_right _ ?_
      exact ((slept_tasks _ _).map _).append_left _ |>.trans List.perm_middle
  have hse : (sleptM s.ck x d).ser ≤ s.ser + 1 ∧ (sleptM s.ck x d).now = s.now := by
    unfold sleptM
    split
    · simp [enq, Sm.ck]; omega
    · simp [Sm.ck]
  refine ⟨hv, g.len, ?_, g.tk, fun t ht => ?_, ?_, ?_, ?_, ?_⟩
  · exact g.pl.perm hperm.symm
  · simp only [Sm.put] at ht ⊢
    rw [hse.2]
    unfold sleptM at ht
    split at ht
    · exact g.ats t ht
    · rcases List.mem_cons.1 ((slept_tasks _ _).mem_iff.1 ht) with rfl | ht
      · dsimp only [Sm.ck]; omega
      · exact g.ats t ht
  · have : (s.put (sleptM s.ck x d)).tasks = s.tasks := rfl
    simp only [Go.Proofs.Ytgiebofmfkacgaa.pot, this, hperm.length_eq, List.length_cons] at hp ⊢
    omega
  · simp only [Sm.put]; rw [hse.2]; omega
  · simp only [Sm.put]; omega
  · have := g.lg; simp only [Sm.put]; omega
theorem Good.spawnEq (g : Good jobs s run M σ) : s.tasks.length < 60 → readyM s.ck s.tasks.length = (enq s.ck s.tasks.length, (0, 0)) := fun hl => by
  refine ready_eq g.v ⟨by omega, by omega⟩ (fun q => ?_) g.clk
  obtain ⟨i, e, hi⟩ := alive_lt (g.pl.al _ (List.mem_append_right run (show (s.tasks.length : Int) ∈ Go.Proofs.Ytgiebofmfkacgaa.pl s from List.mem_append_left _ q)))
  omega
theorem Good.spawn (g : Good jobs s run M σ) (hJ : Jok jobs) (hp : Go.Proofs.Ytgiebofmfkacgaa.pot s + 2 ≤ M) {j : Nat} (hj : j < jobs.length) : Good jobs (spawnM jobs s j) run (M - 1) σ := by
  have h1 := g.tm
  have h2 := g.se
  have h3 := g.lg
  unfold spawnM
  by_cases h6 : s.tasks.length = 60
  · rw [if_pos h6]
    exact ⟨g.v, g.len, g.pl, g.tk, g.ats, by omega, by omega, by omega, by omega⟩
  · rw [if_neg h6]
    have hlen := g.len
    rw [g.spawnEq (by omega)]
    have hnew : (s.tasks.length : Int) ∉ run ++ Go.Proofs.Ytgiebofmfkacgaa.pl s := fun q => by
      obtain ⟨i, e, hi⟩ := alive_lt (g.pl.al _ q)
      omega
    obtain ⟨k1, k2⟩ := hJ.acts j hj
    have hq : jobs.getD j ⟨[], []⟩ = jobs[j] := by simp [List.getD, hj]
    rw [hq]
    have hw : wts (s.tasks ++ [⟨j, false, false, false, false, jobs[j].acts, []⟩]) = wts s.tasks := by simp [wts]
    have hperm : (run ++ Go.Proofs.Ytgiebofmfkacgaa.pl ⟨s.now, s.ser, s.rs ++ [(s.tasks.length : Int)], s.ts, s.tasks ++ [⟨j, false, false, false, false, jobs[j].acts, []⟩], s.log⟩).Perm ((s.tasks.length : Int) :: (run ++ Go.Proofs.Ytgiebofmfkacgaa.pl s)) := by
      simp only [Go.Proofs.Ytgiebofmfkacgaa.pl, hw, List.append_assoc, List.singleton_append]
      refine (List.Perm.append_left run List.perm_middle).trans List.perm_middle
    refine ⟨?_, ?_, ?_, ?_, g.ats, ?_, by simp only [enq, Sm.ck]; omega, by simp only [enq, Sm.ck]; omega, by dsimp only; omega⟩
    · exact enq_valid g.v ⟨by omega, by omega⟩ (fun q => hnew (List.mem_append_right _ (List.mem_append_left _ q))) (by have := g.clk; dsimp only [Sm.ck]; omega)
    · simp; omega
    · refine Plc.perm (l := (s.tasks.length : Int) :: (run ++ Go.Proofs.Ytgiebofmfkacgaa.pl s)) ⟨List.nodup_cons.2 ⟨hnew, g.pl.nd⟩, fun x hx => ?_⟩ hperm.symm
      rcases List.mem_cons.1 hx with rfl | hx
      · exact ⟨s.tasks.length, ⟨j, false, false, false, false, jobs[j].acts, []⟩, rfl, by simp, rfl⟩
      · exact alive_app (g.pl.al x hx)
    · intro t ht
      simp only [List.mem_append, List.mem_singleton] at ht
      rcases ht with ht | rfl
      · exact g.tk t ht
      · exact ⟨⟨j, rfl, hj⟩, k1, k2⟩
    · have e := hperm.length_eq
      simp only [List.length_append, List.length_cons] at e
      simp only [Go.Proofs.Ytgiebofmfkacgaa.pot, work, enq, Sm.ck, List.map_append, List.sum_append, List.length_append, List.map_cons, List.map_nil, List.sum_cons, List.sum_nil, List.length_cons, List.length_nil] at hp ⊢
      have e2 : wk ⟨j, false, false, false, false, jobs[j].acts, []⟩ ≤ 60 := by simp [wk]; omega
      have e3 : (60 - (s.tasks.length + (0 + 1))) * 60 + 60 = (60 - s.tasks.length) * 60 := by omega
      omega
/-- A task waits for another one. -/
theorem Good.wait (g : Good jobs s [(n : Int)] M σ) (hp : Go.Proofs.Ytgiebofmfkacgaa.pot s + 2 ≤ M) {m : Nat} {t : Tsk} (h : s.tasks[m]? = some t) : Good jobs ⟨s.now, s.ser, s.rs, s.ts, s.tasks.set m { t with waiters := t.waiters ++ [(n : Int)] }, s.log⟩ [] (M - 1) σ := by
  have h1 := g.tm
  have h2 := g.se
  have h3 := g.lg
  obtain ⟨rest, w1, w2⟩ := wts_set h
  have w2' := w2 { t with waiters := t.waiters ++ [(n : Int)] }
  have hperm : (Go.Proofs.Ytgiebofmfkacgaa.pl ⟨s.now, s.ser, s.rs, s.ts, s.tasks.set m { t with waiters := t.waiters ++ [(n : Int)] }, s.log⟩).Perm ((n : Int) :: Go.Proofs.Ytgiebofmfkacgaa.pl s) := by
    simp only [Go.Proofs.Ytgiebofmfkacgaa.pl]
    refine (w2'.append_left _).trans ?_
    refine List.Perm.trans ?_ (List.Perm.cons (n : Int) ((w1.append_left (s.rs ++ s.ts.map (·.task))).symm))
    simp only [List.append_assoc, List.singleton_append]
    rw [← List.append_assoc, ← List.append_assoc]
    refine List.perm_middle.trans ?_
    simp
  have hs := sum_set (f := wk) (t' := { t with waiters := t.waiters ++ [(n : Int)] }) h
  refine ⟨g.v, by simpa using g.len, ?_, fun u hu => ?_, g.ats, ?_, by dsimp only; omega, by dsimp only; omega, by dsimp only; omega⟩
  · exact (g.pl.perm (List.Perm.symm (by simpa using hperm))).up fun x _ a => alive_set h rfl a
  · rcases List.mem_or_eq_of_mem_set hu with hu | rfl
    · exact g.tk u hu
    · exact g.tk t (List.mem_of_getElem? h)
  · simp only [Go.Proofs.Ytgiebofmfkacgaa.pot, hperm.length_eq, List.length_cons, work, List.length_set] at hp ⊢
    have : wk { t with waiters := t.waiters ++ [(n : Int)] } = wk t := rfl
    omega
theorem cancelTs_get (tasks : List Tsk) (m i : Nat) : (cancelTs tasks m)[i]? = (tasks[i]?).map fun t => { t with cancelled := (t.cancelled || decide (m = i)), waiters := t.waiters.filter fun w => w != m } := by
  simp only [cancelTs, List.getElem?_map, List.getElem?_modify]
  cases h : tasks[i]? with
  | none => simp
  | some t => by_cases hm : m = i <;> simp [hm]
theorem cancelTs_len (tasks : List Tsk) (m : Nat) : (cancelTs tasks m).length = tasks.length := by simp [cancelTs]
theorem alive_cancel {tasks : List Tsk} {m : Nat} {x : Int} (a : alive tasks x) : alive (cancelTs tasks m) x := by
  obtain ⟨i, t, rfl, h1, h2⟩ := a
  exact ⟨i, { t with cancelled := (t.cancelled || decide (m = i)), waiters := t.waiters.filter fun w => w != (m : Int) }, rfl, by rw [cancelTs_get, h1]; rfl, h2⟩
theorem cancelTs_wk (tasks : List Tsk) (m : Nat) : (cancelTs tasks m).map wk = tasks.map wk := by
  apply List.ext_getElem?
  intro i
  rw [List.getElem?_map, cancelTs_get, List.getElem?_map]
  cases tasks[i]? <;> rfl
theorem cancelTs_wts (tasks : List Tsk) (m : Nat) : wts (cancelTs tasks m) = (wts tasks).filter fun w => w != (m : Int) := by
  rw [cancelTs, wts_filter]
  congr 1
  simp only [wts]
  congr 1
  apply List.ext_getElem?
  intro i
  rw [List.getElem?_map, List.getElem?_modify, List.getElem?_map]
  cases h : tasks[i]? with
  | none => simp
  | some t => by_cases hm : m = i <;> simp [hm]
theorem cancelTs_mem {tasks : List Tsk} {m : Nat} {t : Tsk} (h : t ∈ cancelTs tasks m) : ∃ u ∈ tasks, t.job = u.job ∧ t.left = u.left ∧ t.guarding = u.guarding ∧ t.begun = u.begun ∧ t.ended = u.ended := by
  obtain ⟨i, hi⟩ := List.getElem?_of_mem h
  rw [cancelTs_get] at hi
  cases hu : tasks[i]? with
  | none => rw [hu] at hi; cases hi
  | some u =>
    rw [hu] at hi
    injection hi with hi
    subst hi
    exact ⟨u, List.mem_of_getElem? hu, rfl, rfl, rfl, rfl, rfl⟩
theorem Good.cancel (g : Good jobs s [(n : Int)] M σ) (hp : Go.Proofs.Ytgiebofmfkacgaa.pot s + 2 ≤ M) {m : Nat} {t : Tsk} (h : s.tasks[m]? = some t) (hmn : m ≠ n) (he : t.ended = false) :
    wakeP s.ck m = (wokenM s.ck m, (0, 0)) ∧ Good jobs ⟨(wokenM s.ck m).now, (wokenM s.ck m).ser, (wokenM s.ck m).rs, (wokenM s.ck m).ts, cancelTs s.tasks m, s.log⟩ [(n : Int)] (M - 1) σ := by
  have h1 := g.tm
  have h2 := g.se
  have h3 := g.lg
  have hlen := g.len
  have hclk := g.clk
  have hm : m < s.tasks.length := lt_of_get h
  have hwe := wake_eq (c := s.ck) (x := (m : Int)) g.v ⟨by omega, by omega⟩ hclk
  refine ⟨hwe, ?_⟩
  have hnd := g.pl
  by_cases hh : has s.rs m = true
  · have e : wokenM s.ck m = s.ck := by simp [wokenM, hh]
    rw [e]
    have hsub : ([(n : Int)] ++ Go.Proofs.Ytgiebofmfkacgaa.pl ⟨s.now, s.ser, s.rs, s.ts, cancelTs s.tasks m, s.log⟩).Sublist ([(n : Int)] ++ Go.Proofs.Ytgiebofmfkacgaa.pl s) := by
      simp only [Go.Proofs.Ytgiebofmfkacgaa.pl, cancelTs_wts]
      exact (List.Sublist.refl _).append ((List.Sublist.refl _).append List.filter_sublist)
    refine ⟨g.v, by rw [cancelTs_len]; exact hlen, (hnd.sub hsub).up fun x _ a => alive_cancel a, fun u hu => ?_, g.ats, ?_, by dsimp only; omega, by dsimp only; omega, by dsimp only; omega⟩
    · obtain ⟨v, v1, v2, v3, _⟩ := cancelTs_mem hu
      have := g.tk v v1
      rw [okK, v2, v3]; exact this
    · have e2 := hsub.length_le
      simp only [List.length_append, List.length_singleton] at e2
      simp only [Go.Proofs.Ytgiebofmfkacgaa.pot, work, cancelTs_wk, cancelTs_len] at hp ⊢
      omega
  · have hh' : has s.rs m = false := by simpa using hh
    have e : wokenM s.ck m = ⟨s.now, s.ser, s.rs ++ [(m : Int)], wokenT m s.ts⟩ := by simp [wokenM, hh', enq, Sm.ck]
    rw [e]
    have hnr : (m : Int) ∉ s.rs := (has_false_iff _ _).1 hh'
    have hv := woken_valid (c := s.ck) (n := (m : Int)) g.v ⟨by omega, by omega⟩ hh' (by have := wokenT_len (x := (m : Int)) (ts := s.ts); dsimp only [Sm.ck]; omega)
    have hfr : (s.rs.filter fun w => w != (m : Int)) = s.rs := List.filter_eq_self.2 fun x hx => by simp; exact fun e => hnr (e ▸ hx)
    have hft : (wokenT m s.ts).map (·.task) = (s.ts.map (·.task)).filter fun w => w != (m : Int) := by
      simp only [wokenT, List.filter_map]; rfl
    have hperm : ([(n : Int)] ++ Go.Proofs.Ytgiebofmfkacgaa.pl ⟨s.now, s.ser, s.rs ++ [(m : Int)], wokenT m s.ts, cancelTs s.tasks m, s.log⟩).Perm ((m : Int) :: ([(n : Int)] ++ Go.Proofs.Ytgiebofmfkacgaa.pl s).filter fun w => w != (m : Int)) := by
      have hn1 : ((n : Int) != (m : Int)) = true := by simp; omega
      simp only [Go.Proofs.Ytgiebofmfkacgaa.pl, cancelTs_wts, hft, List.filter_append, hfr, List.singleton_append, List.filter_cons, hn1, if_true, List.append_assoc, List.filter_nil]
      refine (List.Perm.cons _ List.perm_middle).trans (List.Perm.swap _ _ _)
    have hal : alive s.tasks m := ⟨m, t, rfl, h, he⟩
    refine ⟨hv, by rw [cancelTs_len]; exact hlen, ?_, fun u hu => ?_, fun u hu => ?_, ?_, by dsimp only; omega, by dsimp only; omega, by dsimp only; omega⟩
    · refine Plc.perm (l := (m : Int) :: ([(n : Int)] ++ Go.Proofs.Ytgiebofmfkacgaa.pl s).filter fun w => w != (m : Int)) ⟨List.nodup_cons.2 ⟨by simp, hnd.nd.sublist List.filter_sublist⟩, fun x hx => ?_⟩ hperm.symm
      rcases List.mem_cons.1 hx with rfl | hx
      · exact alive_cancel hal
      · exact alive_cancel (hnd.al x (List.mem_filter.1 hx).1)
    · obtain ⟨v, v1, v2, v3, _⟩ := cancelTs_mem hu
      have := g.tk v v1
      rw [okK, v2, v3]; exact this
    · exact g.ats u (List.mem_filter.1 hu).1
    · have e2 := hperm.length_eq
      have e3 := List.length_filter_le (fun w => w != (m : Int)) ([(n : Int)] ++ Go.Proofs.Ytgiebofmfkacgaa.pl s)
      simp only [List.length_append, List.length_singleton, List.length_cons] at e2 e3
      simp only [Go.Proofs.Ytgiebofmfkacgaa.pot, work, cancelTs_wk, cancelTs_len] at hp ⊢
      omega
/-- The end of a task. -/
theorem Good.end_ (g : Good jobs s [(n : Int)] M (σ + 1)) {t : Tsk} (h : s.tasks[n]? = some t) : wakes s.ck t.waiters = ⟨s.now, s.ser, s.rs ++ t.waiters, s.ts⟩ ∧ Good jobs (endM s n) [] M σ := by
  have h1 := g.tm
  have h2 := g.se
  have h3 := g.lg
  have hlen := g.len
  obtain ⟨rest, w1, w2⟩ := wts_set h
  have w2' := w2 { t with ended := true, waiters := [] }
  rw [List.nil_append] at w2'
  have hpl1 : (Go.Proofs.Ytgiebofmfkacgaa.pl s).Perm (s.rs ++ s.ts.map (·.task) ++ t.waiters ++ rest) := by
    simp only [Go.Proofs.Ytgiebofmfkacgaa.pl]
    refine (w1.append_left _).trans ?_
    simp
  have hnd := g.pl.perm (hpl1.append_left [(n : Int)])
  have hwk := wakes_eq t.waiters (c := s.ck) g.v (by
    have := hnd.nd
    rw [List.singleton_append, List.nodup_cons, List.nodup_append] at this
    exact this.2.1) (fun x hx => alive_rng (hnd.al x (by simp [hx])) hlen) (by
    have := hnd.len
    simp only [List.length_append, List.length_map, List.length_singleton] at this
    dsimp only [Sm.ck]; omega)
  refine ⟨hwk.1, ?_⟩
  rw [endM, h]
  simp only [hwk.1]
  have hperm : (Go.Proofs.Ytgiebofmfkacgaa.pl ⟨s.now, s.ser, s.rs ++ t.waiters, s.ts, s.tasks.set n { t with ended := true, waiters := [] }, s.log ++ [⟨s.now, n, 3, 0⟩]⟩).Perm (Go.Proofs.Ytgiebofmfkacgaa.pl s) := by
    refine List.Perm.trans ?_ hpl1.symm
    simp only [Go.Proofs.Ytgiebofmfkacgaa.pl]
    refine (w2'.append_left _).trans (List.Perm.append_right _ ?_)
    rw [List.append_assoc, List.append_assoc]
    exact (List.perm_append_comm).append_left _
  have hs := sum_set (f := wk) (t' := { t with ended := true, waiters := [] }) h
  have hpot := g.pot
  have hno := List.nodup_cons.1 (show ((n : Int) :: Go.Proofs.Ytgiebofmfkacgaa.pl s).Nodup from g.pl.nd)
  refine ⟨hwk.2, by simpa using hlen, ?_, fun u hu => ?_, g.ats, ?_, h1, h2, by simp; omega⟩
  · refine Plc.perm (l := Go.Proofs.Ytgiebofmfkacgaa.pl s) ⟨hno.2, fun x hx => ?_⟩ (by simpa using hperm.symm)
    exact alive_ne (fun e => hno.1 (e ▸ hx)) (g.pl.al x (by simp [hx]))
  · rcases List.mem_or_eq_of_mem_set hu with hu | rfl
    · exact g.tk u hu
    · exact g.tk t (List.mem_of_getElem? h)
  · simp only [Go.Proofs.Ytgiebofmfkacgaa.pot, hperm.length_eq, work, List.length_set] at hpot ⊢
    have : wk { t with ended := true, waiters := [] } = wk t := rfl
    omega
/-- An action. -/
theorem Good.act (g : Good jobs s [(n : Int)] M σ) (hJ : Jok jobs) (hp : Go.Proofs.Ytgiebofmfkacgaa.pot s + 2 ≤ M) {a : Ac} (ha : okB jobs a) : Good jobs (actM jobs s n a.kind a.n.toNat).1 (if (actM jobs s n a.kind a.n.toNat).2 then [] else [(n : Int)]) (M - 1) σ := by
  obtain ⟨ak, an⟩ := a
  obtain ⟨⟨a1, a2⟩, a3, a4, a5⟩ := ha
  dsimp only at a1 a2 a3 a4 a5 ⊢
  have h1 := g.tm
  have h2 := g.se
  have h3 := g.lg
  have stay : Good jobs s [(n : Int)] (M - 1) σ := ⟨g.v, g.len, g.pl, g.tk, g.ats, by omega, by omega, by omega, by omega⟩
  unfold actM
  split
  · exact Good.note (σ := σ) ⟨g.v, g.len, g.pl, g.tk, g.ats, by omega, by omega, by omega, by omega⟩ n 2 _
  split
  · rename_i _ hk
    have hd : 0 ≤ ((an.toNat : Nat) : Int) ∧ ((an.toNat : Nat) : Int) ≤ 1000000000 := ⟨by omega, by have := a4 hk; omega⟩
    simp only [g.sleepEq hd, if_true]
    exact g.sleep hp hd
  split
  · rename_i _ _ hk
    exact g.spawn hJ hp (a5 hk)
  split
  · exact stay
  · rename_i t ht
    split
    · split
      · rename_i hc
        simp only [if_true]
        exact g.wait hp ht
      · exact stay
    · split
      · rename_i hc
        obtain ⟨e, k⟩ := g.cancel hp ht hc.1 hc.2.1
        simp only [e]
        exact k
      · exact stay
theorem actM_begun (jobs : List Jb) (s : Sm) (n m : Nat) (k : Int) (t : Tsk) (h : s.tasks[n]? = some t) (hf : (actM jobs s n k m).2 = false) : ∃ u, (actM jobs s n k m).1.tasks[n]? = some u ∧ u.left = t.left ∧ u.job = t.job ∧ u.begun = t.begun ∧ u.guarding = t.guarding := by
  have hn := lt_of_get h
  unfold actM at hf ⊢
  split
  · exact ⟨t, h, rfl, rfl, rfl, rfl⟩
  split
  · exact ⟨t, h, rfl, rfl, rfl, rfl⟩
  split
  · unfold spawnM
    split
    · exact ⟨t, h, rfl, rfl, rfl, rfl⟩
    · exact ⟨t, by simp [List.getElem?_append_left hn, h], rfl, rfl, rfl, rfl⟩
  split
  · exact ⟨t, h, rfl, rfl, rfl, rfl⟩
  · rename_i v hv
    split
    · split
      · rename_i hc
        exact ⟨t, by simp [List.getElem?_set_ne hc.1, h], rfl, rfl, rfl, rfl⟩
      · exact ⟨t, h, rfl, rfl, rfl, rfl⟩
    · split
      · exact ⟨{ t with cancelled := (t.cancelled || decide (m = n)), waiters := t.waiters.filter fun w => w != (m : Int) }, by rw [cancelTs_get, h]; rfl, rfl, rfl, rfl, rfl⟩
      · exact ⟨t, h, rfl, rfl, rfl, rfl⟩
/-- A task goes on. -/
theorem Good.go (hJ : Jok jobs) : ∀ {l : List Ac} {s : Sm} {M : Nat} {t : Tsk}, Good jobs s [(n : Int)] M (σ + 1) → s.tasks[n]? = some t → t.left = l → ∃ M', M' ≤ M ∧ Good jobs (goM jobs n l s) [] M' σ
  | [], s, M, t, g, ht, _ => ⟨M, Nat.le_refl _, (g.end_ ht).2⟩
  | a :: l, s, M, t, g, ht, hl => by
    obtain ⟨g1, hp⟩ := g.take ht hl
    have ha := (g.tk t (List.mem_of_getElem? ht)).2.2 a (by rw [hl]; simp)
    have g2 := g1.act hJ hp ha
    have hn := lt_of_get ht
    rw [goM, ht]
    simp only [Sm.set]
    have hbeg := actM_begun jobs ⟨s.now, s.ser, s.rs, s.ts, s.tasks.set n { t with left := l }, s.log⟩ n a.n.toNat a.kind { t with left := l } (by simp [hn])
    obtain ⟨s', b, hr⟩ : ∃ s' b, actM jobs ⟨s.now, s.ser, s.rs, s.ts, s.tasks.set n { t with left := l }, s.log⟩ n a.kind a.n.toNat = (s', b) := ⟨_, _, rfl⟩
    simp only [hr] at g2 hbeg ⊢
    cases b
    · obtain ⟨u, u1, u2, _⟩ := hbeg rfl
      obtain ⟨M', m1, m2⟩ := Good.go hJ (l := l) g2 u1 u2
      exact ⟨M', by omega, m2⟩
    · exact ⟨M - 1, by omega, g2.weak⟩
/-- A task proceeds. -/
theorem Good.proceed (hJ : Jok jobs) (g : Good jobs s [(n : Int)] M (σ + 2)) : ∃ M', M' ≤ M ∧ Good jobs (proceedM jobs s n) [] M' σ := by
  have hn := g.run_lt (n := n) (by simp)
  obtain ⟨t, ht⟩ : ∃ t, s.tasks[n]? = some t := ⟨_, List.getElem?_eq_getElem hn⟩
  obtain ⟨⟨j, hj1, hj2⟩, k2, k3⟩ := g.tk t (List.mem_of_getElem? ht)
  rw [proceedM, ht]
  dsimp only
  have g1 : Good jobs (s.set n { t with cancelled := false }) [(n : Int)] M (σ + 2) := g.upd ht rfl rfl ⟨⟨j, hj1, hj2⟩, k2, k3⟩ (Nat.le_refl _)
  have ht1 : (s.set n { t with cancelled := false }).tasks[n]? = some { t with cancelled := false } := by simp [Sm.set, hn]
  split
  · split
    · exact ⟨M, Nat.le_refl _, (Good.end_ (σ := σ) (g1.note n 4 0) ht1).2⟩
    · rename_i hc
      have hg : t.guarding = false := by simp at hc; exact hc.2
      have hjd : jobs.getD t.job.toNat ⟨[], []⟩ = jobs[j] := by simp [hj1, List.getD, hj2]
      obtain ⟨q1, q2⟩ := hJ.guard j hj2
      rw [hjd]
      have g2 := (g1.note n 4 0).upd (t' := { t with cancelled := false, guarding := true, left := jobs[j].guard }) ht1 rfl rfl ⟨⟨j, hj1, hj2⟩, q1, q2⟩ (by simp [wk, hg]; omega)
      exact Good.go hJ (t := { t with cancelled := false, guarding := true, left := jobs[j].guard }) g2 (by simp [hn, Sm.set, Sm.note]) rfl
  · split
    · have g2 := (g.note n 1 t.job).upd (t' := { t with begun := true }) ht rfl rfl ⟨⟨j, hj1, hj2⟩, k2, k3⟩ (Nat.le_refl _)
      exact Good.go hJ (t := { t with begun := true }) g2 (by simp [hn, Sm.set, Sm.note]) rfl
    · exact Good.go hJ g.weak ht rfl
end
end Go.Proofs.Ytgiebofmfkacgaa
namespace Go.Proofs.Ytgiebofmfkacgaa
open Go.RowKit

theorem okB_A {jobs : List Jb} {a : Ac} (h : okB jobs a) : okA jobs a := ⟨h.1, h.2.1, h.2.2.2⟩
theorem Good.inv {jobs : List Jb} {s : Sm} {n M σ : Nat} {t : Tsk} (g : Good jobs s [(n : Int)] M σ) (h : s.tasks[n]? = some t) : Inv jobs n t.left s := by
  obtain ⟨_, k2, k3⟩ := g.tk t (List.mem_of_getElem? h)
  have h3 := g.lg
  have hc := g.clk
  have hl := g.pl.len
  have hlen := g.len
  refine ⟨⟨t, h, rfl⟩, g.len, by omega, ⟨by dsimp only [Sm.ck]; omega, by dsimp only [Sm.ck]; omega⟩, fun u hu => ?_, fun a ha => okB_A (k3 a ha)⟩
  obtain ⟨i, hi⟩ := List.getElem?_of_mem hu
  obtain ⟨rest, w1, _⟩ := wts_set hi
  have := w1.length_eq
  simp only [List.length_append] at this
  simp only [Go.Proofs.Ytgiebofmfkacgaa.pl, List.length_append, List.length_singleton] at hl
  omega
theorem proceed_T (jobs : List Jb) (hJ : Jok jobs) (now ser : Int) (rs : List Int) (ts : List Tm) (tasks : List Tsk) (log : List Rc) (n M : Nat) (g : Good jobs ⟨now, ser, rs, ts, tasks, log⟩ [(n : Int)] M 3) (y1 y2 : Int) (y3 : List Int) (y4 : List Tm) (ys : List Tsk) (yl : List Rc) (e : proceedM jobs ⟨now, ser, rs, ts, tasks, log⟩ n = ⟨y1, y2, y3, y4, ys, yl⟩) (r1 r2 : List (List E)) (e1 : r1 = [smRow jobs now ser rs ts tasks.length log]) (e2 : r2 = tasks.map Tsk.row) :
    CallsA Try.prog 47 [smP, di n] [(1, .fm 80 r1), (2, .fm 104 r2)] (Iso (.t []) (smOb jobs y1 y2 y3 y4 ys yl)) := by
  have hn := g.run_lt (n := n) (by simp)
  dsimp only at hn
  obtain ⟨t, ht⟩ : ∃ t, tasks[n]? = some t := ⟨_, List.getElem?_eq_getElem hn⟩
  obtain ⟨⟨j, hj1, hj2⟩, k2, k3⟩ := g.tk t (List.mem_of_getElem? ht)
  have hlg := g.lg
  have hclk := g.clk
  dsimp only at hlg hclk
  have hs : Small ⟨now, ser, rs, ts⟩ := ⟨by dsimp only; omega, by dsimp only; omega⟩
  obtain ⟨job, begun, guarding, ended, cancelled, left, ws⟩ := t
  dsimp only at hj1 k2 k3
  subst hj1
  rw [proceedM] at e
  dsimp only at e
  rw [ht] at e
  dsimp only at e
  cases cancelled
  · simp only [Bool.false_eq_true, if_false] at e
    cases begun
    · simp only [Bool.not_false, if_true] at e
      have g2 := (g.note n 1 j).upd (t' := ⟨j, true, guarding, ended, false, left, ws⟩) ht rfl rfl ⟨⟨j, rfl, hj2⟩, k2, k3⟩ (Nat.le_refl _)
      exact proceedB_T jobs now ser rs ts tasks log n j guarding ended left ws ht (by omega) (g2.inv (t := ⟨j, true, guarding, ended, false, left, ws⟩) (by simp [hn])) y1 y2 y3 y4 ys yl e r1 r2 e1 e2
    · simp only [Bool.not_true, Bool.false_eq_true, if_false] at e
      exact proceedA_T jobs now ser rs ts tasks log n j guarding ended left ws ht (g.inv ht) y1 y2 y3 y4 ys yl e r1 r2 e1 e2
  · simp only [if_true] at e
    by_cases hc : begun = false ∨ (begun = true ∧ guarding = true)
    · rw [if_pos (by rcases hc with h | ⟨h1, h2⟩ <;> simp [*])] at e
      rw [endM] at e
      simp only [Sm.set, Sm.note] at e
      have ht2 : (tasks.set n ⟨j, begun, guarding, ended, false, left, ws⟩)[n]? = some ⟨j, begun, guarding, ended, false, left, ws⟩ := by simp [hn]
      rw [ht2] at e
      dsimp only [Sm.ck] at e
      generalize hw : wakes ⟨now, ser, rs, ts⟩ ws = w at e
      obtain ⟨w1, w2, w3, w4⟩ := w
      injection e with q1 q2 q3 q4 q5 q6
      subst q1 q2 q3 q4 q5 q6
      exact proceedC_T jobs now ser rs ts tasks log n j begun guarding ended left ws hc ht (by omega) hs w1 w2 w3 w4 hw r1 r2 e1 e2
    · have hb : begun = true ∧ guarding = false := by cases begun <;> cases guarding <;> simp_all
      obtain ⟨rfl, rfl⟩ := hb
      rw [if_neg (by simp)] at e
      have hjd : jobs.getD ((j : Int).toNat) ⟨[], []⟩ = jobs[j] := by simp [List.getD, hj2]
      rw [hjd] at e
      obtain ⟨q1, q2⟩ := hJ.guard j hj2
      have g1 : Good jobs ⟨now, ser, rs, ts, tasks.set n ⟨j, true, false, ended, false, left, ws⟩, log⟩ [(n : Int)] M 3 := g.upd (t' := ⟨j, true, false, ended, false, left, ws⟩) ht rfl rfl ⟨⟨j, rfl, hj2⟩, k2, k3⟩ (Nat.le_refl _)
      have g2 := (g1.note n 4 0).upd (n := n) (t := ⟨j, true, false, ended, false, left, ws⟩) (t' := ⟨j, true, true, ended, false, jobs[j].guard, ws⟩) (by simp [hn]) rfl rfl ⟨⟨j, rfl, hj2⟩, q1, q2⟩ (by simp [wk]; omega)
      exact proceedD_T jobs now ser rs ts tasks log n j hj2 ended left ws ht (by omega) (g2.inv (t := ⟨j, true, true, ended, false, jobs[j].guard, ws⟩) (by simp [hn])) y1 y2 y3 y4 ys yl e r1 r2 e1 e2
end Go.Proofs.Ytgiebofmfkacgaa
namespace Go.Proofs.Ytgiebofmfkacgaa
open Go.RowKit

def rangeM (n most : Int) : Int := if n < 0 ∨ most < n then 4 else 0
def checkM (k n jobs : Int) : Int := if k = 1 then rangeM n 1000000000000000 else if k = 2 then rangeM n 1000000000 else if k = 3 then rangeM n (jobs - 1) else if k = 4 ∨ k = 5 then rangeM n 59 else 5
theorem check_T (k n j : Int) (hj : 0 ≤ j) (hj6 : j ≤ 60) : CallsA Try.prog 60 [.a [.u (.int .i64 k), .u (.int .i64 n)], di j] [] (Is (di (checkM k n j))) := by
  refine callsA_of_vc (T := tt) Try.func60 rfl rfl rfl rfl rfl ?_
  repeat' ((conv => whnf); first | refine Gs.id ?_ | with_reducible refine Brn.T rfl ?_ | refine Brn.T (by (try simp only [smT]); first | rfl | assumption) ?_ | refine Brn.F (by (try simp only [smT]); first | rfl | assumption) ?_ | (refine Brn.mk (fun hb => ?_) (fun hb => ?_) <;> (try simp only [smT] at hb) <;> (try (exact absurd trivial hb)) <;> (try (exfalso; omega))) | refine Rng.mk (by (try simp only [smT]); omega) ?_)
  all_goals (conv => whnf)
  all_goals (refine Ret.is ?_; simp only [tupT, SC.up, upT]; simp [checkM, rangeM, *])
end Go.Proofs.Ytgiebofmfkacgaa
namespace Go.Proofs.Ytgiebofmfkacgaa
open Go.RowKit

abbrev aar (k : Nat) (l : List Ac) : Nat × Ob := (k, .ar 83 2 (l.map Ac.v))
theorem grow_T (n : Nat) (hn : n ≤ 1000000) : CallsA Try.prog 69 [.d (.u .nl), di n] [] (Iso (.d (.ow 903 0)) [aar 903 []]) := by
  by_cases h0 : n = 0
  · subst h0
    refine callsA_of_vcO (T := tt) Try.func69 rfl rfl rfl rfl rfl ?_
    repeat' ((conv => whnf); first | refine Gs.id ?_ | with_reducible refine Brn.F rfl ?_ | refine Rng.mk (by (try simp only [smT]); omega) ?_ | refine Raw.capNil (T := tt) rfl rfl rfl rfl ?_)
    all_goals (conv => whnf)
    · exact RetO.mk ⟨[(903, .n 2)], _, _, .d (.no rfl rfl), LeO.no rfl rfl .nil, rfl, rfl⟩
  · refine callsA_of_vcO (T := tt) Try.func69 rfl rfl rfl rfl rfl ?_
    repeat' ((conv => whnf); first | refine Raw.appendZ (T := tt) n rfl rfl (by simp) rfl rfl rfl rfl rfl rfl rfl rfl rfl (by omega) hn (by omega) ?_ | refine Gs.id ?_ | with_reducible refine Brn.F rfl ?_ | refine Brn.T (by (try simp only [smT]); first | rfl | omega) ?_ | refine Rng.mk (by (try simp only [smT]); omega) ?_ | refine Raw.capNil (T := tt) rfl rfl rfl rfl ?_ | refine Raw.sliceNil (T := tt) rfl rfl (by rfl) rfl rfl rfl rfl ?_ | refine Slc.mk ⟨_, _, rfl, rfl, (by (try simp only [smT]); omega), (by (try simp only [smT]); omega), ?_⟩)
    all_goals (conv => whnf)
    · exact RetO.mk ⟨[(903, .k 22)], _, _, .d (.ow rfl rfl), LeO.tr (m := 0) rfl rfl (Nat.zero_le _) rfl .nil, rfl, rfl⟩
theorem concat_T (a b : List Ac) (ha : a.length ≤ 30) (hb : b.length ≤ 30) : CallsA Try.prog 59 [.d (.u (.sl 1 [[avs a], [avs b]]))] [] (Is (.d (.u (avs (a ++ b))))) := by
  refine callsA_of_vc (T := tt) Try.func59 rfl rfl rfl rfl rfl ?_
  repeat' ((conv => whnf); first | refine Gs.id ?_ | (refine Bnd.mk (fun hm => ?_); (try simp only [smT] at hm)))
  all_goals (conv => whnf)
  refine ⟨⟨Nat, fun i => i ≤ 2, fun i => 2 - i, fun i => ⟨[(0, .d (.u (.sl 1 [[avs a], [avs b]]))), (3, di (match i with | 0 => 0 | 1 => a.length | _ => (a.length : Int) + b.length)), (9, .d (.u (.sl 1 [[avs a], [avs b]]))), (10, di 2), (11, di i)], []⟩, 0, by omega, ⟨[], ⟨by (try dsimp only); (repeat (refine LeT.cons rfl (by exact LeS.d (by exact LeD.u rfl)) ?_)); exact LeT.nil, by (try dsimp only); repeat (exact LeO.nil)⟩⟩, fun i hi => ?_⟩⟩
  dsimp only at hi ⊢
  have h3 : i = 0 ∨ i = 1 ∨ i = 2 := by omega
  rcases h3 with rfl | rfl | rfl
  · repeat' ((conv => whnf); first | refine Gs.id ?_ | with_reducible refine Brn.T rfl ?_ | with_reducible refine Brn.F rfl ?_ | (refine Bnd.mk (fun hm => ?_); (try simp only [smT] at hm)) | refine Rng.mk (by (try simp only [smT]); omega) ?_ | refine Ix.lit (m := 0) rfl rfl ?_)
    all_goals (conv => whnf)
    · exact ⟨1, by omega, by omega, [], ⟨by (try dsimp only); (repeat (refine LeT.cons rfl (by exact LeS.d (by first | exact LeD.u rfl | exact LeD.u (by simp; done))) ?_)); exact LeT.nil, by (try dsimp only); repeat (exact LeO.nil)⟩⟩
  · repeat' ((conv => whnf); first | refine Ix.lit (m := 1) rfl rfl ?_ | refine Gs.id ?_ | with_reducible refine Brn.T rfl ?_ | with_reducible refine Brn.F rfl ?_ | (refine Bnd.mk (fun hm => ?_); (try simp only [smT] at hm)) | refine Rng.mk (by (try simp only [smT]); omega) ?_)
    all_goals (conv => whnf)
    · exact ⟨2, by omega, by omega, [], ⟨by (try dsimp only); (repeat (refine LeT.cons rfl (by exact LeS.d (by first | exact LeD.u rfl | exact LeD.u (by simp; done))) ?_)); exact LeT.nil, by (try dsimp only); repeat (exact LeO.nil)⟩⟩
  · repeat' ((conv => whnf); first | refine Gs.id ?_ | with_reducible refine Brn.F rfl ?_ | (refine Bnd.mk (fun hm => ?_); (try simp only [smT] at hm)) | (refine CL.mk (Or.inr (Raw.callI [] [903] rfl rfl rfl rfl rfl rfl rfl (grow_T (a.length + b.length) (by omega)) ?_)); rintro _ _ ⟨rfl, rfl⟩; refine Bk.mk rfl rfl ?_))
    all_goals (conv => whnf)
    refine ⟨⟨Nat, fun i => i ≤ 2, fun i => 2 - i, fun i => ⟨[(6, .d (.ow 903 (match i with | 0 => 0 | 1 => a.length | _ => a.length + b.length))), (25, .d (.u (.sl 1 [[avs a], [avs b]]))), (26, di 2), (27, di i)], [aar 903 (match i with | 0 => [] | 1 => a | _ => a ++ b)]⟩, 0, by omega, ⟨[(903, .k 903)], ⟨by (try dsimp only); (repeat (refine LeT.cons rfl (by exact LeS.d (by first | exact LeD.u rfl | exact LeD.ow rfl rfl)) ?_)); exact LeT.nil, by (try dsimp only); repeat (first | exact LeO.nil | refine LeO.ar rfl rfl (by rfl) ?_)⟩⟩, fun i hi => ?_⟩⟩
    dsimp only at hi ⊢
    have h3 : i = 0 ∨ i = 1 ∨ i = 2 := by omega
    rcases h3 with rfl | rfl | rfl
    · repeat' ((conv => whnf); first | refine Gs.id ?_ | with_reducible refine Brn.T rfl ?_ | refine Rng.mk (by (try simp only [smT]); omega) ?_ | refine Ix.lit (m := 0) rfl rfl ?_ | refine Apd.mk (by rfl) (by rfl) (by (try simp only [smT]); omega) (by unfold maxLen; first | (simp; omega)) ?_)
      all_goals (conv => whnf)
      · exact ⟨1, by omega, by omega, [(903, .k 33)], ⟨by (try dsimp only); (repeat (refine LeT.cons rfl (by exact LeS.d (by first | exact LeD.u rfl | exact LeD.ow rfl (by simp))) ?_)); exact LeT.nil, by (try dsimp only); repeat (first | exact LeO.nil | refine LeO.ar rfl rfl (by rfl) ?_)⟩⟩
    · repeat' ((conv => whnf); first | refine Ix.lit (m := 1) rfl rfl ?_ | refine Gs.id ?_ | with_reducible refine Brn.T rfl ?_ | refine Rng.mk (by (try simp only [smT]); omega) ?_ | refine Apd.mk (by first | rfl | simp) (by rfl) (by (try simp only [smT]); omega) (by unfold maxLen; first | (simp; omega)) ?_)
      all_goals (conv => whnf)
      · exact ⟨2, by omega, by omega, [(903, .k 33)], ⟨by (try dsimp only); (repeat (refine LeT.cons rfl (by exact LeS.d (by first | exact LeD.u rfl | exact LeD.ow rfl (by simp))) ?_)); exact LeT.nil, by (try dsimp only); repeat (first | exact LeO.nil | refine LeO.ar rfl rfl (by first | simp) ?_)⟩⟩
    · repeat' ((conv => whnf); first | refine Gs.id ?_ | with_reducible refine Brn.F rfl ?_ | refine Len.mk (by first | rfl | (simp; done)) ?_)
      all_goals (conv => whnf)
      · exact Ret.is (by simp [tupT, SC.up])
def firstBad (j : Int) : List Ac → Int
  | [] => 0
  | a :: l => if checkM a.kind a.n j ≠ 0 then checkM a.kind a.n j else firstBad j l
def checkJobM (j : Jb) (n : Int) : Int := if 30 < j.acts.length ∨ 30 < j.guard.length then 2 else firstBad n (j.acts ++ j.guard)
theorem checkJob_T (j : Jb) (n : Int) (hn : 0 ≤ n) (hn6 : n ≤ 60) : CallsA Try.prog 45 [.a [.u (avs j.acts), .u (avs j.guard)], di n] [] (Is (di (checkJobM j n))) := by
  obtain ⟨acts, guard⟩ := j
  by_cases hl : 30 < acts.length ∨ 30 < guard.length
  · rw [checkJobM, if_pos hl]
    refine callsA_of_vc (T := tt) Try.func45 rfl rfl rfl rfl rfl ?_
    repeat' ((conv => whnf); first | refine Gs.id ?_ | with_reducible refine Brn.T rfl ?_ | refine Brn.T (by (try simp only [smT]); first | rfl | assumption | omega) ?_ | refine Brn.F (by (try simp only [smT]); first | rfl | assumption) ?_ | (refine Brn.mk (fun hb => ?_) (fun hb => ?_) <;> (try simp only [smT] at hb) <;> (try (exact absurd trivial hb)) <;> (try (exfalso; omega))) | (refine Bnd.mk (fun hm => ?_); (try simp only [smT] at hm)))
    all_goals (conv => whnf)
    all_goals exact Ret.is rfl
  · rw [checkJobM, if_neg hl]
    refine callsA_of_vc (T := tt) Try.func45 rfl rfl rfl rfl rfl ?_
    repeat' ((conv => whnf); first | refine Gs.id ?_ | refine Brn.F (by (try simp only [smT]); first | rfl | omega) ?_ | (refine Bnd.mk (fun hm => ?_); (try simp only [smT] at hm)) | (refine CL.mk (Or.inl ?_); (conv => whnf); refine ClO.mk (Or.inr ?_); (repeat ((conv => whnf); refine Len.mk (by rfl) ?_)); (conv => whnf); refine Cl.is (concat_T acts guard (by omega) (by omega)) rfl (by first | (intro e; cases e; done)) ?_))
    all_goals (conv => whnf)
    dsimp only
    generalize hL : acts ++ guard = L
    have hlen : L.length ≤ 60 := by rw [← hL]; simp; omega
    refine ⟨⟨Nat, fun i => i ≤ L.length ∧ firstBad n L = firstBad n (L.drop i), fun i => L.length - i, fun i => ⟨[(1, di n), (23, .d (.u (avs L))), (24, di L.length), (25, di i)], []⟩, 0, ⟨by omega, rfl⟩, ⟨[], ⟨by (try dsimp only); (repeat (refine LeT.cons rfl (by exact LeS.d (by first | exact LeD.u rfl | exact LeD.u (by simp [hL]; done))) ?_)); exact LeT.nil, by (try dsimp only); repeat (exact LeO.nil)⟩⟩, fun i ⟨hi, he⟩ => ?_⟩⟩
    dsimp only
    by_cases h9 : i < L.length
    · rw [he, List.drop_eq_getElem_cons h9, firstBad]
      have hc := check_T (L[i]).kind (L[i]).n n hn hn6
      generalize checkM (L[i]).kind (L[i]).n n = cc at hc ⊢
      repeat' ((conv => whnf); first | refine Gs.id ?_ | refine Brn.T (by (try simp only [smT]); first | rfl | omega) ?_ | (refine Brn.mk (fun hb => ?_) (fun hb => ?_) <;> (try simp only [smT] at hb) <;> (try (exact absurd trivial hb)) <;> (try (exfalso; omega))) | refine Rng.mk (by (try simp only [smT]); omega) ?_ | refine Ix.map rfl (by (try simp only [smT]); omega) ?_ | (refine CL.mk (Or.inl ?_); (conv => whnf); refine Cl.is (hc) rfl (by exact fun _ => rfl) ?_))
      all_goals (conv => whnf)
      · rw [if_pos (by assumption)]; exact Ret.is rfl
      · exact ⟨i + 1, ⟨by omega, by rw [if_neg (by simpa using (by assumption))]⟩, by omega, [], ⟨by (try dsimp only); (repeat (refine LeT.cons rfl (by exact LeS.d (by exact LeD.u rfl)) ?_)); exact LeT.nil, by (try dsimp only); repeat (exact LeO.nil)⟩⟩
    · obtain rfl : i = L.length := by omega
      rw [he, List.drop_length, firstBad]
      repeat' ((conv => whnf); first | refine Gs.id ?_ | refine Brn.F (by (try simp only [smT]); first | rfl | omega) ?_)
      all_goals (conv => whnf)
      · exact Ret.is rfl
end Go.Proofs.Ytgiebofmfkacgaa
namespace Go.Proofs.Ytgiebofmfkacgaa
open Go.RowKit

def jobsM (n : Int) : List Jb → Nat → Int × Int
  | [], _ => (0, 0)
  | j :: l, i => if checkJobM j n ≠ 0 then (checkJobM j n, (i : Int)) else jobsM n l (i + 1)
def simFault (jobs : List Jb) : Int × Int := if jobs.length = 0 then (10, -1) else if 60 < jobs.length then (2, -1) else jobsM jobs.length jobs 0
def simF (jobs : List Jb) : Nat → Sm → List Rc
  | 0, s => s.log
  | f + 1, s => if (nextM s.ck).2.2.1 = 0 then simF jobs f (proceedM jobs (s.put (nextM s.ck).1) (nextM s.ck).2.1.toNat) else s.log
def init (jobs : List Jb) : Sm := ⟨0, 0, [0], [], [⟨0, false, false, false, false, (jobs.getD 0 ⟨[], []⟩).acts, []⟩], []⟩
def simM (jobs : List Jb) : List Rc := simF jobs 7202 (init jobs)
theorem checkM_ok {jobs : List Jb} {a : Ac} (h : checkM a.kind a.n jobs.length = 0) : okB jobs a := by
  obtain ⟨k, n⟩ := a
  dsimp only at h
  simp only [checkM, rangeM] at h
  refine ⟨?_, ?_, fun e => ?_, fun e => ?_⟩
  · dsimp only
    repeat' split at h
    all_goals first | omega | (rename_i q; rcases q with q | q <;> omega)
  · dsimp only
    repeat' split at h
    all_goals omega
  · dsimp only at e ⊢
    subst e
    simp only [show ¬ (2 : Int) = 1 by decide, if_false, if_true] at h
    split at h <;> omega
  · dsimp only at e ⊢
    subst e
    simp only [show ¬ (3 : Int) = 1 by decide, show ¬ (3 : Int) = 2 by decide, if_false, if_true] at h
    split at h <;> omega
theorem firstBad_ok {j : Int} : ∀ {l : List Ac}, firstBad j l = 0 → ∀ a ∈ l, checkM a.kind a.n j = 0
  | [], _, a, ha => by simp at ha
  | b :: l, h, a, ha => by
    rw [firstBad] at h
    split at h
    · rename_i q; exact absurd h q
    · rename_i q
      rcases List.mem_cons.1 ha with rfl | ha
      · simpa using q
      · exact firstBad_ok h a ha
theorem jobsM_ok {n : Int} : ∀ {l : List Jb} {i : Nat}, (jobsM n l i).1 = 0 → ∀ j ∈ l, checkJobM j n = 0
  | [], _, _, j, hj => by simp at hj
  | b :: l, i, h, j, hj => by
    rw [jobsM] at h
    split at h
    · rename_i q; exact absurd h q
    · rename_i q
      rcases List.mem_cons.1 hj with rfl | hj
      · simpa using q
      · exact jobsM_ok h j hj
theorem checkJob_ok {jobs : List Jb} {j : Jb} (h : checkJobM j jobs.length = 0) : (j.acts.length ≤ 30 ∧ ∀ a ∈ j.acts, okB jobs a) ∧ (j.guard.length ≤ 30 ∧ ∀ a ∈ j.guard, okB jobs a) := by
  rw [checkJobM] at h
  split at h
  · cases h
  · rename_i q
    have := firstBad_ok h
    exact ⟨⟨by omega, fun a ha => checkM_ok (this a (by simp [ha]))⟩, ⟨by omega, fun a ha => checkM_ok (this a (by simp [ha]))⟩⟩
theorem simFault_ok {jobs : List Jb} (h : (simFault jobs).1 = 0) : Jok jobs := by
  rw [simFault] at h
  split at h
  · cases h
  split at h
  · cases h
  · have := jobsM_ok h
    exact ⟨by omega, by omega, fun j hj => (checkJob_ok (this _ (List.getElem_mem hj))).1, fun j hj => (checkJob_ok (this _ (List.getElem_mem hj))).2⟩
theorem init_good {jobs : List Jb} (hJ : Jok jobs) : Good jobs (init jobs) [] 7201 0 := by
  have hq : jobs.getD 0 ⟨[], []⟩ = jobs[0]'hJ.ne := by simp [List.getD, hJ.ne]
  obtain ⟨k1, k2⟩ := hJ.acts 0 hJ.ne
  unfold init
  rw [hq]
  refine ⟨(valid_iff _).1 (show (validate ⟨0, 0, [0], []⟩).1 = 0 by decide +kernel), by simp, ⟨by simp [pl, wts], fun x hx => ?_⟩, fun t ht => ?_, by simp, ?_, by simp, by simp, by simp⟩
  · simp [pl, wts] at hx
    subst hx
    exact ⟨0, _, rfl, rfl, rfl⟩
  · simp at ht
    subst ht
    exact ⟨⟨0, rfl, hJ.ne⟩, k1, k2⟩
  · simp [pot, work, wk, pl, wts]; omega
end Go.Proofs.Ytgiebofmfkacgaa
namespace Go.Proofs.Ytgiebofmfkacgaa
open Go.RowKit
def actsG (jobs : List Jb) (t : Tk6) : List Ac := if t.guarding then (jobs.getD t.job.toNat ⟨[], []⟩).guard else (jobs.getD t.job.toNat ⟨[], []⟩).acts
def modG (g : Sg) (n : Nat) (f : Tk6 → Tk6) : Sg := ⟨g.tasks.modify n f, g.now, g.next, g.log⟩
def aliveG (g : Sg) (n : Nat) (m : Int) : Bool := m != n && decide (m < g.tasks.length) && (match g.tasks[m.toNat]? with | none => false | some t => !t.ended)
def cancG (g : Sg) (m : Nat) : Sg := match g.tasks[m]? with
  | none => g
  | some t => if t.cancelled then g else
    if t.stamp < 0 ∨ g.now < t.due then readyG (modG g m fun t => { t with cancelled := true, waits := -1 }) m else modG g m fun t => { t with cancelled := true, waits := -1 }
/-- The actions of a task, one after the other. -/
def goG (jobs : List Jb) (n : Nat) : Nat → Sg → Sg
  | 0, g => g
  | f + 1, g => match g.tasks[n]? with
    | none => g
    | some t => match (actsG jobs t)[t.at_.toNat]? with
      | none => endG g n
      | some a =>
        let h := modG g n fun t => { t with at_ := t.at_ + 1 }
        if a.kind = 1 then goG jobs n f (recG h n 2 a.n)
        else if a.kind = 2 then modG (readyG h n) n fun t => { t with due := h.now + a.n }
        else if a.kind = 3 then (if h.tasks.length < 60 then goG jobs n f (readyG ⟨h.tasks ++ [⟨a.n, 0, false, false, false, false, 0, 0, -1, 0⟩], h.now, h.next, h.log⟩ h.tasks.length) else goG jobs n f h)
        else if a.kind = 4 then (if aliveG h n a.n then ⟨h.tasks.modify n fun t => { t with waits := a.n, since := h.next }, h.now, h.next + 1, h.log⟩ else goG jobs n f h)
        else (if aliveG h n a.n then goG jobs n f (cancG h a.n.toNat) else goG jobs n f h)
def procG (jobs : List Jb) (g : Sg) (n : Nat) : Sg := match g.tasks[n]? with
  | none => g
  | some t =>
    let h := modG g n fun t => { t with stamp := -1 }
    if t.cancelled then
      (if t.begun = false ∨ t.guarding then endG (modG (recG h n 4 0) n fun t => { t with cancelled := false }) n
       else goG jobs n 31 (modG (recG h n 4 0) n fun t => { t with cancelled := false, guarding := true, at_ := 0 }))
    else if t.begun = false then goG jobs n 31 (modG (recG h n 1 t.job) n fun t => { t with begun := true })
    else goG jobs n 31 h
structure Sok (jobs : List Jb) (g : Sg) (f : Nat) : Prop where
  le : g.tasks.length ≤ 60
  job : ∀ (i : Nat) (t : Tk6), g.tasks[i]? = some t → (∃ j : Nat, t.job = (j : Int) ∧ j < jobs.length) ∧ 0 ≤ t.at_
  next : 0 ≤ g.next
  nextb : g.next + f ≤ 1000000000 - 61
  log : g.log.length + f ≤ 1000000 - 1
  now : 0 ≤ g.now
  nowb : g.now ≤ 10000000000000
theorem ended_R' (jobs : List Jb) (ts : List Tk6) (now nx : Int) (log : List Rc) (n : Nat) (N M : Nat) (hN : N = ts.length) (hM : M = log.length) (r1 r2 : List (List V)) (e1 : r1 = ts.map Tk6.v) (e2 : r2 = log.map Rc.v) (hn : n < ts.length) (hb : nx + ts.length ≤ 1000000000) (h0 : 0 ≤ nx) (hl : log.length ≤ 1000000) (ht : ts.length ≤ 60) (R : Sg) (hR : endG ⟨ts, now, nx, log⟩ n = R) : CallsA Try.prog 65 [.a [.u (jvs jobs), .ow 901 N, .u (.int .i64 now), .u (.int .i64 nx), .ow 902 M], di n] [(901, .ar 85 10 r1), (902, .ar 55 4 r2)] (Iso (sgA jobs R) (sgO R)) := by
  subst hN hM e1 e2 hR
  exact ended_R jobs ⟨ts, now, nx, log⟩ n hn hb h0 hl ht
theorem ready_R2 (jobs : List Jb) (ts : List Tk6) (now nx : Int) (log : List Rc) (n : Nat) (hn : n < ts.length) (hb : nx ≤ 1000000000) (h0 : 0 ≤ nx) (N M : Nat) (hN : N = ts.length) (hM : M = log.length) (r1 r2 : List (List V)) (e1 : r1 = ts.map Tk6.v) (e2 : r2 = log.map Rc.v) (T : List Tk6) (hT : T = ts.modify n fun t => { t with due := now, stamp := nx }) : CallsA Try.prog 48 [.a [.u (jvs jobs), .ow 901 N, .u (.int .i64 now), .u (.int .i64 nx), .ow 902 M], di n] [(901, .ar 85 10 r1), (902, .ar 55 4 r2)] (Iso (sgA jobs ⟨T, now, nx + 1, log⟩) (sgO ⟨T, now, nx + 1, log⟩)) := by
  subst hN hM e1 e2 hT
  exact ready_R jobs ⟨ts, now, nx, log⟩ n hn hb h0
/-- The first loop of a code. -/
def firstLoop : Code → Option Code
  | .loop c => some (.loop c)
  | .seq a b => match firstLoop a with
    | some c => some c
    | none => firstLoop b
  | .block _ c => firstLoop c
  | .cond _ a b => match firstLoop a with
    | some c => some c
    | none => firstLoop b
  | _ => none
abbrev stO (jobs : List Jb) (g : Sg) : Ob := .bx 88 [.u (jvs jobs), .ow 901 g.tasks.length, .u (.int .i64 g.now), .u (.int .i64 g.next), .ow 902 g.log.length]
abbrev tkB (b : Bool) : D := .u (.bool b)
abbrev tkI (n : Int) : D := .u (.int .i64 n)
abbrev tkO (t : Tk6) : Ob := .bx 85 [tkI t.job, tkI t.at_, tkB t.begun, tkB t.guarding, tkB t.ended, tkB t.cancelled, tkI t.due, tkI t.stamp, tkI t.waits, tkI t.since]
abbrev prS (jobs : List Jb) (n : Nat) (g : Sg) (t : Tk6) : St := ⟨[(1, di n), (2, .d (.p 2 0)), (4, .d (.p 4 0)), (5, .d (.p 5 0))], [(2, stO jobs g), (4, .bx 88 [.u .nl, .u .nl, .u (.int .i64 0), .u (.int .i64 0), .u .nl]), (5, tkO t)] ++ sgO g⟩
/-- What the first loop does. -/
def bodyOf (c : Option Code) : Code := match c.bind firstLoop with
  | some (.loop c) => c
  | _ => .skip
def actN (jobs : List Jb) (g : Sg) (n f : Nat) : Prop := ∀ t, g.tasks[n]? = some t → t.at_.toNat ≤ (actsG jobs t).length ∧ (actsG jobs t).length < t.at_.toNat + f
structure PInv (jobs : List Jb) (n : Nat) (R : Sg) (y : Nat × Sg × Tk6) : Prop where
  ok : Sok jobs y.2.1 y.1
  lt : n < y.2.1.tasks.length
  act : actN jobs y.2.1 n y.1
  go : goG jobs n y.1 y.2.1 = R
abbrev PNext (jobs : List Jb) (n f : Nat) (R : Sg) : Kt := fun tm ob => ∃ y : Nat × Sg × Tk6, PInv jobs n R y ∧ y.1 < f + 1 ∧ ∃ src, LeSt src ⟨tm, ob⟩ (prS jobs n y.2.1 y.2.2)
/-- A task ahead of an action. -/
structure PStep (jobs : List Jb) (n f : Nat) (ts : List Tk6) (now nx : Int) (log : List Rc) (t : Tk6) (j k : Nat) (A o : List Ac) (T1 : List Tk6) : Prop where
  hs : Sok jobs ⟨ts, now, nx, log⟩ (f + 1)
  hn : n < ts.length
  job : t.job = (j : Int)
  at_ : t.at_ = (k : Int)
  rd : ts[n]? = some t
  ix : ∀ {K : List V → Prop}, K (bif t.guarding then [avs o, avs A] else [avs A, avs o]) → Ix (jobs.map Jb.v) (j : Int) K
  hk : k < A.length
  hA : A.length ≤ 30
  hT : T1 = ts.set n { t with at_ := (k : Int) + 1 }
  hs' : Sok jobs ⟨T1, now, nx, log⟩ (f + 1)
  act : actN jobs ⟨T1, now, nx, log⟩ n f
theorem PStep.len {jobs : List Jb} {n f : Nat} {ts : List Tk6} {now nx : Int} {log : List Rc} {t : Tk6} {j k : Nat} {A o : List Ac} {T1 : List Tk6} (p : PStep jobs n f ts now nx log t j k A o T1) : T1.length = ts.length := by rw [p.hT]; simp
/-- The same jobs and places. -/
structure SameJ (a b : List Tk6) : Prop where
  len : b.length = a.length
  eq : ∀ (i : Nat) t, b[i]? = some t → ∃ u, a[i]? = some u ∧ t.job = u.job ∧ t.at_ = u.at_ ∧ t.guarding = u.guarding
theorem SameJ.refl {a : List Tk6} : SameJ a a := ⟨rfl, fun i t h => ⟨t, h, rfl, rfl, rfl⟩⟩
theorem SameJ.trans {a b c : List Tk6} (h : SameJ a b) (k : SameJ b c) : SameJ a c := ⟨k.len.trans h.len, fun i t q => by
  obtain ⟨u, q1, q2, q3, q4⟩ := k.eq i t q
  obtain ⟨v, r1, r2, r3, r4⟩ := h.eq i u q1
  exact ⟨v, r1, q2.trans r2, q3.trans r3, q4.trans r4⟩⟩
theorem SameJ.mod {a : List Tk6} (n : Nat) (f : Tk6 → Tk6) (h1 : ∀ t, (f t).job = t.job) (h2 : ∀ t, (f t).at_ = t.at_) (h3 : ∀ t, (f t).guarding = t.guarding) : SameJ a (a.modify n f) := ⟨by simp, fun i t q => by
  rw [List.getElem?_modify] at q
  cases hg : a[i]? with
  | none => rw [hg] at q; simp at q
  | some w =>
    rw [hg] at q
    by_cases hi : n = i
    · simp only [if_pos hi, Option.map_eq_map, Option.map_some, Option.some.injEq] at q
      subst q
      exact ⟨w, rfl, h1 w, h2 w, h3 w⟩
    · simp only [if_neg hi, Option.map_eq_map, Option.map_some, Option.some.injEq, id] at q
      subst q
      exact ⟨w, rfl, rfl, rfl, rfl⟩⟩
theorem SameJ.set {a : List Tk6} {n : Nat} {t t' : Tk6} (h : a[n]? = some t) (h1 : t'.job = t.job) (h2 : t'.at_ = t.at_) (h3 : t'.guarding = t.guarding) : SameJ a (a.set n t') := ⟨by simp, fun i u q => by
  rw [List.getElem?_set] at q
  by_cases hi : n = i
  · subst hi
    rw [if_pos rfl, if_pos (List.getElem?_eq_some_iff.1 h).1] at q
    injection q with q
    subst q
    exact ⟨t, h, h1, h2, h3⟩
  · rw [if_neg hi] at q
    exact ⟨u, q, rfl, rfl, rfl⟩⟩
theorem SameJ.app {a : List Tk6} {n : Nat} {t : Tk6} (h : n < a.length) : ∀ u, (a ++ [t])[n]? = some u → a[n]? = some u := fun u q => by rwa [List.getElem?_append_left h] at q
/-- The next round's state. -/
theorem PInv.of {jobs : List Jb} {n f : Nat} {R : Sg} {T1 T2 : List Tk6} {now nx nx' : Int} {log log' : List Rc} {t : Tk6} (s : Sok jobs ⟨T1, now, nx, log⟩ (f + 1)) (hn : n < T1.length) (a : actN jobs ⟨T1, now, nx, log⟩ n f) (h : SameJ T1 T2) (h1 : nx ≤ nx') (h2 : nx' ≤ nx + 1) (h3 : log'.length ≤ log.length + 1) (hR : goG jobs n f ⟨T2, now, nx', log'⟩ = R) : PInv jobs n R (f, ⟨T2, now, nx', log'⟩, t) := by
  refine ⟨⟨?_, ?_, ?_, ?_, ?_, s.now, s.nowb⟩, ?_, ?_, hR⟩
  · have := s.le; have := h.len; dsimp only at *; omega
  · intro i t q
    obtain ⟨u, u1, u2, u3, _⟩ := h.eq i t q
    have := s.job i u u1
    rw [u2, u3]
    exact this
  · have := s.next; dsimp only at *; omega
  · have := s.nextb; dsimp only at *; omega
  · have := s.log; dsimp only at *; omega
  · have := h.len; dsimp only at *; omega
  · intro t q
    obtain ⟨u, u1, u2, u3, u4⟩ := h.eq n t q
    have := a u u1
    have e : actsG jobs t = actsG jobs u := by simp only [actsG, u2, u4]
    rw [e, u3]
    exact this
theorem r0_T (m : Nat) (b : Nat) (h : m < b) : CallsA Try.prog 66 [di m, di b] [] (Is (di m)) := by
  have := r0_R m b
  rw [if_pos (by omega)] at this
  exact this
theorem Rw_ne {β : Type} {rs : List (List β)} {n m : Nat} {row r : List β} {K : List β → Prop} (h : rs[m]? = some row) (hne : n ≠ m) (k : K row) : Rw (rs.set n r) m K := ⟨row, by rw [List.getElem?_set_ne hne]; exact h, k⟩
set_option maxHeartbeats 4000000 in
/-- The actions are done. -/
theorem proc_end (jobs : List Jb) (n f : Nat) (ts : List Tk6) (now nx : Int) (log : List Rc) (t0 : Tk6) (R : Sg) (j : Nat) (A o : List Ac) (t3 t4 t5 t6 : Bool) (t7 t8 t9 t10 : Int) (hs : Sok jobs ⟨ts, now, nx, log⟩ (f + 1)) (hn : n < ts.length) (hget : ts[n]? = some ⟨j, A.length, t3, t4, t5, t6, t7, t8, t9, t10⟩) (hix' : ∀ {K : List V → Prop}, K (bif t4 then [avs o, avs A] else [avs A, avs o]) → Ix (jobs.map Jb.v) (j : Int) K) (hA : A.length ≤ 30) (hR : endG ⟨ts, now, nx, log⟩ n = R) (Ke : Nat → Kt) : vcC Try.prog tt Try.f49.ntmps (RetKO tt Try.f49.results.toList (Iso (sgA jobs R) (sgO R))) (bodyOf Try.f49.body) (PNext jobs n f R) Ke (prS jobs n ⟨ts, now, nx, log⟩ t0).tm (prS jobs n ⟨ts, now, nx, log⟩ t0).ob := by
  have hrw : ∀ {K : List V → Prop}, K (⟨j, A.length, t3, t4, t5, t6, t7, t8, t9, t10⟩ : Tk6).v → Rw (ts.map Tk6.v) n K := fun k => Rw.get (by rw [List.getElem?_map, hget]; rfl) k
  have hb1 := hs.nextb
  have hb2 := hs.le
  have hb3 := hs.log
  dsimp only at hb1 hb2 hb3
  cases t4
  all_goals
    (conv => whnf)
    repeat' ((conv => whnf); first | refine Ixo.mk ⟨n, rfl, hn, ?_⟩ | refine hrw ?_ | refine hix' ?_ | refine Gs.id ?_ | with_reducible refine Brn.T rfl ?_ | with_reducible refine Brn.F rfl ?_ | refine Brn.T (by (try simp only [smT]); first | rfl | omega) ?_ | (refine Bnd.mk (fun hm => ?_); (try simp only [smT] at hm)) | (refine CL.mk (Or.inr (Raw.callI [901,902] [901,902] rfl rfl rfl rfl rfl rfl rfl (ended_R' jobs ts now nx log n _ _ rfl rfl _ _ rfl rfl hn (by omega) hs.next (by omega) hs.le R hR) ?_)); rintro _ _ ⟨rfl, rfl⟩; refine Bk.mk rfl rfl ?_))
  all_goals (conv => whnf)
  all_goals refine RetO.mk ⟨[(901, .k 901), (902, .k 902)], _, _, (by exact LeS.a (by repeat (first | exact LeL.nil | refine LeL.cons (by first | exact LeD.u rfl | exact LeD.ow rfl rfl) ?_))), (by repeat (first | exact LeO.nil | refine LeO.ar rfl rfl (by rfl) ?_)), rfl, rfl⟩
end Go.Proofs.Ytgiebofmfkacgaa
namespace Go.Proofs.Ytgiebofmfkacgaa
open Go.RowKit
set_option maxHeartbeats 8000000 in
theorem pk1 (jobs : List Jb) (n f : Nat) (ts : List Tk6) (now nx : Int) (log : List Rc) (t0 : Tk6) (R : Sg) (j k : Nat) (A o : List Ac) (T1 : List Tk6) (t3 t4 t5 t6 : Bool) (t7 t8 t9 t10 : Int) (p : PStep jobs n f ts now nx log ⟨j, k, t3, t4, t5, t6, t7, t8, t9, t10⟩ j k A o T1) (m : Nat) (ha : A[k]? = some ⟨1, m⟩) (hR : goG jobs n f ⟨T1, now, nx, log ++ [⟨now, n, 2, m⟩]⟩ = R) (Ke : Nat → Kt) : vcC Try.prog tt Try.f49.ntmps (RetKO tt Try.f49.results.toList (Iso (sgA jobs R) (sgO R))) (bodyOf Try.f49.body) (PNext jobs n f R) Ke (prS jobs n ⟨ts, now, nx, log⟩ t0).tm (prS jobs n ⟨ts, now, nx, log⟩ t0).ob := by
  have hn := p.hn
  have hrw : ∀ {K : List V → Prop}, K (⟨j, k, t3, t4, t5, t6, t7, t8, t9, t10⟩ : Tk6).v → Rw (ts.map Tk6.v) n K := fun k => Rw.get (by rw [List.getElem?_map, p.rd]; rfl) k
  have hix' : ∀ {K : List V → Prop}, K (bif t4 then [avs o, avs A] else [avs A, avs o]) → Ix (jobs.map Jb.v) (j : Int) K := fun q => p.ix q
  have hkA := p.hk
  have hia : ∀ {K : List V → Prop}, K (⟨1, m⟩ : Ac).v → Ix (A.map Ac.v) (k : Int) K := fun q => Ix.map rfl p.hk (by rw [(List.getElem?_eq_some_iff.1 ha).2]; exact q)
  have hb1 := p.hs.nextb
  have hb2 := p.hs.le
  have hb3 := p.hs.log
  have hA := p.hA
  dsimp only at hb1 hb2 hb3
  have hTr : (ts.map Tk6.v).set n (⟨(j : Int), (k : Int) + 1, t3, t4, t5, t6, t7, t8, t9, t10⟩ : Tk6).v = T1.map Tk6.v := by rw [p.hT]; simp
  have hl := p.len
  have hnext : ∀ b4 : Bool, PInv jobs n R (f, ⟨T1, now, nx, log ++ [⟨now, n, 2, m⟩]⟩, ⟨j, k, t3, b4, t5, t6, t7, t8, t9, t10⟩) := fun b4 => PInv.of p.hs' (by rw [hl]; exact hn) p.act .refl (by omega) (by omega) (by simp) hR
  have al : ∃ b : Bool, (b = true → m ≠ n ∧ m < ts.length) ∧ (b = false → m = n ∨ ts.length ≤ m) := by
    by_cases h : m ≠ n ∧ m < ts.length
    · exact ⟨true, fun _ => h, fun q => by simp at q⟩
    · exact ⟨false, fun q => by simp at q, fun _ => by omega⟩
  obtain ⟨b, al1, al2⟩ := al
  obtain ⟨b4, hb4⟩ : ∃ b4, t4 = b4 := ⟨_, rfl⟩
  cases b
  · have al := al2 rfl
    clear al1 al2
    cases t4
    all_goals
      rcases al with al | al
    all_goals
      (conv => whnf)
      repeat' ((conv => whnf); first | refine Ixo.mk ⟨n, rfl, hn, ?_⟩ | refine hrw ?_ | refine hix' ?_ | refine hia ?_ | refine Gs.id ?_ | with_reducible refine Brn.T rfl ?_ | with_reducible refine Brn.F rfl ?_ | refine Brn.T (by (try simp only [smT]); first | rfl | omega) ?_ | refine Brn.F (by (try simp only [smT]); first | rfl | omega) ?_ | (refine Bnd.mk (fun hm => ?_); (try simp only [smT] at hm)) | refine Rng.mk (by (try simp only [smT]); omega) ?_ | refine Drw.of (T := tt) (i := 21) [] [] [(0, true), (1, true), (2, true), (3, true), (4, true), (5, true), (6, true), (7, true), (8, true), (9, true), (10, true), (11, true), (12, true), (13, true), (14, true), (15, true), (16, true), (17, true), (18, true), (19, true), (20, false), (21, true), (22, true), (23, true), (24, true), (25, true), (26, true)] (by kernel_rfl) ?_ | (refine CL.mk (Or.inr (Raw.callI [901,902] [901,902] rfl rfl rfl rfl rfl rfl rfl (record_R' jobs T1 now nx log n 2 m _ _ hl.symm rfl _ _ hTr rfl (by omega)) ?_)); rintro _ _ ⟨rfl, rfl⟩; refine Bk.mk rfl rfl ?_))
    all_goals (conv => whnf)
    all_goals
      refine ⟨_, hnext b4, by dsimp only; omega, [(2, .k 2), (4, .k 4), (5, .k 5), (901, .k 901), (902, .k 902)], ?_⟩
      subst hb4
      exact ⟨by (try dsimp only); (repeat (refine LeT.cons rfl (by exact LeS.d (by first | exact LeD.u rfl | exact LeD.p rfl)) ?_)); exact LeT.nil, by (try dsimp only); repeat (first | exact LeO.nil | refine LeO.bx rfl rfl (by repeat (first | exact LeL.nil | refine LeL.cons (by first | exact LeD.u rfl | exact LeD.ow rfl rfl) ?_)) ?_ | refine LeO.ar rfl rfl (by rfl) ?_)⟩
  · obtain ⟨al, am⟩ := al1 rfl
    clear al1 al2
    have hrm : (ts.map Tk6.v)[m]? = some (ts[m]).v := by rw [List.getElem?_map, List.getElem?_eq_getElem am]; rfl
    generalize ts[m] = u at hrm
    obtain ⟨u1, u2, u3, u4, u5, u6, u7, u8, u9, u10⟩ := u
    have hr0 := r0_T m ts.length am
    cases t4
    all_goals
      (conv => whnf)
      repeat' ((conv => whnf); first | refine Ixo.mk ⟨n, rfl, hn, ?_⟩ | refine hrw ?_ | refine hix' ?_ | refine hia ?_ | refine Ixo.mk ⟨m, rfl, am, ?_⟩ | refine Rw_ne hrm (Ne.symm al) ?_ | refine Gs.id ?_ | with_reducible refine Brn.T rfl ?_ | with_reducible refine Brn.F rfl ?_ | refine Brn.T (by (try simp only [smT]); first | rfl | omega) ?_ | refine Brn.F (by (try simp only [smT]); first | rfl | omega) ?_ | (refine Bnd.mk (fun hm => ?_); (try simp only [smT] at hm)) | refine Rng.mk (by (try simp only [smT]); omega) ?_ | refine Drw.of (T := tt) (i := 21) [] [] [(0, true), (1, true), (2, true), (3, true), (4, true), (5, true), (6, true), (7, true), (8, true), (9, true), (10, true), (11, true), (12, true), (13, true), (14, true), (15, true), (16, true), (17, true), (18, true), (19, true), (20, false), (21, true), (22, true), (23, true), (24, true), (25, true), (26, true)] (by kernel_rfl) ?_ | (refine CL.mk (Or.inl ?_); (conv => whnf); refine Cl.is (hr0) rfl (by exact fun _ => rfl) ?_) | (refine CL.mk (Or.inr (Raw.callI [901,902] [901,902] rfl rfl rfl rfl rfl rfl rfl (record_R' jobs T1 now nx log n 2 m _ _ hl.symm rfl _ _ hTr rfl (by omega)) ?_)); rintro _ _ ⟨rfl, rfl⟩; refine Bk.mk rfl rfl ?_))
    all_goals (conv => whnf)
    all_goals
      refine ⟨_, hnext b4, by dsimp only; omega, [(2, .k 2), (4, .k 4), (5, .k 5), (901, .k 901), (902, .k 902)], ?_⟩
      subst hb4
      exact ⟨by (try dsimp only); (repeat (refine LeT.cons rfl (by exact LeS.d (by first | exact LeD.u rfl | exact LeD.p rfl)) ?_)); exact LeT.nil, by (try dsimp only); repeat (first | exact LeO.nil | refine LeO.bx rfl rfl (by repeat (first | exact LeL.nil | refine LeL.cons (by first | exact LeD.u rfl | exact LeD.ow rfl rfl) ?_)) ?_ | refine LeO.ar rfl rfl (by rfl) ?_)⟩
end Go.Proofs.Ytgiebofmfkacgaa
namespace Go.Proofs.Ytgiebofmfkacgaa
open Go.RowKit
set_option maxHeartbeats 8000000 in
theorem pk2 (jobs : List Jb) (n f : Nat) (ts : List Tk6) (now nx : Int) (log : List Rc) (t0 : Tk6) (R : Sg) (j k : Nat) (A o : List Ac) (T1 : List Tk6) (t3 t4 t5 t6 : Bool) (t7 t8 t9 t10 : Int) (p : PStep jobs n f ts now nx log ⟨j, k, t3, t4, t5, t6, t7, t8, t9, t10⟩ j k A o T1) (m : Nat) (ha : A[k]? = some ⟨2, m⟩) (hm : m ≤ 1000000000) (hR : modG (readyG ⟨T1, now, nx, log⟩ n) n (fun t => { t with due := now + m }) = R) (Ke : Nat → Kt) : vcC Try.prog tt Try.f49.ntmps (RetKO tt Try.f49.results.toList (Iso (sgA jobs R) (sgO R))) (bodyOf Try.f49.body) (PNext jobs n f R) Ke (prS jobs n ⟨ts, now, nx, log⟩ t0).tm (prS jobs n ⟨ts, now, nx, log⟩ t0).ob := by
  have hn := p.hn
  have hrw : ∀ {K : List V → Prop}, K (⟨j, k, t3, t4, t5, t6, t7, t8, t9, t10⟩ : Tk6).v → Rw (ts.map Tk6.v) n K := fun k => Rw.get (by rw [List.getElem?_map, p.rd]; rfl) k
  have hix' : ∀ {K : List V → Prop}, K (bif t4 then [avs o, avs A] else [avs A, avs o]) → Ix (jobs.map Jb.v) (j : Int) K := fun q => p.ix q
  have hkA := p.hk
  have hia : ∀ {K : List V → Prop}, K (⟨2, m⟩ : Ac).v → Ix (A.map Ac.v) (k : Int) K := fun q => Ix.map rfl p.hk (by rw [(List.getElem?_eq_some_iff.1 ha).2]; exact q)
  have hb1 := p.hs.nextb
  have hb2 := p.hs.le
  have hb3 := p.hs.log
  have hA := p.hA
  dsimp only at hb1 hb2 hb3
  have hTr : (ts.map Tk6.v).set n (⟨(j : Int), (k : Int) + 1, t3, t4, t5, t6, t7, t8, t9, t10⟩ : Tk6).v = T1.map Tk6.v := by rw [p.hT]; simp
  have hl := p.len
  have hnT : n < T1.length := by rw [hl]; exact hn
  obtain ⟨T2, hT2⟩ : ∃ T2, T2 = T1.modify n fun t => { t with due := now, stamp := nx } := ⟨_, rfl⟩
  have hT1n : T1[n]? = some ⟨j, (k : Int) + 1, t3, t4, t5, t6, t7, t8, t9, t10⟩ := by rw [p.hT, List.getElem?_set, if_pos rfl, if_pos hn]
  have hT2n : T2[n]? = some ⟨j, (k : Int) + 1, t3, t4, t5, t6, now, nx, t9, t10⟩ := by rw [hT2, List.getElem?_modify, hT1n]; simp
  have hl2 : T2.length = ts.length := by rw [hT2]; simp [hl]
  have hn2 : n < T2.length := by rw [hl2]; exact hn
  have hrw2 : ∀ {K : List V → Prop}, K (⟨j, (k : Int) + 1, t3, t4, t5, t6, now, nx, t9, t10⟩ : Tk6).v → Rw (T2.map Tk6.v) n K := fun k => Rw.get (by rw [List.getElem?_map, hT2n]; rfl) k
  have hs0 := p.hs.next
  have hnow := p.hs.now
  have hnowb := p.hs.nowb
  dsimp only at hs0 hnow hnowb
  have eR : R = ⟨T2.set n ⟨j, (k : Int) + 1, t3, t4, t5, t6, now + m, nx, t9, t10⟩, now, nx + 1, log⟩ := by
    rw [← hR]
    simp only [modG, readyG]
    rw [← hT2, modify_set _ _ _ hn2, (List.getElem?_eq_some_iff.1 hT2n).2]
  subst eR
  clear hR
  have al : ∃ b : Bool, (b = true → m ≠ n ∧ m < ts.length) ∧ (b = false → m = n ∨ ts.length ≤ m) := by
    by_cases h : m ≠ n ∧ m < ts.length
    · exact ⟨true, fun _ => h, fun q => by simp at q⟩
    · exact ⟨false, fun q => by simp at q, fun _ => by omega⟩
  obtain ⟨b, al1, al2⟩ := al
  obtain ⟨b4, hb4⟩ : ∃ b4, t4 = b4 := ⟨_, rfl⟩
  cases b
  · have al := al2 rfl
    clear al1 al2
    cases t4
    all_goals
      rcases al with al | al
    all_goals
      (conv => whnf)
      repeat' ((conv => whnf); first | refine Ixo.mk ⟨n, rfl, hn, ?_⟩ | refine hrw ?_ | refine hix' ?_ | refine hia ?_ | refine Ixo.mk ⟨n, rfl, hn2, ?_⟩ | refine hrw2 ?_ | refine Gs.id ?_ | with_reducible refine Brn.T rfl ?_ | with_reducible refine Brn.F rfl ?_ | refine Brn.T (by (try simp only [smT]); first | rfl | omega) ?_ | refine Brn.F (by (try simp only [smT]); first | rfl | omega) ?_ | (refine Bnd.mk (fun hm => ?_); (try simp only [smT] at hm)) | refine Rng.mk (by (try simp only [smT]); omega) ?_ | refine Drw.of (T := tt) (i := 21) [] [] [(0, true), (1, true), (2, true), (3, true), (4, true), (5, true), (6, true), (7, true), (8, true), (9, true), (10, true), (11, true), (12, true), (13, true), (14, true), (15, true), (16, true), (17, true), (18, true), (19, true), (20, false), (21, true), (22, true), (23, true), (24, true), (25, true), (26, true)] (by kernel_rfl) ?_ | (refine CL.mk (Or.inr (Raw.callI [901,902] [901,902] rfl rfl rfl rfl rfl rfl rfl (ready_R2 jobs T1 now nx log n hnT (by omega) hs0 _ _ hl.symm rfl _ _ hTr rfl T2 hT2) ?_)); rintro _ _ ⟨rfl, rfl⟩; refine Bk.mk rfl rfl ?_))
    all_goals (conv => whnf)
    all_goals refine RetO.mk ⟨[(901, .k 901), (902, .k 902)], _, _, (by exact LeS.a (by repeat (first | exact LeL.nil | refine LeL.cons (by first | exact LeD.u rfl | exact LeD.ow rfl rfl | exact LeD.ow rfl (by simp)) ?_))), (by repeat (first | exact LeO.nil | refine LeO.ar rfl rfl (by first | rfl | simp) ?_)), rfl, rfl⟩
  · obtain ⟨al, am⟩ := al1 rfl
    clear al1 al2
    have hrm : (ts.map Tk6.v)[m]? = some (ts[m]).v := by rw [List.getElem?_map, List.getElem?_eq_getElem am]; rfl
    generalize ts[m] = u at hrm
    obtain ⟨u1, u2, u3, u4, u5, u6, u7, u8, u9, u10⟩ := u
    have hr0 := r0_T m ts.length am
    cases t4
    all_goals
      (conv => whnf)
      repeat' ((conv => whnf); first | refine Ixo.mk ⟨n, rfl, hn, ?_⟩ | refine hrw ?_ | refine hix' ?_ | refine hia ?_ | refine Ixo.mk ⟨m, rfl, am, ?_⟩ | refine Rw_ne hrm (Ne.symm al) ?_ | refine Ixo.mk ⟨n, rfl, hn2, ?_⟩ | refine hrw2 ?_ | refine Gs.id ?_ | with_reducible refine Brn.T rfl ?_ | with_reducible refine Brn.F rfl ?_ | refine Brn.T (by (try simp only [smT]); first | rfl | omega) ?_ | refine Brn.F (by (try simp only [smT]); first | rfl | omega) ?_ | (refine Bnd.mk (fun hm => ?_); (try simp only [smT] at hm)) | refine Rng.mk (by (try simp only [smT]); omega) ?_ | refine Drw.of (T := tt) (i := 21) [] [] [(0, true), (1, true), (2, true), (3, true), (4, true), (5, true), (6, true), (7, true), (8, true), (9, true), (10, true), (11, true), (12, true), (13, true), (14, true), (15, true), (16, true), (17, true), (18, true), (19, true), (20, false), (21, true), (22, true), (23, true), (24, true), (25, true), (26, true)] (by kernel_rfl) ?_ | (refine CL.mk (Or.inl ?_); (conv => whnf); refine Cl.is (hr0) rfl (by exact fun _ => rfl) ?_) | (refine CL.mk (Or.inr (Raw.callI [901,902] [901,902] rfl rfl rfl rfl rfl rfl rfl (ready_R2 jobs T1 now nx log n hnT (by omega) hs0 _ _ hl.symm rfl _ _ hTr rfl T2 hT2) ?_)); rintro _ _ ⟨rfl, rfl⟩; refine Bk.mk rfl rfl ?_))
    all_goals (conv => whnf)
    all_goals refine RetO.mk ⟨[(901, .k 901), (902, .k 902)], _, _, (by exact LeS.a (by repeat (first | exact LeL.nil | refine LeL.cons (by first | exact LeD.u rfl | exact LeD.ow rfl rfl | exact LeD.ow rfl (by simp)) ?_))), (by repeat (first | exact LeO.nil | refine LeO.ar rfl rfl (by first | rfl | simp) ?_)), rfl, rfl⟩
end Go.Proofs.Ytgiebofmfkacgaa
namespace Go.Proofs.Ytgiebofmfkacgaa
open Go.RowKit
theorem ready_R3 (jobs : List Jb) (ts : List Tk6) (now nx : Int) (log : List Rc) (n : Nat) (hn : n < ts.length) (hb : nx ≤ 1000000000) (h0 : 0 ≤ nx) (N M : Nat) (x : Int) (hx : x = (n : Int)) (hN : N = ts.length) (hM : M = log.length) (r1 r2 : List (List V)) (e1 : r1 = ts.map Tk6.v) (e2 : r2 = log.map Rc.v) (T : List Tk6) (hT : T = ts.modify n fun t => { t with due := now, stamp := nx }) : CallsA Try.prog 48 [.a [.u (jvs jobs), .ow 172 N, .u (.int .i64 now), .u (.int .i64 nx), .ow 902 M], .d (.u (.int .i64 x))] [(172, .ar 85 10 r1), (902, .ar 55 4 r2)] (Iso (.a [.u (jvs jobs), .ow 903 T.length, .u (.int .i64 now), .u (.int .i64 (nx + 1)), .ow 904 log.length]) [(903, .ar 85 10 (T.map Tk6.v)), (904, .ar 55 4 (log.map Rc.v))]) := by
  have h : CallsA Try.prog 48 [.a [.u (jvs jobs), .ow 901 N, .u (.int .i64 now), .u (.int .i64 nx), .ow 902 M], di n] [(901, .ar 85 10 r1), (902, .ar 55 4 r2)] (Iso (.a [.u (jvs jobs), .ow 901 T.length, .u (.int .i64 now), .u (.int .i64 (nx + 1)), .ow 902 log.length]) [(901, .ar 85 10 (T.map Tk6.v)), (902, .ar 55 4 (log.map Rc.v))]) := ready_R2 jobs ts now nx log n hn hb h0 N M hN hM r1 r2 e1 e2 T hT
  subst hx
  have e : LeSt [(901, .k 172), (902, .k 902)] ⟨slT 0 [.a [.u (jvs jobs), .ow 172 N, .u (.int .i64 now), .u (.int .i64 nx), .ow 902 M], di n], [(172, .ar 85 10 r1), (902, .ar 55 4 r2)]⟩ ⟨slT 0 [.a [.u (jvs jobs), .ow 901 N, .u (.int .i64 now), .u (.int .i64 nx), .ow 902 M], di n], [(901, .ar 85 10 r1), (902, .ar 55 4 r2)]⟩ := ⟨by simp only [slT]; exact LeT.cons rfl (by exact LeS.a (by repeat (first | exact LeL.nil | refine LeL.cons (by first | exact LeD.u rfl | exact LeD.ow rfl rfl) ?_))) (LeT.cons rfl (LeS.d (LeD.u rfl)) LeT.nil), (by repeat (first | exact LeO.nil | refine LeO.ar rfl rfl (by rfl) ?_))⟩
  have h2 : CallsA Try.prog 48 [.a [.u (jvs jobs), .ow 172 N, .u (.int .i64 now), .u (.int .i64 nx), .ow 902 M], di n] [(172, .ar 85 10 r1), (902, .ar 55 4 r2)] (Iso (.a [.u (jvs jobs), .ow 901 T.length, .u (.int .i64 now), .u (.int .i64 (nx + 1)), .ow 902 log.length]) [(901, .ar 85 10 (T.map Tk6.v)), (902, .ar 55 4 (log.map Rc.v))]) := h.renI [(901, .k 172), (902, .k 902)] rfl e.1 e.2
  refine h2.renO [(903, .k 901), (904, .k 902)] ?_ (by repeat (first | exact LeO.nil | refine LeO.ar rfl rfl (by rfl) ?_))
  exact LeS.a (LeL.cons (LeD.u rfl) (LeL.cons (LeD.ow rfl rfl) (LeL.cons (LeD.u rfl) (LeL.cons (LeD.u rfl) (LeL.cons (LeD.ow rfl rfl) LeL.nil)))))
end Go.Proofs.Ytgiebofmfkacgaa
namespace Go.Proofs.Ytgiebofmfkacgaa
open Go.RowKit
set_option maxHeartbeats 8000000 in
theorem pk3a (jobs : List Jb) (n f : Nat) (ts : List Tk6) (now nx : Int) (log : List Rc) (t0 : Tk6) (R : Sg) (j k : Nat) (A o : List Ac) (T1 : List Tk6) (t3 t4 t5 t6 : Bool) (t7 t8 t9 t10 : Int) (p : PStep jobs n f ts now nx log ⟨j, k, t3, t4, t5, t6, t7, t8, t9, t10⟩ j k A o T1) (m : Nat) (ha : A[k]? = some ⟨3, m⟩) (hm : m < jobs.length) (h60 : T1.length < 60) (al : m = n) (hR1 : T1.length < 60 → goG jobs n f (readyG ⟨T1 ++ [⟨m, 0, false, false, false, false, 0, 0, -1, 0⟩], now, nx, log⟩ T1.length) = R) (hR2 : ¬ T1.length < 60 → goG jobs n f ⟨T1, now, nx, log⟩ = R) (Ke : Nat → Kt) : vcC Try.prog tt Try.f49.ntmps (RetKO tt Try.f49.results.toList (Iso (sgA jobs R) (sgO R))) (bodyOf Try.f49.body) (PNext jobs n f R) Ke (prS jobs n ⟨ts, now, nx, log⟩ t0).tm (prS jobs n ⟨ts, now, nx, log⟩ t0).ob := by
  have hn := p.hn
  have hrw : ∀ {K : List V → Prop}, K (⟨j, k, t3, t4, t5, t6, t7, t8, t9, t10⟩ : Tk6).v → Rw (ts.map Tk6.v) n K := fun k => Rw.get (by rw [List.getElem?_map, p.rd]; rfl) k
  have hix' : ∀ {K : List V → Prop}, K (bif t4 then [avs o, avs A] else [avs A, avs o]) → Ix (jobs.map Jb.v) (j : Int) K := fun q => p.ix q
  have hkA := p.hk
  have hia : ∀ {K : List V → Prop}, K (⟨3, m⟩ : Ac).v → Ix (A.map Ac.v) (k : Int) K := fun q => Ix.map rfl p.hk (by rw [(List.getElem?_eq_some_iff.1 ha).2]; exact q)
  have hb1 := p.hs.nextb
  have hb2 := p.hs.le
  have hb3 := p.hs.log
  have hA := p.hA
  dsimp only at hb1 hb2 hb3
  have hTr : (ts.map Tk6.v).set n (⟨(j : Int), (k : Int) + 1, t3, t4, t5, t6, t7, t8, t9, t10⟩ : Tk6).v = T1.map Tk6.v := by rw [p.hT]; simp
  have hl := p.len
  have hs0 := p.hs.next
  have hnow := p.hs.now
  have hnowb := p.hs.nowb
  dsimp only at hs0 hnow hnowb
  have hnext : ∃ T2 nx', (T1.length < 60 → nx' = nx + 1 ∧ T2 = (T1 ++ [(⟨m, 0, false, false, false, false, 0, 0, -1, 0⟩ : Tk6)]).modify T1.length fun t => { t with due := now, stamp := nx }) ∧ (¬ T1.length < 60 → nx' = nx ∧ T2 = T1) ∧ ∀ b4 : Bool, PInv jobs n R (f, ⟨T2, now, nx', log⟩, ⟨j, k, t3, b4, t5, t6, t7, t8, t9, t10⟩) := by
    by_cases h60 : T1.length < 60
    · refine ⟨_, _, fun _ => ⟨rfl, rfl⟩, fun q => absurd h60 q, fun b4 => ?_⟩
      have hs' := p.hs'
      have hact := p.act
      have hget : ∀ (i : Nat) t, ((T1 ++ [(⟨m, 0, false, false, false, false, 0, 0, -1, 0⟩ : Tk6)]).modify T1.length fun t => { t with due := now, stamp := nx })[i]? = some t → T1[i]? = some t ∨ t.job = m ∧ t.at_ = 0 ∧ i = T1.length := fun i t q => by
        rw [List.getElem?_modify] at q
        by_cases hi : i < T1.length
        · rw [List.getElem?_append_left hi] at q
          cases hg : T1[i]? with
          | none => rw [hg] at q; simp at q
          | some w =>
            rw [hg] at q
            simp only [if_neg (show ¬ T1.length = i by omega), Option.map_eq_map, Option.map_some, id] at q
            exact .inl q
        · by_cases h2 : i = T1.length
          · subst h2
            rw [List.getElem?_append_right (Nat.le_refl _)] at q
            simp at q
            subst q
            exact .inr ⟨rfl, rfl, rfl⟩
          · rw [List.getElem?_eq_none (by simp; omega)] at q
            simp at q
      refine ⟨⟨?_, ?_, ?_, ?_, ?_, hnow, hnowb⟩, ?_, ?_, hR1 h60⟩
      · simp; omega
      · intro i t q
        rcases hget i t q with h | ⟨h1, h2, _⟩
        · exact hs'.job i t h
        · exact ⟨⟨m, h1, hm⟩, by omega⟩
      · dsimp only; omega
      · dsimp only; omega
      · dsimp only; omega
      · simp; omega
      · intro t q
        rcases hget n t q with h | ⟨h1, h2, h3⟩
        · exact hact t h
        · omega
    · exact ⟨_, _, fun q => absurd q h60, fun _ => ⟨rfl, rfl⟩, fun b4 => PInv.of p.hs' (by rw [hl]; exact hn) p.act .refl (by omega) (by omega) (by omega) (hR2 h60)⟩
  obtain ⟨T2, nx', hTa, hTb, hnext⟩ := hnext
  obtain ⟨b4, hb4⟩ : ∃ b4, t4 = b4 := ⟨_, rfl⟩
  obtain ⟨rfl, hT2⟩ := hTa h60
  clear hTa hTb hR1 hR2
  have h60' : ts.length < 60 := by omega
  cases t4
  all_goals
    (conv => whnf)
    repeat' ((conv => whnf); first | refine Ixo.mk ⟨n, rfl, hn, ?_⟩ | refine hrw ?_ | refine hix' ?_ | refine hia ?_ | refine Drw.ghost (i := 29) (Ghost.frzB 7 rfl rfl) ?_ | refine Gs.id ?_ | with_reducible refine And.intro ?_ ?_ | with_reducible refine Brn.T rfl ?_ | with_reducible refine Brn.F rfl ?_ | refine Brn.T (by (try simp only [smT]); first | rfl | omega) ?_ | refine Brn.F (by (try simp only [smT]); first | rfl | omega) ?_ | (refine Bnd.mk (fun hm => ?_); (try simp only [smT] at hm)) | refine Rng.mk (by (try simp only [smT]); omega) ?_ | refine Apd.mk (by rfl) (by first | rfl | simp) (by (try simp only [smT]); first | (simp; omega)) (by unfold maxLen; first | (simp; omega)) ?_ | refine Drw.ofP (T := tt) (i := 29) [0, 2, 3, 7, 8, 9, 10] [1, 4, 5, 6] [1, 4, 5, 6] (OT.alt 0 (OT.alt 2 (OT.alt 3 (OT.alt 7 (OT.alt 8 (OT.alt 9 (OT.alt 10 OT.nil OT.nil) OT.nil) OT.nil) OT.nil) (OT.alt 7 (OT.alt 3 (OT.alt 8 (OT.alt 9 (OT.alt 10 OT.nil OT.nil) OT.nil) OT.nil) OT.nil) OT.nil)) (OT.alt 7 (OT.alt 2 (OT.alt 3 (OT.alt 8 (OT.alt 9 (OT.alt 10 OT.nil OT.nil) OT.nil) OT.nil) OT.nil) OT.nil) OT.nil)) (OT.alt 2 (OT.alt 0 (OT.alt 3 (OT.alt 7 (OT.alt 8 (OT.alt 9 (OT.alt 10 OT.nil OT.nil) OT.nil) OT.nil) OT.nil) (OT.alt 7 (OT.alt 3 (OT.alt 8 (OT.alt 9 (OT.alt 10 OT.nil OT.nil) OT.nil) OT.nil) OT.nil) OT.nil)) (OT.alt 7 (OT.alt 0 (OT.alt 3 (OT.alt 8 (OT.alt 9 (OT.alt 10 OT.nil OT.nil) OT.nil) OT.nil) OT.nil) OT.nil) OT.nil)) (OT.alt 7 (OT.alt 0 (OT.alt 2 (OT.alt 3 (OT.alt 8 (OT.alt 9 (OT.alt 10 OT.nil OT.nil) OT.nil) OT.nil) OT.nil) OT.nil) (OT.alt 2 (OT.alt 0 (OT.alt 3 (OT.alt 8 (OT.alt 9 (OT.alt 10 OT.nil OT.nil) OT.nil) OT.nil) OT.nil) OT.nil) OT.nil)) OT.nil))) (by kernel_rfl) ?_ | refine Drw.of (T := tt) (i := 21) [] [] [(0, true), (1, true), (2, true), (3, true), (4, true), (5, true), (6, true), (7, true), (8, true), (9, true), (10, true), (11, true), (12, true), (13, true), (14, true), (15, true), (16, true), (17, true), (18, true), (19, true), (20, false), (21, true), (22, true), (23, true), (24, true), (25, true), (26, true)] (by kernel_rfl) ?_)
  all_goals (conv => whnf)
  all_goals
    refine CL.mk (Or.inr ?_)
    refine Raw.callI [172,902] [172,902,903,904] rfl rfl rfl rfl rfl rfl rfl (ready_R3 jobs (T1 ++ [⟨m, 0, false, false, false, false, 0, 0, -1, 0⟩]) now nx log T1.length (by simp) (by omega) hs0 _ _ _ (by simp [hl]) (by simp [hl]) rfl _ _ (by first | rfl | (simp [p.hT]; done)) rfl T2 hT2) ?_
    rintro _ _ ⟨rfl, rfl⟩
    refine Bk.mk rfl rfl ?_
    (conv => whnf)
    refine ⟨_, hnext b4, by dsimp only; omega, [(2, .k 2), (4, .k 4), (5, .k 5), (901, .k 903), (902, .k 904)], ?_⟩
    subst hb4
    exact ⟨LeT.cons rfl (LeS.d (LeD.u rfl)) (LeT.cons rfl (LeS.d (LeD.p rfl)) (LeT.cons rfl (LeS.d (LeD.p rfl)) (LeT.cons rfl (LeS.d (LeD.p rfl)) LeT.nil))), LeO.bx rfl rfl (LeL.cons (LeD.u rfl) (LeL.cons (LeD.ow rfl rfl) (LeL.cons (LeD.u rfl) (LeL.cons (LeD.u rfl) (LeL.cons (LeD.ow rfl rfl) LeL.nil))))) (LeO.bx rfl rfl (LeL.cons (LeD.u rfl) (LeL.cons (LeD.u rfl) (LeL.cons (LeD.u rfl) (LeL.cons (LeD.u rfl) (LeL.cons (LeD.u rfl) LeL.nil))))) (LeO.bx rfl rfl (LeL.cons (LeD.u rfl) (LeL.cons (LeD.u rfl) (LeL.cons (LeD.u rfl) (LeL.cons (LeD.u rfl) (LeL.cons (LeD.u rfl) (LeL.cons (LeD.u rfl) (LeL.cons (LeD.u rfl) (LeL.cons (LeD.u rfl) (LeL.cons (LeD.u rfl) (LeL.cons (LeD.u rfl) LeL.nil)))))))))) (LeO.ar rfl rfl rfl (LeO.ar rfl rfl rfl .nil))))⟩
end Go.Proofs.Ytgiebofmfkacgaa
namespace Go.Proofs.Ytgiebofmfkacgaa
open Go.RowKit
set_option maxHeartbeats 8000000 in
theorem pk3b (jobs : List Jb) (n f : Nat) (ts : List Tk6) (now nx : Int) (log : List Rc) (t0 : Tk6) (R : Sg) (j k : Nat) (A o : List Ac) (T1 : List Tk6) (t3 t4 t5 t6 : Bool) (t7 t8 t9 t10 : Int) (p : PStep jobs n f ts now nx log ⟨j, k, t3, t4, t5, t6, t7, t8, t9, t10⟩ j k A o T1) (m : Nat) (ha : A[k]? = some ⟨3, m⟩) (hm : m < jobs.length) (h60 : T1.length < 60) (al : ts.length ≤ m) (hR1 : T1.length < 60 → goG jobs n f (readyG ⟨T1 ++ [⟨m, 0, false, false, false, false, 0, 0, -1, 0⟩], now, nx, log⟩ T1.length) = R) (hR2 : ¬ T1.length < 60 → goG jobs n f ⟨T1, now, nx, log⟩ = R) (Ke : Nat → Kt) : vcC Try.prog tt Try.f49.ntmps (RetKO tt Try.f49.results.toList (Iso (sgA jobs R) (sgO R))) (bodyOf Try.f49.body) (PNext jobs n f R) Ke (prS jobs n ⟨ts, now, nx, log⟩ t0).tm (prS jobs n ⟨ts, now, nx, log⟩ t0).ob := by
  have hn := p.hn
  have hrw : ∀ {K : List V → Prop}, K (⟨j, k, t3, t4, t5, t6, t7, t8, t9, t10⟩ : Tk6).v → Rw (ts.map Tk6.v) n K := fun k => Rw.get (by rw [List.getElem?_map, p.rd]; rfl) k
  have hix' : ∀ {K : List V → Prop}, K (bif t4 then [avs o, avs A] else [avs A, avs o]) → Ix (jobs.map Jb.v) (j : Int) K := fun q => p.ix q
  have hkA := p.hk
  have hia : ∀ {K : List V → Prop}, K (⟨3, m⟩ : Ac).v → Ix (A.map Ac.v) (k : Int) K := fun q => Ix.map rfl p.hk (by rw [(List.getElem?_eq_some_iff.1 ha).2]; exact q)
  have hb1 := p.hs.nextb
  have hb2 := p.hs.le
  have hb3 := p.hs.log
  have hA := p.hA
  dsimp only at hb1 hb2 hb3
  have hTr : (ts.map Tk6.v).set n (⟨(j : Int), (k : Int) + 1, t3, t4, t5, t6, t7, t8, t9, t10⟩ : Tk6).v = T1.map Tk6.v := by rw [p.hT]; simp
  have hl := p.len
  have hs0 := p.hs.next
  have hnow := p.hs.now
  have hnowb := p.hs.nowb
  dsimp only at hs0 hnow hnowb
  have hnext : ∃ T2 nx', (T1.length < 60 → nx' = nx + 1 ∧ T2 = (T1 ++ [(⟨m, 0, false, false, false, false, 0, 0, -1, 0⟩ : Tk6)]).modify T1.length fun t => { t with due := now, stamp := nx }) ∧ (¬ T1.length < 60 → nx' = nx ∧ T2 = T1) ∧ ∀ b4 : Bool, PInv jobs n R (f, ⟨T2, now, nx', log⟩, ⟨j, k, t3, b4, t5, t6, t7, t8, t9, t10⟩) := by
    by_cases h60 : T1.length < 60
    · refine ⟨_, _, fun _ => ⟨rfl, rfl⟩, fun q => absurd h60 q, fun b4 => ?_⟩
      have hs' := p.hs'
      have hact := p.act
      have hget : ∀ (i : Nat) t, ((T1 ++ [(⟨m, 0, false, false, false, false, 0, 0, -1, 0⟩ : Tk6)]).modify T1.length fun t => { t with due := now, stamp := nx })[i]? = some t → T1[i]? = some t ∨ t.job = m ∧ t.at_ = 0 ∧ i = T1.length := fun i t q => by
        rw [List.getElem?_modify] at q
        by_cases hi : i < T1.length
        · rw [List.getElem?_append_left hi] at q
          cases hg : T1[i]? with
          | none => rw [hg] at q; simp at q
          | some w =>
            rw [hg] at q
            simp only [if_neg (show ¬ T1.length = i by omega), Option.map_eq_map, Option.map_some, id] at q
            exact .inl q
        · by_cases h2 : i = T1.length
          · subst h2
            rw [List.getElem?_append_right (Nat.le_refl _)] at q
            simp at q
            subst q
            exact .inr ⟨rfl, rfl, rfl⟩
          · rw [List.getElem?_eq_none (by simp; omega)] at q
            simp at q
      refine ⟨⟨?_, ?_, ?_, ?_, ?_, hnow, hnowb⟩, ?_, ?_, hR1 h60⟩
      · simp; omega
      · intro i t q
        rcases hget i t q with h | ⟨h1, h2, _⟩
        · exact hs'.job i t h
        · exact ⟨⟨m, h1, hm⟩, by omega⟩
      · dsimp only; omega
      · dsimp only; omega
      · dsimp only; omega
      · simp; omega
      · intro t q
        rcases hget n t q with h | ⟨h1, h2, h3⟩
        · exact hact t h
        · omega
    · exact ⟨_, _, fun q => absurd q h60, fun _ => ⟨rfl, rfl⟩, fun b4 => PInv.of p.hs' (by rw [hl]; exact hn) p.act .refl (by omega) (by omega) (by omega) (hR2 h60)⟩
  obtain ⟨T2, nx', hTa, hTb, hnext⟩ := hnext
  obtain ⟨b4, hb4⟩ : ∃ b4, t4 = b4 := ⟨_, rfl⟩
  obtain ⟨rfl, hT2⟩ := hTa h60
  clear hTa hTb hR1 hR2
  have h60' : ts.length < 60 := by omega
  cases t4
  all_goals
    (conv => whnf)
    repeat' ((conv => whnf); first | refine Ixo.mk ⟨n, rfl, hn, ?_⟩ | refine hrw ?_ | refine hix' ?_ | refine hia ?_ | refine Drw.ghost (i := 29) (Ghost.frzB 7 rfl rfl) ?_ | refine Gs.id ?_ | with_reducible refine And.intro ?_ ?_ | with_reducible refine Brn.T rfl ?_ | with_reducible refine Brn.F rfl ?_ | refine Brn.T (by (try simp only [smT]); first | rfl | omega) ?_ | refine Brn.F (by (try simp only [smT]); first | rfl | omega) ?_ | (refine Bnd.mk (fun hm => ?_); (try simp only [smT] at hm)) | refine Rng.mk (by (try simp only [smT]); omega) ?_ | refine Apd.mk (by rfl) (by first | rfl | simp) (by (try simp only [smT]); first | (simp; omega)) (by unfold maxLen; first | (simp; omega)) ?_ | refine Drw.ofP (T := tt) (i := 29) [0, 2, 3, 7, 8, 9, 10] [1, 4, 5, 6] [1, 4, 5, 6] (OT.alt 0 (OT.alt 2 (OT.alt 3 (OT.alt 7 (OT.alt 8 (OT.alt 9 (OT.alt 10 OT.nil OT.nil) OT.nil) OT.nil) OT.nil) (OT.alt 7 (OT.alt 3 (OT.alt 8 (OT.alt 9 (OT.alt 10 OT.nil OT.nil) OT.nil) OT.nil) OT.nil) OT.nil)) (OT.alt 7 (OT.alt 2 (OT.alt 3 (OT.alt 8 (OT.alt 9 (OT.alt 10 OT.nil OT.nil) OT.nil) OT.nil) OT.nil) OT.nil) OT.nil)) (OT.alt 2 (OT.alt 0 (OT.alt 3 (OT.alt 7 (OT.alt 8 (OT.alt 9 (OT.alt 10 OT.nil OT.nil) OT.nil) OT.nil) OT.nil) (OT.alt 7 (OT.alt 3 (OT.alt 8 (OT.alt 9 (OT.alt 10 OT.nil OT.nil) OT.nil) OT.nil) OT.nil) OT.nil)) (OT.alt 7 (OT.alt 0 (OT.alt 3 (OT.alt 8 (OT.alt 9 (OT.alt 10 OT.nil OT.nil) OT.nil) OT.nil) OT.nil) OT.nil) OT.nil)) (OT.alt 7 (OT.alt 0 (OT.alt 2 (OT.alt 3 (OT.alt 8 (OT.alt 9 (OT.alt 10 OT.nil OT.nil) OT.nil) OT.nil) OT.nil) OT.nil) (OT.alt 2 (OT.alt 0 (OT.alt 3 (OT.alt 8 (OT.alt 9 (OT.alt 10 OT.nil OT.nil) OT.nil) OT.nil) OT.nil) OT.nil) OT.nil)) OT.nil))) (by kernel_rfl) ?_ | refine Drw.of (T := tt) (i := 21) [] [] [(0, true), (1, true), (2, true), (3, true), (4, true), (5, true), (6, true), (7, true), (8, true), (9, true), (10, true), (11, true), (12, true), (13, true), (14, true), (15, true), (16, true), (17, true), (18, true), (19, true), (20, false), (21, true), (22, true), (23, true), (24, true), (25, true), (26, true)] (by kernel_rfl) ?_)
  all_goals (conv => whnf)
  all_goals
    refine CL.mk (Or.inr ?_)
    refine Raw.callI [172,902] [172,902,903,904] rfl rfl rfl rfl rfl rfl rfl (ready_R3 jobs (T1 ++ [⟨m, 0, false, false, false, false, 0, 0, -1, 0⟩]) now nx log T1.length (by simp) (by omega) hs0 _ _ _ (by simp [hl]) (by simp [hl]) rfl _ _ (by first | rfl | (simp [p.hT]; done)) rfl T2 hT2) ?_
    rintro _ _ ⟨rfl, rfl⟩
    refine Bk.mk rfl rfl ?_
    (conv => whnf)
    refine ⟨_, hnext b4, by dsimp only; omega, [(2, .k 2), (4, .k 4), (5, .k 5), (901, .k 903), (902, .k 904)], ?_⟩
    subst hb4
    exact ⟨LeT.cons rfl (LeS.d (LeD.u rfl)) (LeT.cons rfl (LeS.d (LeD.p rfl)) (LeT.cons rfl (LeS.d (LeD.p rfl)) (LeT.cons rfl (LeS.d (LeD.p rfl)) LeT.nil))), LeO.bx rfl rfl (LeL.cons (LeD.u rfl) (LeL.cons (LeD.ow rfl rfl) (LeL.cons (LeD.u rfl) (LeL.cons (LeD.u rfl) (LeL.cons (LeD.ow rfl rfl) LeL.nil))))) (LeO.bx rfl rfl (LeL.cons (LeD.u rfl) (LeL.cons (LeD.u rfl) (LeL.cons (LeD.u rfl) (LeL.cons (LeD.u rfl) (LeL.cons (LeD.u rfl) LeL.nil))))) (LeO.bx rfl rfl (LeL.cons (LeD.u rfl) (LeL.cons (LeD.u rfl) (LeL.cons (LeD.u rfl) (LeL.cons (LeD.u rfl) (LeL.cons (LeD.u rfl) (LeL.cons (LeD.u rfl) (LeL.cons (LeD.u rfl) (LeL.cons (LeD.u rfl) (LeL.cons (LeD.u rfl) (LeL.cons (LeD.u rfl) LeL.nil)))))))))) (LeO.ar rfl rfl rfl (LeO.ar rfl rfl rfl .nil))))⟩
end Go.Proofs.Ytgiebofmfkacgaa
namespace Go.Proofs.Ytgiebofmfkacgaa
open Go.RowKit
set_option maxHeartbeats 8000000 in
theorem pk3c (jobs : List Jb) (n f : Nat) (ts : List Tk6) (now nx : Int) (log : List Rc) (t0 : Tk6) (R : Sg) (j k : Nat) (A o : List Ac) (T1 : List Tk6) (t3 t4 t5 t6 : Bool) (t7 t8 t9 t10 : Int) (p : PStep jobs n f ts now nx log ⟨j, k, t3, t4, t5, t6, t7, t8, t9, t10⟩ j k A o T1) (m : Nat) (ha : A[k]? = some ⟨3, m⟩) (hm : m < jobs.length) (h60 : T1.length < 60) (al : m ≠ n) (am : m < ts.length) (hR1 : T1.length < 60 → goG jobs n f (readyG ⟨T1 ++ [⟨m, 0, false, false, false, false, 0, 0, -1, 0⟩], now, nx, log⟩ T1.length) = R) (hR2 : ¬ T1.length < 60 → goG jobs n f ⟨T1, now, nx, log⟩ = R) (Ke : Nat → Kt) : vcC Try.prog tt Try.f49.ntmps (RetKO tt Try.f49.results.toList (Iso (sgA jobs R) (sgO R))) (bodyOf Try.f49.body) (PNext jobs n f R) Ke (prS jobs n ⟨ts, now, nx, log⟩ t0).tm (prS jobs n ⟨ts, now, nx, log⟩ t0).ob := by
  have hn := p.hn
  have hrw : ∀ {K : List V → Prop}, K (⟨j, k, t3, t4, t5, t6, t7, t8, t9, t10⟩ : Tk6).v → Rw (ts.map Tk6.v) n K := fun k => Rw.get (by rw [List.getElem?_map, p.rd]; rfl) k
  have hix' : ∀ {K : List V → Prop}, K (bif t4 then [avs o, avs A] else [avs A, avs o]) → Ix (jobs.map Jb.v) (j : Int) K := fun q => p.ix q
  have hkA := p.hk
  have hia : ∀ {K : List V → Prop}, K (⟨3, m⟩ : Ac).v → Ix (A.map Ac.v) (k : Int) K := fun q => Ix.map rfl p.hk (by rw [(List.getElem?_eq_some_iff.1 ha).2]; exact q)
  have hb1 := p.hs.nextb
  have hb2 := p.hs.le
  have hb3 := p.hs.log
  have hA := p.hA
  dsimp only at hb1 hb2 hb3
  have hTr : (ts.map Tk6.v).set n (⟨(j : Int), (k : Int) + 1, t3, t4, t5, t6, t7, t8, t9, t10⟩ : Tk6).v = T1.map Tk6.v := by rw [p.hT]; simp
  have hl := p.len
  have hs0 := p.hs.next
  have hnow := p.hs.now
  have hnowb := p.hs.nowb
  dsimp only at hs0 hnow hnowb
  have hnext : ∃ T2 nx', (T1.length < 60 → nx' = nx + 1 ∧ T2 = (T1 ++ [(⟨m, 0, false, false, false, false, 0, 0, -1, 0⟩ : Tk6)]).modify T1.length fun t => { t with due := now, stamp := nx }) ∧ (¬ T1.length < 60 → nx' = nx ∧ T2 = T1) ∧ ∀ b4 : Bool, PInv jobs n R (f, ⟨T2, now, nx', log⟩, ⟨j, k, t3, b4, t5, t6, t7, t8, t9, t10⟩) := by
    by_cases h60 : T1.length < 60
    · refine ⟨_, _, fun _ => ⟨rfl, rfl⟩, fun q => absurd h60 q, fun b4 => ?_⟩
      have hs' := p.hs'
      have hact := p.act
      have hget : ∀ (i : Nat) t, ((T1 ++ [(⟨m, 0, false, false, false, false, 0, 0, -1, 0⟩ : Tk6)]).modify T1.length fun t => { t with due := now, stamp := nx })[i]? = some t → T1[i]? = some t ∨ t.job = m ∧ t.at_ = 0 ∧ i = T1.length := fun i t q => by
        rw [List.getElem?_modify] at q
        by_cases hi : i < T1.length
        · rw [List.getElem?_append_left hi] at q
          cases hg : T1[i]? with
          | none => rw [hg] at q; simp at q
          | some w =>
            rw [hg] at q
            simp only [if_neg (show ¬ T1.length = i by omega), Option.map_eq_map, Option.map_some, id] at q
            exact .inl q
        · by_cases h2 : i = T1.length
          · subst h2
            rw [List.getElem?_append_right (Nat.le_refl _)] at q
            simp at q
            subst q
            exact .inr ⟨rfl, rfl, rfl⟩
          · rw [List.getElem?_eq_none (by simp; omega)] at q
            simp at q
      refine ⟨⟨?_, ?_, ?_, ?_, ?_, hnow, hnowb⟩, ?_, ?_, hR1 h60⟩
      · simp; omega
      · intro i t q
        rcases hget i t q with h | ⟨h1, h2, _⟩
        · exact hs'.job i t h
        · exact ⟨⟨m, h1, hm⟩, by omega⟩
      · dsimp only; omega
      · dsimp only; omega
      · dsimp only; omega
      · simp; omega
      · intro t q
        rcases hget n t q with h | ⟨h1, h2, h3⟩
        · exact hact t h
        · omega
    · exact ⟨_, _, fun q => absurd q h60, fun _ => ⟨rfl, rfl⟩, fun b4 => PInv.of p.hs' (by rw [hl]; exact hn) p.act .refl (by omega) (by omega) (by omega) (hR2 h60)⟩
  obtain ⟨T2, nx', hTa, hTb, hnext⟩ := hnext
  obtain ⟨b4, hb4⟩ : ∃ b4, t4 = b4 := ⟨_, rfl⟩
  obtain ⟨rfl, hT2⟩ := hTa h60
  clear hTa hTb hR1 hR2
  have h60' : ts.length < 60 := by omega
  have hrm : (ts.map Tk6.v)[m]? = some (ts[m]).v := by rw [List.getElem?_map, List.getElem?_eq_getElem am]; rfl
  generalize ts[m] = u at hrm
  obtain ⟨u1, u2, u3, u4, u5, u6, u7, u8, u9, u10⟩ := u
  have hr0 := r0_T m ts.length am
  cases t4
  all_goals
    (conv => whnf)
    repeat' ((conv => whnf); first | refine Ixo.mk ⟨n, rfl, hn, ?_⟩ | refine hrw ?_ | refine hix' ?_ | refine hia ?_ | refine Ixo.mk ⟨m, rfl, am, ?_⟩ | refine Rw_ne hrm (Ne.symm al) ?_ | refine Drw.ghost (i := 29) (Ghost.frzB 7 rfl rfl) ?_ | refine Gs.id ?_ | with_reducible refine And.intro ?_ ?_ | with_reducible refine Brn.T rfl ?_ | with_reducible refine Brn.F rfl ?_ | refine Brn.T (by (try simp only [smT]); first | rfl | omega) ?_ | refine Brn.F (by (try simp only [smT]); first | rfl | omega) ?_ | (refine Bnd.mk (fun hm => ?_); (try simp only [smT] at hm)) | refine Rng.mk (by (try simp only [smT]); omega) ?_ | refine Apd.mk (by rfl) (by first | rfl | simp) (by (try simp only [smT]); first | (simp; omega)) (by unfold maxLen; first | (simp; omega)) ?_ | refine Drw.ofP (T := tt) (i := 29) [0, 2, 3, 7, 8, 9, 10] [1, 4, 5, 6] [1, 4, 5, 6] (OT.alt 0 (OT.alt 2 (OT.alt 3 (OT.alt 7 (OT.alt 8 (OT.alt 9 (OT.alt 10 OT.nil OT.nil) OT.nil) OT.nil) OT.nil) (OT.alt 7 (OT.alt 3 (OT.alt 8 (OT.alt 9 (OT.alt 10 OT.nil OT.nil) OT.nil) OT.nil) OT.nil) OT.nil)) (OT.alt 7 (OT.alt 2 (OT.alt 3 (OT.alt 8 (OT.alt 9 (OT.alt 10 OT.nil OT.nil) OT.nil) OT.nil) OT.nil) OT.nil) OT.nil)) (OT.alt 2 (OT.alt 0 (OT.alt 3 (OT.alt 7 (OT.alt 8 (OT.alt 9 (OT.alt 10 OT.nil OT.nil) OT.nil) OT.nil) OT.nil) (OT.alt 7 (OT.alt 3 (OT.alt 8 (OT.alt 9 (OT.alt 10 OT.nil OT.nil) OT.nil) OT.nil) OT.nil) OT.nil)) (OT.alt 7 (OT.alt 0 (OT.alt 3 (OT.alt 8 (OT.alt 9 (OT.alt 10 OT.nil OT.nil) OT.nil) OT.nil) OT.nil) OT.nil) OT.nil)) (OT.alt 7 (OT.alt 0 (OT.alt 2 (OT.alt 3 (OT.alt 8 (OT.alt 9 (OT.alt 10 OT.nil OT.nil) OT.nil) OT.nil) OT.nil) OT.nil) (OT.alt 2 (OT.alt 0 (OT.alt 3 (OT.alt 8 (OT.alt 9 (OT.alt 10 OT.nil OT.nil) OT.nil) OT.nil) OT.nil) OT.nil) OT.nil)) OT.nil))) (by kernel_rfl) ?_ | refine Drw.of (T := tt) (i := 21) [] [] [(0, true), (1, true), (2, true), (3, true), (4, true), (5, true), (6, true), (7, true), (8, true), (9, true), (10, true), (11, true), (12, true), (13, true), (14, true), (15, true), (16, true), (17, true), (18, true), (19, true), (20, false), (21, true), (22, true), (23, true), (24, true), (25, true), (26, true)] (by kernel_rfl) ?_ | (refine CL.mk (Or.inl ?_); (conv => whnf); refine Cl.is (hr0) rfl (by exact fun _ => rfl) ?_))
  all_goals (conv => whnf)
  all_goals
    refine CL.mk (Or.inr ?_)
    refine Raw.callI [172,902] [172,902,903,904] rfl rfl rfl rfl rfl rfl rfl (ready_R3 jobs (T1 ++ [⟨m, 0, false, false, false, false, 0, 0, -1, 0⟩]) now nx log T1.length (by simp) (by omega) hs0 _ _ _ (by simp [hl]) (by simp [hl]) rfl _ _ (by first | rfl | (simp [p.hT]; done)) rfl T2 hT2) ?_
    rintro _ _ ⟨rfl, rfl⟩
    refine Bk.mk rfl rfl ?_
    (conv => whnf)
    refine ⟨_, hnext b4, by dsimp only; omega, [(2, .k 2), (4, .k 4), (5, .k 5), (901, .k 903), (902, .k 904)], ?_⟩
    subst hb4
    exact ⟨LeT.cons rfl (LeS.d (LeD.u rfl)) (LeT.cons rfl (LeS.d (LeD.p rfl)) (LeT.cons rfl (LeS.d (LeD.p rfl)) (LeT.cons rfl (LeS.d (LeD.p rfl)) LeT.nil))), LeO.bx rfl rfl (LeL.cons (LeD.u rfl) (LeL.cons (LeD.ow rfl rfl) (LeL.cons (LeD.u rfl) (LeL.cons (LeD.u rfl) (LeL.cons (LeD.ow rfl rfl) LeL.nil))))) (LeO.bx rfl rfl (LeL.cons (LeD.u rfl) (LeL.cons (LeD.u rfl) (LeL.cons (LeD.u rfl) (LeL.cons (LeD.u rfl) (LeL.cons (LeD.u rfl) LeL.nil))))) (LeO.bx rfl rfl (LeL.cons (LeD.u rfl) (LeL.cons (LeD.u rfl) (LeL.cons (LeD.u rfl) (LeL.cons (LeD.u rfl) (LeL.cons (LeD.u rfl) (LeL.cons (LeD.u rfl) (LeL.cons (LeD.u rfl) (LeL.cons (LeD.u rfl) (LeL.cons (LeD.u rfl) (LeL.cons (LeD.u rfl) LeL.nil)))))))))) (LeO.ar rfl rfl rfl (LeO.ar rfl rfl rfl .nil))))⟩
end Go.Proofs.Ytgiebofmfkacgaa
namespace Go.Proofs.Ytgiebofmfkacgaa
open Go.RowKit
set_option maxHeartbeats 8000000 in
theorem pk3f (jobs : List Jb) (n f : Nat) (ts : List Tk6) (now nx : Int) (log : List Rc) (t0 : Tk6) (R : Sg) (j k : Nat) (A o : List Ac) (T1 : List Tk6) (t3 t4 t5 t6 : Bool) (t7 t8 t9 t10 : Int) (p : PStep jobs n f ts now nx log ⟨j, k, t3, t4, t5, t6, t7, t8, t9, t10⟩ j k A o T1) (m : Nat) (ha : A[k]? = some ⟨3, m⟩) (hm : m < jobs.length) (h60 : ¬ T1.length < 60) (hR1 : T1.length < 60 → goG jobs n f (readyG ⟨T1 ++ [⟨m, 0, false, false, false, false, 0, 0, -1, 0⟩], now, nx, log⟩ T1.length) = R) (hR2 : ¬ T1.length < 60 → goG jobs n f ⟨T1, now, nx, log⟩ = R) (Ke : Nat → Kt) : vcC Try.prog tt Try.f49.ntmps (RetKO tt Try.f49.results.toList (Iso (sgA jobs R) (sgO R))) (bodyOf Try.f49.body) (PNext jobs n f R) Ke (prS jobs n ⟨ts, now, nx, log⟩ t0).tm (prS jobs n ⟨ts, now, nx, log⟩ t0).ob := by
  have hn := p.hn
  have hrw : ∀ {K : List V → Prop}, K (⟨j, k, t3, t4, t5, t6, t7, t8, t9, t10⟩ : Tk6).v → Rw (ts.map Tk6.v) n K := fun k => Rw.get (by rw [List.getElem?_map, p.rd]; rfl) k
  have hix' : ∀ {K : List V → Prop}, K (bif t4 then [avs o, avs A] else [avs A, avs o]) → Ix (jobs.map Jb.v) (j : Int) K := fun q => p.ix q
  have hkA := p.hk
  have hia : ∀ {K : List V → Prop}, K (⟨3, m⟩ : Ac).v → Ix (A.map Ac.v) (k : Int) K := fun q => Ix.map rfl p.hk (by rw [(List.getElem?_eq_some_iff.1 ha).2]; exact q)
  have hb1 := p.hs.nextb
  have hb2 := p.hs.le
  have hb3 := p.hs.log
  have hA := p.hA
  dsimp only at hb1 hb2 hb3
  have hTr : (ts.map Tk6.v).set n (⟨(j : Int), (k : Int) + 1, t3, t4, t5, t6, t7, t8, t9, t10⟩ : Tk6).v = T1.map Tk6.v := by rw [p.hT]; simp
  have hl := p.len
  have hs0 := p.hs.next
  have hnow := p.hs.now
  have hnowb := p.hs.nowb
  dsimp only at hs0 hnow hnowb
  have hnext : ∃ T2 nx', (T1.length < 60 → nx' = nx + 1 ∧ T2 = (T1 ++ [(⟨m, 0, false, false, false, false, 0, 0, -1, 0⟩ : Tk6)]).modify T1.length fun t => { t with due := now, stamp := nx }) ∧ (¬ T1.length < 60 → nx' = nx ∧ T2 = T1) ∧ ∀ b4 : Bool, PInv jobs n R (f, ⟨T2, now, nx', log⟩, ⟨j, k, t3, b4, t5, t6, t7, t8, t9, t10⟩) := by
    by_cases h60 : T1.length < 60
    · refine ⟨_, _, fun _ => ⟨rfl, rfl⟩, fun q => absurd h60 q, fun b4 => ?_⟩
      have hs' := p.hs'
      have hact := p.act
      have hget : ∀ (i : Nat) t, ((T1 ++ [(⟨m, 0, false, false, false, false, 0, 0, -1, 0⟩ : Tk6)]).modify T1.length fun t => { t with due := now, stamp := nx })[i]? = some t → T1[i]? = some t ∨ t.job = m ∧ t.at_ = 0 ∧ i = T1.length := fun i t q => by
        rw [List.getElem?_modify] at q
        by_cases hi : i < T1.length
        · rw [List.getElem?_append_left hi] at q
          cases hg : T1[i]? with
          | none => rw [hg] at q; simp at q
          | some w =>
            rw [hg] at q
            simp only [if_neg (show ¬ T1.length = i by omega), Option.map_eq_map, Option.map_some, id] at q
            exact .inl q
        · by_cases h2 : i = T1.length
          · subst h2
            rw [List.getElem?_append_right (Nat.le_refl _)] at q
            simp at q
            subst q
            exact .inr ⟨rfl, rfl, rfl⟩
          · rw [List.getElem?_eq_none (by simp; omega)] at q
            simp at q
      refine ⟨⟨?_, ?_, ?_, ?_, ?_, hnow, hnowb⟩, ?_, ?_, hR1 h60⟩
      · simp; omega
      · intro i t q
        rcases hget i t q with h | ⟨h1, h2, _⟩
        · exact hs'.job i t h
        · exact ⟨⟨m, h1, hm⟩, by omega⟩
      · dsimp only; omega
      · dsimp only; omega
      · dsimp only; omega
      · simp; omega
      · intro t q
        rcases hget n t q with h | ⟨h1, h2, h3⟩
        · exact hact t h
        · omega
    · exact ⟨_, _, fun q => absurd q h60, fun _ => ⟨rfl, rfl⟩, fun b4 => PInv.of p.hs' (by rw [hl]; exact hn) p.act .refl (by omega) (by omega) (by omega) (hR2 h60)⟩
  obtain ⟨T2, nx', hTa, hTb, hnext⟩ := hnext
  have al : ∃ b : Bool, (b = true → m ≠ n ∧ m < ts.length) ∧ (b = false → m = n ∨ ts.length ≤ m) := by
    by_cases h : m ≠ n ∧ m < ts.length
    · exact ⟨true, fun _ => h, fun q => by simp at q⟩
    · exact ⟨false, fun q => by simp at q, fun _ => by omega⟩
  obtain ⟨b, al1, al2⟩ := al
  obtain ⟨b4, hb4⟩ : ∃ b4, t4 = b4 := ⟨_, rfl⟩
  obtain ⟨rfl, hT2⟩ := hTb h60
  clear hTa hTb hR1 hR2
  subst hT2
  have h60' : ¬ ts.length < 60 := by omega
  cases b
  · have al := al2 rfl
    clear al1 al2
    cases t4
    all_goals
      rcases al with al | al
    all_goals
      (conv => whnf)
      repeat' ((conv => whnf); first | refine Ixo.mk ⟨n, rfl, hn, ?_⟩ | refine hrw ?_ | refine hix' ?_ | refine hia ?_ | refine Gs.id ?_ | with_reducible refine Brn.T rfl ?_ | with_reducible refine Brn.F rfl ?_ | refine Brn.T (by (try simp only [smT]); first | rfl | omega) ?_ | refine Brn.F (by (try simp only [smT]); first | rfl | omega) ?_ | (refine Bnd.mk (fun hm => ?_); (try simp only [smT] at hm)) | refine Rng.mk (by (try simp only [smT]); omega) ?_ | refine Drw.of (T := tt) (i := 21) [] [] [(0, true), (1, true), (2, true), (3, true), (4, true), (5, true), (6, true), (7, true), (8, true), (9, true), (10, true), (11, true), (12, true), (13, true), (14, true), (15, true), (16, true), (17, true), (18, true), (19, true), (20, false), (21, true), (22, true), (23, true), (24, true), (25, true), (26, true)] (by kernel_rfl) ?_)
    all_goals (conv => whnf)
    all_goals
      refine ⟨_, hnext b4, by dsimp only; omega, [(2, .k 2), (4, .k 4), (5, .k 5), (901, .k 901), (902, .k 902)], ?_⟩
      subst hb4
      exact ⟨by (try dsimp only); (repeat (refine LeT.cons rfl (by exact LeS.d (by first | exact LeD.u rfl | exact LeD.p rfl)) ?_)); exact LeT.nil, by (try dsimp only); repeat (first | exact LeO.nil | refine LeO.bx rfl rfl (by repeat (first | exact LeL.nil | refine LeL.cons (by first | exact LeD.u rfl | exact LeD.ow rfl rfl | exact LeD.ow rfl (by simp [p.hT])) ?_)) ?_ | refine LeO.ar rfl rfl (by first | rfl | simp [p.hT]) ?_)⟩
  · obtain ⟨al, am⟩ := al1 rfl
    clear al1 al2
    have hrm : (ts.map Tk6.v)[m]? = some (ts[m]).v := by rw [List.getElem?_map, List.getElem?_eq_getElem am]; rfl
    generalize ts[m] = u at hrm
    obtain ⟨u1, u2, u3, u4, u5, u6, u7, u8, u9, u10⟩ := u
    have hr0 := r0_T m ts.length am
    cases t4
    all_goals
      (conv => whnf)
      repeat' ((conv => whnf); first | refine Ixo.mk ⟨n, rfl, hn, ?_⟩ | refine hrw ?_ | refine hix' ?_ | refine hia ?_ | refine Ixo.mk ⟨m, rfl, am, ?_⟩ | refine Rw_ne hrm (Ne.symm al) ?_ | refine Gs.id ?_ | with_reducible refine Brn.T rfl ?_ | with_reducible refine Brn.F rfl ?_ | refine Brn.T (by (try simp only [smT]); first | rfl | omega) ?_ | refine Brn.F (by (try simp only [smT]); first | rfl | omega) ?_ | (refine Bnd.mk (fun hm => ?_); (try simp only [smT] at hm)) | refine Rng.mk (by (try simp only [smT]); omega) ?_ | refine Drw.of (T := tt) (i := 21) [] [] [(0, true), (1, true), (2, true), (3, true), (4, true), (5, true), (6, true), (7, true), (8, true), (9, true), (10, true), (11, true), (12, true), (13, true), (14, true), (15, true), (16, true), (17, true), (18, true), (19, true), (20, false), (21, true), (22, true), (23, true), (24, true), (25, true), (26, true)] (by kernel_rfl) ?_ | (refine CL.mk (Or.inl ?_); (conv => whnf); refine Cl.is (hr0) rfl (by exact fun _ => rfl) ?_))
    all_goals (conv => whnf)
    all_goals
      refine ⟨_, hnext b4, by dsimp only; omega, [(2, .k 2), (4, .k 4), (5, .k 5), (901, .k 901), (902, .k 902)], ?_⟩
      subst hb4
      exact ⟨by (try dsimp only); (repeat (refine LeT.cons rfl (by exact LeS.d (by first | exact LeD.u rfl | exact LeD.p rfl)) ?_)); exact LeT.nil, by (try dsimp only); repeat (first | exact LeO.nil | refine LeO.bx rfl rfl (by repeat (first | exact LeL.nil | refine LeL.cons (by first | exact LeD.u rfl | exact LeD.ow rfl rfl | exact LeD.ow rfl (by simp [p.hT])) ?_)) ?_ | refine LeO.ar rfl rfl (by first | rfl | simp [p.hT]) ?_)⟩
end Go.Proofs.Ytgiebofmfkacgaa
namespace Go.Proofs.Ytgiebofmfkacgaa
open Go.RowKit
theorem pk3 (jobs : List Jb) (n f : Nat) (ts : List Tk6) (now nx : Int) (log : List Rc) (t0 : Tk6) (R : Sg) (j k : Nat) (A o : List Ac) (T1 : List Tk6) (t3 t4 t5 t6 : Bool) (t7 t8 t9 t10 : Int) (p : PStep jobs n f ts now nx log ⟨j, k, t3, t4, t5, t6, t7, t8, t9, t10⟩ j k A o T1) (m : Nat) (ha : A[k]? = some ⟨3, m⟩) (hm : m < jobs.length) (hR1 : T1.length < 60 → goG jobs n f (readyG ⟨T1 ++ [⟨m, 0, false, false, false, false, 0, 0, -1, 0⟩], now, nx, log⟩ T1.length) = R) (hR2 : ¬ T1.length < 60 → goG jobs n f ⟨T1, now, nx, log⟩ = R) (Ke : Nat → Kt) : vcC Try.prog tt Try.f49.ntmps (RetKO tt Try.f49.results.toList (Iso (sgA jobs R) (sgO R))) (bodyOf Try.f49.body) (PNext jobs n f R) Ke (prS jobs n ⟨ts, now, nx, log⟩ t0).tm (prS jobs n ⟨ts, now, nx, log⟩ t0).ob := by
  by_cases h60 : T1.length < 60
  · by_cases h1 : m = n
    · exact pk3a jobs n f ts now nx log t0 R j k A o T1 t3 t4 t5 t6 t7 t8 t9 t10 p m ha hm h60 h1 hR1 hR2 Ke
    · by_cases h2 : m < ts.length
      · exact pk3c jobs n f ts now nx log t0 R j k A o T1 t3 t4 t5 t6 t7 t8 t9 t10 p m ha hm h60 h1 h2 hR1 hR2 Ke
      · exact pk3b jobs n f ts now nx log t0 R j k A o T1 t3 t4 t5 t6 t7 t8 t9 t10 p m ha hm h60 (by omega) hR1 hR2 Ke
  · exact pk3f jobs n f ts now nx log t0 R j k A o T1 t3 t4 t5 t6 t7 t8 t9 t10 p m ha hm h60 hR1 hR2 Ke
end Go.Proofs.Ytgiebofmfkacgaa
namespace Go.Proofs.Ytgiebofmfkacgaa
open Go.RowKit
set_option maxHeartbeats 8000000 in
theorem pk4 (jobs : List Jb) (n f : Nat) (ts : List Tk6) (now nx : Int) (log : List Rc) (t0 : Tk6) (R : Sg) (j k : Nat) (A o : List Ac) (T1 : List Tk6) (t3 t4 t5 t6 : Bool) (t7 t8 t9 t10 : Int) (p : PStep jobs n f ts now nx log ⟨j, k, t3, t4, t5, t6, t7, t8, t9, t10⟩ j k A o T1) (m : Nat) (ha : A[k]? = some ⟨4, m⟩) (hR1 : aliveG ⟨T1, now, nx, log⟩ n m = true → ⟨T1.modify n fun t => { t with waits := m, since := nx }, now, nx + 1, log⟩ = R) (hR2 : aliveG ⟨T1, now, nx, log⟩ n m = false → goG jobs n f ⟨T1, now, nx, log⟩ = R) (Ke : Nat → Kt) : vcC Try.prog tt Try.f49.ntmps (RetKO tt Try.f49.results.toList (Iso (sgA jobs R) (sgO R))) (bodyOf Try.f49.body) (PNext jobs n f R) Ke (prS jobs n ⟨ts, now, nx, log⟩ t0).tm (prS jobs n ⟨ts, now, nx, log⟩ t0).ob := by
  have hn := p.hn
  have hrw : ∀ {K : List V → Prop}, K (⟨j, k, t3, t4, t5, t6, t7, t8, t9, t10⟩ : Tk6).v → Rw (ts.map Tk6.v) n K := fun k => Rw.get (by rw [List.getElem?_map, p.rd]; rfl) k
  have hix' : ∀ {K : List V → Prop}, K (bif t4 then [avs o, avs A] else [avs A, avs o]) → Ix (jobs.map Jb.v) (j : Int) K := fun q => p.ix q
  have hkA := p.hk
  have hia : ∀ {K : List V → Prop}, K (⟨4, m⟩ : Ac).v → Ix (A.map Ac.v) (k : Int) K := fun q => Ix.map rfl p.hk (by rw [(List.getElem?_eq_some_iff.1 ha).2]; exact q)
  have hb1 := p.hs.nextb
  have hb2 := p.hs.le
  have hb3 := p.hs.log
  have hA := p.hA
  dsimp only at hb1 hb2 hb3
  have hTr : (ts.map Tk6.v).set n (⟨(j : Int), (k : Int) + 1, t3, t4, t5, t6, t7, t8, t9, t10⟩ : Tk6).v = T1.map Tk6.v := by rw [p.hT]; simp
  have hl := p.len
  have hs0 := p.hs.next
  have hnow := p.hs.now
  have hnowb := p.hs.nowb
  dsimp only at hs0 hnow hnowb
  have hT1n : T1[n]? = some ⟨j, (k : Int) + 1, t3, t4, t5, t6, t7, t8, t9, t10⟩ := by rw [p.hT, List.getElem?_set, if_pos rfl, if_pos hn]
  have hnT : n < T1.length := by rw [hl]; exact hn
  have hnext : aliveG ⟨T1, now, nx, log⟩ n m = false → ∀ b4 : Bool, PInv jobs n R (f, ⟨T1, now, nx, log⟩, ⟨j, k, t3, b4, t5, t6, t7, t8, t9, t10⟩) := fun e b4 => PInv.of p.hs' hnT p.act .refl (by omega) (by omega) (by omega) (hR2 e)
  have al : ∃ b : Bool, (b = true → m ≠ n ∧ m < ts.length) ∧ (b = false → m = n ∨ ts.length ≤ m) := by
    by_cases h : m ≠ n ∧ m < ts.length
    · exact ⟨true, fun _ => h, fun q => by simp at q⟩
    · exact ⟨false, fun q => by simp at q, fun _ => by omega⟩
  obtain ⟨b, al1, al2⟩ := al
  obtain ⟨b4, hb4⟩ : ∃ b4, t4 = b4 := ⟨_, rfl⟩
  cases b
  · have al := al2 rfl
    have hnext := hnext (by
      have : ¬ ((m : Int) ≠ (n : Int) ∧ (m : Int) < (T1.length : Int)) := by omega
      simp only [aliveG]
      rcases al with al | al
      · subst al; simp
      · rw [decide_eq_false (by omega)]; simp)
    clear al1 al2 hR1 hR2
    cases t4
    all_goals
      rcases al with al | al
    all_goals
      (conv => whnf)
      repeat' ((conv => whnf); first | refine Ixo.mk ⟨n, rfl, hn, ?_⟩ | refine hrw ?_ | refine hix' ?_ | refine hia ?_ | refine Gs.id ?_ | with_reducible refine Brn.T rfl ?_ | with_reducible refine Brn.F rfl ?_ | refine Brn.T (by (try simp only [smT]); first | rfl | omega) ?_ | refine Brn.F (by (try simp only [smT]); first | rfl | omega) ?_ | (refine Bnd.mk (fun hm => ?_); (try simp only [smT] at hm)) | refine Rng.mk (by (try simp only [smT]); omega) ?_ | refine Drw.of (T := tt) (i := 21) [] [] [(0, true), (1, true), (2, true), (3, true), (4, true), (5, true), (6, true), (7, true), (8, true), (9, true), (10, true), (11, true), (12, true), (13, true), (14, true), (15, true), (16, true), (17, true), (18, true), (19, true), (20, false), (21, true), (22, true), (23, true), (24, true), (25, true), (26, true)] (by kernel_rfl) ?_)
    all_goals (conv => whnf)
    all_goals
      refine ⟨_, hnext b4, by dsimp only; omega, [(2, .k 2), (4, .k 4), (5, .k 5), (901, .k 901), (902, .k 902)], ?_⟩
      subst hb4
      exact ⟨by (try dsimp only); (repeat (refine LeT.cons rfl (by exact LeS.d (by first | exact LeD.u rfl | exact LeD.p rfl)) ?_)); exact LeT.nil, by (try dsimp only); repeat (first | exact LeO.nil | refine LeO.bx rfl rfl (by repeat (first | exact LeL.nil | refine LeL.cons (by first | exact LeD.u rfl | exact LeD.ow rfl rfl | exact LeD.ow rfl (by simp [p.hT])) ?_)) ?_ | refine LeO.ar rfl rfl (by first | rfl | simp [p.hT]) ?_)⟩
  · obtain ⟨al, am⟩ := al1 rfl
    clear al1 al2
    have hrm : (ts.map Tk6.v)[m]? = some (ts[m]).v := by rw [List.getElem?_map, List.getElem?_eq_getElem am]; rfl
    have hTm : T1[m]? = some ts[m] := by rw [p.hT, List.getElem?_set_ne (Ne.symm al), List.getElem?_eq_getElem am]
    generalize ts[m] = u at hrm hTm
    obtain ⟨u1, u2, u3, u4, u5, u6, u7, u8, u9, u10⟩ := u
    have hr0 := r0_T m ts.length am
    have hal : aliveG ⟨T1, now, nx, log⟩ n m = !u5 := by
      simp only [aliveG]
      rw [Int.toNat_natCast, hTm, decide_eq_true (by omega)]
      have : ((m : Int) != (n : Int)) = true := by simp; omega
      rw [this]
      simp
    rw [hal] at hnext hR1 hR2
    cases u5
    · have hR1 := hR1 rfl
      have eR : R = ⟨T1.set n ⟨j, (k : Int) + 1, t3, t4, t5, t6, t7, t8, m, nx⟩, now, nx + 1, log⟩ := by
        rw [← hR1, modify_set _ _ _ hnT, (List.getElem?_eq_some_iff.1 hT1n).2]
      subst eR
      clear hR1 hR2 hnext
      cases t4
      all_goals
        (conv => whnf)
        repeat' ((conv => whnf); first | refine Ixo.mk ⟨n, rfl, hn, ?_⟩ | refine hrw ?_ | refine hix' ?_ | refine hia ?_ | refine Ixo.mk ⟨m, rfl, am, ?_⟩ | refine Rw_ne hrm (Ne.symm al) ?_ | refine Rw.self (by simp [hn]) ?_ | refine Gs.id ?_ | with_reducible refine Brn.T rfl ?_ | with_reducible refine Brn.F rfl ?_ | refine Brn.T (by (try simp only [smT]); first | rfl | omega) ?_ | refine Brn.F (by (try simp only [smT]); first | rfl | omega) ?_ | (refine Bnd.mk (fun hm => ?_); (try simp only [smT] at hm)) | refine Rng.mk (by (try simp only [smT]); omega) ?_ | refine Drw.of (T := tt) (i := 21) [] [] [(0, true), (1, true), (2, true), (3, true), (4, true), (5, true), (6, true), (7, true), (8, true), (9, true), (10, true), (11, true), (12, true), (13, true), (14, true), (15, true), (16, true), (17, true), (18, true), (19, true), (20, false), (21, true), (22, true), (23, true), (24, true), (25, true), (26, true)] (by kernel_rfl) ?_ | (refine CL.mk (Or.inl ?_); (conv => whnf); refine Cl.is (hr0) rfl (by exact fun _ => rfl) ?_))
      all_goals (conv => whnf)
      all_goals
        simp only [p.hT]
        refine RetO.mk ⟨[(901, .k 901), (902, .k 902)], _, _, (by exact LeS.a (by repeat (first | exact LeL.nil | refine LeL.cons (by first | exact LeD.u rfl | exact LeD.ow rfl rfl | exact LeD.ow rfl (by simp)) ?_))), (by repeat (first | exact LeO.nil | refine LeO.ar rfl rfl (by first | rfl | simp) ?_)), rfl, rfl⟩
    · have hnext := hnext rfl
      clear hR1 hR2
      cases t4
      all_goals
        (conv => whnf)
        repeat' ((conv => whnf); first | refine Ixo.mk ⟨n, rfl, hn, ?_⟩ | refine hrw ?_ | refine hix' ?_ | refine hia ?_ | refine Ixo.mk ⟨m, rfl, am, ?_⟩ | refine Rw_ne hrm (Ne.symm al) ?_ | refine Gs.id ?_ | with_reducible refine Brn.T rfl ?_ | with_reducible refine Brn.F rfl ?_ | refine Brn.T (by (try simp only [smT]); first | rfl | omega) ?_ | refine Brn.F (by (try simp only [smT]); first | rfl | omega) ?_ | (refine Bnd.mk (fun hm => ?_); (try simp only [smT] at hm)) | refine Rng.mk (by (try simp only [smT]); omega) ?_ | refine Drw.of (T := tt) (i := 21) [] [] [(0, true), (1, true), (2, true), (3, true), (4, true), (5, true), (6, true), (7, true), (8, true), (9, true), (10, true), (11, true), (12, true), (13, true), (14, true), (15, true), (16, true), (17, true), (18, true), (19, true), (20, false), (21, true), (22, true), (23, true), (24, true), (25, true), (26, true)] (by kernel_rfl) ?_ | (refine CL.mk (Or.inl ?_); (conv => whnf); refine Cl.is (hr0) rfl (by exact fun _ => rfl) ?_))
      all_goals (conv => whnf)
      all_goals
        refine ⟨_, hnext b4, by dsimp only; omega, [(2, .k 2), (4, .k 4), (5, .k 5), (901, .k 901), (902, .k 902)], ?_⟩
        subst hb4
        exact ⟨by (try dsimp only); (repeat (refine LeT.cons rfl (by exact LeS.d (by first | exact LeD.u rfl | exact LeD.p rfl)) ?_)); exact LeT.nil, by (try dsimp only); repeat (first | exact LeO.nil | refine LeO.bx rfl rfl (by repeat (first | exact LeL.nil | refine LeL.cons (by first | exact LeD.u rfl | exact LeD.ow rfl rfl | exact LeD.ow rfl (by simp [p.hT])) ?_)) ?_ | refine LeO.ar rfl rfl (by first | rfl | simp [p.hT]) ?_)⟩
end Go.Proofs.Ytgiebofmfkacgaa
namespace Go.Proofs.Ytgiebofmfkacgaa
open Go.RowKit
set_option maxHeartbeats 8000000 in
theorem pk5a (jobs : List Jb) (n f : Nat) (ts : List Tk6) (now nx : Int) (log : List Rc) (t0 : Tk6) (R : Sg) (j k : Nat) (A o : List Ac) (T1 : List Tk6) (t3 t4 t5 t6 : Bool) (t7 t8 t9 t10 : Int) (p : PStep jobs n f ts now nx log ⟨j, k, t3, t4, t5, t6, t7, t8, t9, t10⟩ j k A o T1) (m : Nat) (ha : A[k]? = some ⟨5, m⟩) (al : m = n ∨ ts.length ≤ m) (hR1 : aliveG ⟨T1, now, nx, log⟩ n m = true → goG jobs n f (cancG ⟨T1, now, nx, log⟩ m) = R) (hR2 : aliveG ⟨T1, now, nx, log⟩ n m = false → goG jobs n f ⟨T1, now, nx, log⟩ = R) (Ke : Nat → Kt) : vcC Try.prog tt Try.f49.ntmps (RetKO tt Try.f49.results.toList (Iso (sgA jobs R) (sgO R))) (bodyOf Try.f49.body) (PNext jobs n f R) Ke (prS jobs n ⟨ts, now, nx, log⟩ t0).tm (prS jobs n ⟨ts, now, nx, log⟩ t0).ob := by
  have hn := p.hn
  have hrw : ∀ {K : List V → Prop}, K (⟨j, k, t3, t4, t5, t6, t7, t8, t9, t10⟩ : Tk6).v → Rw (ts.map Tk6.v) n K := fun k => Rw.get (by rw [List.getElem?_map, p.rd]; rfl) k
  have hix' : ∀ {K : List V → Prop}, K (bif t4 then [avs o, avs A] else [avs A, avs o]) → Ix (jobs.map Jb.v) (j : Int) K := fun q => p.ix q
  have hkA := p.hk
  have hia : ∀ {K : List V → Prop}, K (⟨5, m⟩ : Ac).v → Ix (A.map Ac.v) (k : Int) K := fun q => Ix.map rfl p.hk (by rw [(List.getElem?_eq_some_iff.1 ha).2]; exact q)
  have hb1 := p.hs.nextb
  have hb2 := p.hs.le
  have hb3 := p.hs.log
  have hA := p.hA
  dsimp only at hb1 hb2 hb3
  have hTr : (ts.map Tk6.v).set n (⟨(j : Int), (k : Int) + 1, t3, t4, t5, t6, t7, t8, t9, t10⟩ : Tk6).v = T1.map Tk6.v := by rw [p.hT]; simp
  have hl := p.len
  have hs0 := p.hs.next
  have hnow := p.hs.now
  have hnowb := p.hs.nowb
  dsimp only at hs0 hnow hnowb
  have hT1n : T1[n]? = some ⟨j, (k : Int) + 1, t3, t4, t5, t6, t7, t8, t9, t10⟩ := by rw [p.hT, List.getElem?_set, if_pos rfl, if_pos hn]
  have hnT : n < T1.length := by rw [hl]; exact hn
  have hnext : goG jobs n f ⟨T1, now, nx, log⟩ = R → ∀ b4 : Bool, PInv jobs n R (f, ⟨T1, now, nx, log⟩, ⟨j, k, t3, b4, t5, t6, t7, t8, t9, t10⟩) := fun e b4 => PInv.of p.hs' hnT p.act .refl (by omega) (by omega) (by omega) e
  obtain ⟨b4, hb4⟩ : ∃ b4, t4 = b4 := ⟨_, rfl⟩
  have hnext := hnext (hR2 (by
    simp only [aliveG]
    rcases al with al | al
    · subst al; simp
    · rw [decide_eq_false (by omega)]; simp))
  clear hR1 hR2
  cases t4
  all_goals
    rcases al with al | al
  all_goals
    (conv => whnf)
    repeat' ((conv => whnf); first | refine Ixo.mk ⟨n, rfl, hn, ?_⟩ | refine hrw ?_ | refine hix' ?_ | refine hia ?_ | refine Gs.id ?_ | with_reducible refine Brn.T rfl ?_ | with_reducible refine Brn.F rfl ?_ | refine Brn.T (by (try simp only [smT]); first | rfl | omega) ?_ | refine Brn.F (by (try simp only [smT]); first | rfl | omega) ?_ | (refine Bnd.mk (fun hm => ?_); (try simp only [smT] at hm)) | refine Rng.mk (by (try simp only [smT]); omega) ?_ | refine Drw.of (T := tt) (i := 21) [] [] [(0, true), (1, true), (2, true), (3, true), (4, true), (5, true), (6, true), (7, true), (8, true), (9, true), (10, true), (11, true), (12, true), (13, true), (14, true), (15, true), (16, true), (17, true), (18, true), (19, true), (20, false), (21, true), (22, true), (23, true), (24, true), (25, true), (26, true)] (by kernel_rfl) ?_)
  all_goals (conv => whnf)
  all_goals
    refine ⟨_, hnext b4, by dsimp only; omega, [(2, .k 2), (4, .k 4), (5, .k 5), (901, .k 901), (902, .k 902)], ?_⟩
    subst hb4
    exact ⟨by (try dsimp only); (repeat (refine LeT.cons rfl (by exact LeS.d (by first | exact LeD.u rfl | exact LeD.p rfl)) ?_)); exact LeT.nil, by (try dsimp only); repeat (first | exact LeO.nil | refine LeO.bx rfl rfl (by repeat (first | exact LeL.nil | refine LeL.cons (by first | exact LeD.u rfl | exact LeD.ow rfl rfl | exact LeD.ow rfl (by simp [p.hT])) ?_)) ?_ | refine LeO.ar rfl rfl (by first | rfl | simp [p.hT]) ?_)⟩
end Go.Proofs.Ytgiebofmfkacgaa
namespace Go.Proofs.Ytgiebofmfkacgaa
open Go.RowKit
set_option maxHeartbeats 8000000 in
theorem pk5b (jobs : List Jb) (n f : Nat) (ts : List Tk6) (now nx : Int) (log : List Rc) (t0 : Tk6) (R : Sg) (j k : Nat) (A o : List Ac) (T1 : List Tk6) (t3 t4 t5 t6 : Bool) (t7 t8 t9 t10 : Int) (p : PStep jobs n f ts now nx log ⟨j, k, t3, t4, t5, t6, t7, t8, t9, t10⟩ j k A o T1) (m : Nat) (ha : A[k]? = some ⟨5, m⟩) (al : m ≠ n) (am : m < ts.length) (u1 u2 : Int) (u3 u4 u5 u6 : Bool) (u7 u8 u9 u10 : Int) (hu : ts[m]? = some ⟨u1, u2, u3, u4, u5, u6, u7, u8, u9, u10⟩) (e5 : u5 = false) (e6 : u6 = true) (hR1 : aliveG ⟨T1, now, nx, log⟩ n m = true → goG jobs n f (cancG ⟨T1, now, nx, log⟩ m) = R) (hR2 : aliveG ⟨T1, now, nx, log⟩ n m = false → goG jobs n f ⟨T1, now, nx, log⟩ = R) (Ke : Nat → Kt) : vcC Try.prog tt Try.f49.ntmps (RetKO tt Try.f49.results.toList (Iso (sgA jobs R) (sgO R))) (bodyOf Try.f49.body) (PNext jobs n f R) Ke (prS jobs n ⟨ts, now, nx, log⟩ t0).tm (prS jobs n ⟨ts, now, nx, log⟩ t0).ob := by
  have hn := p.hn
  have hrw : ∀ {K : List V → Prop}, K (⟨j, k, t3, t4, t5, t6, t7, t8, t9, t10⟩ : Tk6).v → Rw (ts.map Tk6.v) n K := fun k => Rw.get (by rw [List.getElem?_map, p.rd]; rfl) k
  have hix' : ∀ {K : List V → Prop}, K (bif t4 then [avs o, avs A] else [avs A, avs o]) → Ix (jobs.map Jb.v) (j : Int) K := fun q => p.ix q
  have hkA := p.hk
  have hia : ∀ {K : List V → Prop}, K (⟨5, m⟩ : Ac).v → Ix (A.map Ac.v) (k : Int) K := fun q => Ix.map rfl p.hk (by rw [(List.getElem?_eq_some_iff.1 ha).2]; exact q)
  have hb1 := p.hs.nextb
  have hb2 := p.hs.le
  have hb3 := p.hs.log
  have hA := p.hA
  dsimp only at hb1 hb2 hb3
  have hTr : (ts.map Tk6.v).set n (⟨(j : Int), (k : Int) + 1, t3, t4, t5, t6, t7, t8, t9, t10⟩ : Tk6).v = T1.map Tk6.v := by rw [p.hT]; simp
  have hl := p.len
  have hs0 := p.hs.next
  have hnow := p.hs.now
  have hnowb := p.hs.nowb
  dsimp only at hs0 hnow hnowb
  have hT1n : T1[n]? = some ⟨j, (k : Int) + 1, t3, t4, t5, t6, t7, t8, t9, t10⟩ := by rw [p.hT, List.getElem?_set, if_pos rfl, if_pos hn]
  have hnT : n < T1.length := by rw [hl]; exact hn
  have hnext : goG jobs n f ⟨T1, now, nx, log⟩ = R → ∀ b4 : Bool, PInv jobs n R (f, ⟨T1, now, nx, log⟩, ⟨j, k, t3, b4, t5, t6, t7, t8, t9, t10⟩) := fun e b4 => PInv.of p.hs' hnT p.act .refl (by omega) (by omega) (by omega) e
  obtain ⟨b4, hb4⟩ : ∃ b4, t4 = b4 := ⟨_, rfl⟩
  have hrm : (ts.map Tk6.v)[m]? = some (⟨u1, u2, u3, u4, u5, u6, u7, u8, u9, u10⟩ : Tk6).v := by rw [List.getElem?_map, hu]; rfl
  have hTm : T1[m]? = some ⟨u1, u2, u3, u4, u5, u6, u7, u8, u9, u10⟩ := by rw [p.hT, List.getElem?_set_ne (Ne.symm al), hu]
  have hr0 := r0_T m ts.length am
  have hal : aliveG ⟨T1, now, nx, log⟩ n m = !u5 := by
    simp only [aliveG]
    rw [Int.toNat_natCast, hTm, decide_eq_true (by omega)]
    have : ((m : Int) != (n : Int)) = true := by simp; omega
    rw [this]
    simp
  rw [hal] at hR1 hR2
  subst e5 e6
  have hR1 := hR1 rfl
  rw [cancG, hTm] at hR1
  dsimp only at hR1
  simp only [if_true] at hR1
  have hnext := hnext hR1
  clear hR1 hR2
  cases t4
  all_goals
    (conv => whnf)
    repeat' ((conv => whnf); first | refine Ixo.mk ⟨n, rfl, hn, ?_⟩ | refine hrw ?_ | refine hix' ?_ | refine hia ?_ | refine Ixo.mk ⟨m, rfl, am, ?_⟩ | refine Rw_ne hrm (Ne.symm al) ?_ | refine Gs.id ?_ | with_reducible refine Brn.T rfl ?_ | with_reducible refine Brn.F rfl ?_ | refine Brn.T (by (try simp only [smT]); first | rfl | omega) ?_ | refine Brn.F (by (try simp only [smT]); first | rfl | omega) ?_ | (refine Bnd.mk (fun hm => ?_); (try simp only [smT] at hm)) | refine Rng.mk (by (try simp only [smT]); omega) ?_ | refine Drw.of (T := tt) (i := 21) [] [] [(0, true), (1, true), (2, true), (3, true), (4, true), (5, true), (6, true), (7, true), (8, true), (9, true), (10, true), (11, true), (12, true), (13, true), (14, true), (15, true), (16, true), (17, true), (18, true), (19, true), (20, false), (21, true), (22, true), (23, true), (24, true), (25, true), (26, true)] (by kernel_rfl) ?_ | (refine CL.mk (Or.inl ?_); (conv => whnf); refine Cl.is (hr0) rfl (by exact fun _ => rfl) ?_))
  all_goals (conv => whnf)
  all_goals
    refine ⟨_, hnext b4, by dsimp only; omega, [(2, .k 2), (4, .k 4), (5, .k 5), (901, .k 901), (902, .k 902)], ?_⟩
    subst hb4
    exact ⟨by (try dsimp only); (repeat (refine LeT.cons rfl (by exact LeS.d (by first | exact LeD.u rfl | exact LeD.p rfl)) ?_)); exact LeT.nil, by (try dsimp only); repeat (first | exact LeO.nil | refine LeO.bx rfl rfl (by repeat (first | exact LeL.nil | refine LeL.cons (by first | exact LeD.u rfl | exact LeD.ow rfl rfl | exact LeD.ow rfl (by simp [p.hT])) ?_)) ?_ | refine LeO.ar rfl rfl (by first | rfl | simp [p.hT]) ?_)⟩
end Go.Proofs.Ytgiebofmfkacgaa
