/-
  Part 12 of the proofs of dsession_holds: laws and contracts that they need.
-/
import Derived.Test.YtabmcfnefjipbaaGreatDoorW11
import Derived.Lay
import Derived.Stop.LaidErr
set_option linter.unusedVariables false
set_option linter.unusedSimpArgs false
namespace Go.Proofs.YtabmcfnefjipbaaGreatDoor
open Go.ChangeShapes Go.WideShapes Go.ChangeAt Go.Deep Go.RowKit
abbrev laidDL : List (String × DataW Unit) := [("math/bits.deBruijn32tab", Rows.laid_math_bits_deBruijn32tab), ("math/bits.deBruijn64tab", Rows.laid_math_bits_deBruijn64tab), ("internal/strconv.uint64pow10", Rows.laid_internal_strconv_uint64pow10), ("unicode/utf8.acceptRanges", Rows.laid_unicode_utf8_acceptRanges), ("strconv.ErrRange", Rows.laid_strconv_ErrRange), ("strconv.ErrSyntax", Rows.laid_strconv_ErrSyntax), ("unicode/utf8.first", Rows.laid_unicode_utf8_first)]
noncomputable def laidWorldD (os : Os) : World := World.laidAll Tryz.prog os laidDL
theorem laidD_met (os : Os) (args : Array Value) : laidMet Tryz.prog laidDL ((laidWorldD os).forCall (fun _ _ => 0) ⟨#[],args,[]⟩).memory :=
 laidMet_laidAll args (by kernel_rfl) (by kernel_rfl)
theorem laidD_os (os : Os) : (laidWorldD os).os = os := World.laidAll_os _ _ _
theorem tab_ofD {W : World} (h : laidMetH Tryz.prog laidDL W) : Lib.TabIs Tryz.prog W "internal/strconv.uint64pow10" .u64 Lib.pow10Tab := by
 have h1 : laidMet Tryz.prog laidDL W := h
 have h2 := h1.tail.tail
 exact Lib.tabIs_of_head (rest := [("unicode/utf8.acceptRanges", Rows.laid_unicode_utf8_acceptRanges), ("strconv.ErrRange", Rows.laid_strconv_ErrRange), ("strconv.ErrSyntax", Rows.laid_strconv_ErrSyntax), ("unicode/utf8.first", Rows.laid_unicode_utf8_first)]) (g := 1) (t := 208) (e := 189) (n := 20) (by kernel_rfl) (by kernel_rfl) (by kernel_rfl) (by kernel_rfl) (by kernel_rfl) (by kernel_rfl) h2
theorem locs_ofD {x : V} (h : HasSh shLocs x) : ∃ l : List (ByteArray × ByteArray),x = .sl 2 (l.map locR) ∧ l.length ≤ 9000000000 := by
 obtain ⟨l,rfl⟩ := locs_of h
 refine ⟨l,rfl,?_⟩
 cases h with | sl hl hm hs hr h =>
 have : bigB = 9000000000 := rfl
 rw [List.length_map] at hl
 omega
structure EvIn (e : Ev) : Prop where
 md : e.md.size ≤ 1000000000000
 locs : e.locs.length ≤ 9000000000
 line : e.line ≤ 9223372036854775807
theorem evs_ofD {x : V} (h : HasSh shEvs x) : ∃ l : List Ev,x = evs l ∧ l.length ≤ 9000000000 ∧ ∀ e ∈ l,EvIn e := by
 cases h with | sl hl hm hs hr h =>
 rename_i rs
 subst hs
 have : ∀ r ∈ rs,∃ a : Ev,r = a.row ∧ EvIn a := fun r hr' => by
  obtain ⟨x0,q,rfl,h0,hq⟩ := HasL.cons_inv ⟨hr r hr',h r hr'⟩
  obtain ⟨x1,q,rfl,h1,hq⟩ := hq.cons_inv
  obtain ⟨x2,q,rfl,h2,hq⟩ := hq.cons_inv
  obtain ⟨x3,q,rfl,h3,hq⟩ := hq.cons_inv
  obtain ⟨x4,q,rfl,h4,hq⟩ := hq.cons_inv
  obtain ⟨x5,q,rfl,h5,hq⟩ := hq.cons_inv
  obtain ⟨x6,q,rfl,h6,hq⟩ := hq.cons_inv
  obtain ⟨x7,q,rfl,h7,hq⟩ := hq.cons_inv
  have := hq.nil_inv
  subst this
  cases h0 with | int =>
  cases h1 with | str h1 =>
  cases h2 with | str h2 =>
  cases h3 with | int hw3 =>
  cases h4 with | int =>
  cases h5 with | int =>
  cases h6 with | str h6 =>
  obtain ⟨b,rfl,hb⟩ := locs_ofD h7
  refine ⟨⟨_,_,_,_,_,_,_,b⟩,rfl,?_,hb,?_⟩
  ·have : bigB = 9000000000 := rfl
   dsimp only
   omega
  ·simp only [Lit.wf,Bool.and_eq_true,decide_eq_true_eq] at hw3
   exact hw3.2
 obtain ⟨l,rfl,hl2⟩ := rows_ofP this
 refine ⟨l,rfl,?_,hl2⟩
 rw [List.length_map] at hl
 have : bigB = 9000000000 := rfl
 omega
abbrev shBks : Sh := .sl 56 [.str,.int .i64,.str,.str]
theorem str_of {x : V} (h : HasSh .str x) : ∃ s : ByteArray,x = .str s ∧ s.size ≤ 9000000000 := by
 cases h with | str h =>
 have : bigB = 9000000000 := rfl
 exact ⟨_,rfl,by omega⟩
abbrev shStrs : Sh := .sl 16 [.str]
theorem shStrs_eq : shT tt 6 23 = some [shStrs] := by rfl
theorem strs_of {x : V} (h : HasSh shStrs x) : ∃ l : List ByteArray,x = .sl 1 (strs l) ∧ l.length ≤ 9000000000 ∧ ∀ s ∈ l,s.size ≤ 9000000000 := by
 cases h with | sl hl hm hs hr h =>
 rename_i rs
 subst hs
 have : ∀ r ∈ rs,∃ a : ByteArray,r = [V.str a] ∧ a.size ≤ 9000000000 := fun r hr' => by
  obtain ⟨x0,q,rfl,h0,hq⟩ := HasL.cons_inv ⟨hr r hr',h r hr'⟩
  have := hq.nil_inv
  subst this
  obtain ⟨s,rfl,hs⟩ := str_of h0
  exact ⟨s,rfl,hs⟩
 obtain ⟨l,rfl,hl2⟩ := rows_ofP this
 refine ⟨l,rfl,?_,hl2⟩
 rw [List.length_map] at hl
 have : bigB = 9000000000 := rfl
 omega
end Go.Proofs.YtabmcfnefjipbaaGreatDoor
namespace Go.Proofs.YtabmcfnefjipbaaGreatDoor
open Go.ChangeShapes Go.WideShapes Go.ChangeAt Go.Deep Go.RowKit
theorem star_E : "*" ++ "errors.errorString" = "*errors.errorString" := by decide
theorem row_E (u : TypeId) (h : Tryz.prog.typeName? 3 u = some "*errors.errorString") : u = 242 :=
 typeName_ptr_named (nm := "errors.errorString") (by rw [star_E]; kernel_rfl) (by kernel_rfl) (by decide) u (by rw [star_E]; exact h)
theorem errs_ofD {W : World} (h : laidMetH Tryz.prog laidDL W) : (∃ tp p, W.var? Tryz.prog "strconv.ErrRange" = some #[.iface tp p]) ∧ (∃ tp p, W.var? Tryz.prog "strconv.ErrSyntax" = some #[.iface tp p]) := by
 have h1 : laidMet Tryz.prog laidDL W := h
 have h2 := h1.tail.tail.tail.tail
 have h3 := h2.tail
 obtain ⟨a1,s1,q1,_⟩ := laid_sentinel h2 (g := 3) (ti := 137) (tp := 242) (te := 244) (ts := 9) (by kernel_rfl) (by kernel_rfl) Tryz.underlying137 row_E Tryz.underlying242 Tryz.underlying244 rfl rfl Tryz.underlying9 (by kernel_rfl) (by kernel_rfl)
 obtain ⟨a2,s2,q2,_⟩ := laid_sentinel h3 (g := 2) (ti := 137) (tp := 242) (te := 244) (ts := 9) (by kernel_rfl) (by kernel_rfl) Tryz.underlying137 row_E Tryz.underlying242 Tryz.underlying244 rfl rfl Tryz.underlying9 (by kernel_rfl) (by kernel_rfl)
 exact ⟨⟨_,_,q1⟩,⟨_,_,q2⟩⟩
theorem errAt_of {W : World} {nm : String} (h : ∃ tp p,W.var? Tryz.prog nm = some #[.iface tp p]) : ErrAt ⟨fg0 W,W⟩ nm := by
 obtain ⟨tp,p,hv⟩ := h
 have h0 := hv
 unfold World.var? at h0
 cases hg : Tryz.prog.globalNamed nm with
 | none => rw [hg] at h0;cases h0
 | some g =>
  rw [hg] at h0
  simp only [Option.bind_some] at h0
  have hlt : g < W.heap.size := by
   rcases Nat.lt_or_ge g W.heap.size with h' | h'
   ·exact h'
   ·rw [Array.getElem?_eq_none h'] at h0;cases h0
  exact ⟨g,hg,hlt,tp,p,hv⟩
theorem calls_of_ATE {f : FuncId} {ss : List SV} {vs : List Value} {W : World} (h : ∀ zt, TabE zt → CallsA Tryz.prog f ss [(907, tbOb zt)] (Iso (db true) [(907, tbOb zt)])) (ht : Lib.TabIs Tryz.prog W "internal/strconv.uint64pow10" .u64 Lib.pow10Tab) (hE : (∃ tp p, W.var? Tryz.prog "strconv.ErrRange" = some #[.iface tp p]) ∧ (∃ tp p, W.var? Tryz.prog "strconv.ErrSyntax" = some #[.iface tp p])) (hv : ArgsAt rho0 (fg0 W) W ss vs) : Calls Tryz.prog f vs.toArray W fun e W' => e = .returned (.bool true) ∧ Below W.heap.size W W' := by
 have hg : Tryz.prog.globalNamed "internal/strconv.uint64pow10" = some 1 := by kernel_rfl
 have hlt : 1 < W.heap.size := by
  have h0 := ht
  unfold Lib.TabIs World.var? at h0
  rw [hg] at h0
  simp only [Option.bind_some] at h0
  rcases Nat.lt_or_ge 1 W.heap.size with h' | h'
  ·exact h'
  ·rw [Array.getElem?_eq_none h'] at h0;cases h0
 refine ((h ⟨fg0 W,W⟩ ⟨⟨⟨_,hg,hlt,ht⟩⟩,errAt_of hE.2,errAt_of hE.1⟩).out ⟨(· < W.heap.size),W,fg0 W⟩ rho0 [] vs W (Hp.init W) hv.1 ⟨fun _ h => h,Same.refl _ _,fun _ h => h,fun _ h => .inl h,.refl _,fun k s hk => ?_,⟨[],[],rfl,⟨rfl,.refl,.nil⟩,rfl⟩⟩).mono ?_
 ·obtain ⟨h1,h2⟩ := lk_slT hk
  have hlt : k - 0 < vs.length := by rw [hv.1];exact (List.getElem?_eq_some_iff.1 h2).1
  exact ⟨vs[k - 0],lk_slots h1 (List.getElem?_eq_getElem hlt),hv.2.1 _ s _ h2 (List.getElem?_eq_getElem hlt)⟩
 ·rintro e w' ⟨v,h',s,ob',ρ',G',rfl,hw',g',rfl,rfl⟩
  obtain ⟨u,u1,u2⟩ := g'.tm 0 _ rfl
  simp only [lk,Nat.beq_refl,cond_true,Option.some.injEq] at u1
  subst u1
  cases u2 with | d u2 => cases u2 with | u u2 => cases u2 with | bool =>
  exact ⟨rfl,(g'.fw.trans (hw'.same.mono g'.fF)).below⟩
end Go.Proofs.YtabmcfnefjipbaaGreatDoor
