/-
  Part 12 of the proofs of costs_holds, lines_holds, adds_holds, ladds_holds: laws and contracts that they need.
-/
import Derived.Test.YtabmcfnefjipbaaDoorQ11
import Derived.Deep.DeepHandedRow
import Derived.Stop.LaidErr
import Derived.LaidLaws
import Derived.Test.YtabmcfnefjipbaaDoorChecked
set_option linter.unusedVariables false
set_option linter.unusedSimpArgs false
namespace Go.Proofs.YtabmcfnefjipbaaDoor
open Go.ChangeShapes Go.WideShapes Go.Deep Go.RowKit
/-- What a cell of an argument is. -/
inductive Sh where
  | int (k : IntKind)
  | bool
  | str
  | sl (by_ : Nat) (e : List Sh)
abbrev bigB : Nat := 9000000000
inductive HasSh : Sh → V → Prop
  | int {k : IntKind} {n : Int} (h : (Lit.int k n).wf = true) : HasSh (.int k) (.int k n)
  | bool {b : Bool} : HasSh .bool (.bool b)
  | str {s : ByteArray} (h : s.size ≤ bigB) : HasSh .str (.str s)
  | sl {by_ sz : Nat} {e : List Sh} {rs : List (List V)} (hl : rs.length * by_ ≤ bigB) (hm : rs.length ≤ maxLen) (hs : sz = e.length) (hr : ∀ r ∈ rs, r.length = sz) (h : ∀ r ∈ rs, ∀ (j : Nat) s x, e[j]? = some s → r[j]? = some x → HasSh s x) : HasSh (.sl by_ e) (.sl sz rs)
/-- Cells. -/
structure HasL (e : List Sh) (r : List V) : Prop where
  len : r.length = e.length
  has : ∀ (j : Nat) s x, e[j]? = some s → r[j]? = some x → HasSh s x
theorem HasL.nil : HasL [] [] := ⟨rfl, fun _ _ _ h => by simp at h⟩
theorem HasL.app {e f : List Sh} {r q : List V} (h : HasL e r) (k : HasL f q) : HasL (e ++ f) (r ++ q) := ⟨by simp [h.len, k.len], fun j s x h1 h2 => by
  by_cases hj : j < e.length
  · rw [List.getElem?_append_left hj] at h1
    rw [List.getElem?_append_left (by rw [h.len]; exact hj)] at h2
    exact h.has j s x h1 h2
  · rw [List.getElem?_append_right (by omega)] at h1
    rw [List.getElem?_append_right (by rw [h.len]; omega), h.len] at h2
    exact k.has _ s x h1 h2⟩
theorem HasL.one {s : Sh} {x : V} (h : HasSh s x) : HasL [s] [x] := ⟨rfl, fun j a b h1 h2 => by
  cases j with
  | zero => simp at h1 h2; subst h1 h2; exact h
  | succ j => simp at h1⟩
theorem HasL.cons_inv {s : Sh} {e : List Sh} {r : List V} (h : HasL (s :: e) r) : ∃ x q, r = x :: q ∧ HasSh s x ∧ HasL e q := by
  cases r with
  | nil => have := h.len; simp at this
  | cons x q => exact ⟨x, q, rfl, h.has 0 s x rfl rfl, by have := h.len; simpa using this, fun j a b h1 h2 => h.has (j + 1) a b (by simpa using h1) (by simpa using h2)⟩
theorem HasL.nil_inv {r : List V} (h : HasL [] r) : r = [] := List.eq_nil_of_length_eq_zero h.len
def shFs (g : Nat → Option (List Sh)) : List (Nat × TypeId) → Nat → Option (List Sh)
  | [], _ => some []
  | (off, t) :: r, o => bif Nat.beq off o then match g t with
      | none => none
      | some l => match shFs g r (o + l.length) with
        | none => none
        | some m => some (l ++ m)
    else none
/-- The shape of a type. -/
def shT (T : List (Nat × Ty)) : Nat → Nat → Option (List Sh)
  | 0, _ => none
  | f + 1, t => match lk t T with
    | none => none
    | some i => match i.k with
      | .in_ k => bif Nat.beq i.size 1 then some [.int k] else none
      | .bo => bif Nat.beq i.size 1 then some [.bool] else none
      | .sr => bif Nat.beq i.size 1 then some [.str] else none
      | .sl e => match lk e T with
        | none => none
        | some j => match shT T f e with
          | none => none
          | some l => bif Nat.beq l.length j.size && (Nat.blt 0 j.size && Nat.beq i.size 1) then some [.sl j.bytes l] else none
      | .st fs => match shFs (shT T f) fs 0 with
        | none => none
        | some l => bif Nat.beq l.length i.size then some l else none
      | _ => none
section
variable {H : Type} {enc : TypeId × Value → H} {P : Program} {T : List (Nat × Ty)} [hT : Tys P T] {w : World} {base : Nat} {spare : Nat → Bool} {held : Bool}
abbrev zW (w : World) : Fz := ⟨⟨fun b => b < w.heap.size, fun _ => [], fun _ => True⟩, w⟩
omit hT in
theorem weightsAll_mem {e : TypeId} : ∀ {ds : List (DataW H)} {d : DataW H}, d ∈ ds → ∀ m ∈ d.weights P e, m ∈ DataW.weightsAll P e ds
  | x :: r, d, h, m, hm => by
    simp only [DataW.weightsAll, List.mem_append]
    rcases List.mem_cons.1 h with rfl | h
    · exact .inl hm
    · exact .inr (weightsAll_mem h m hm)
/-- What a cell reader of type t tells. -/
def Opn (enc : TypeId × Value → H) (P : Program) (w : World) (base : Nat) (spare : Nat → Bool) (held : Bool) (t : TypeId) (sh : List Sh) : Prop :=
  ∀ (n : Nat) (cs : List Value) (y : DataW H × List MemPlace), DataW.trod enc P w base spare held n t cs = some y → (∀ m ∈ y.1.weights P t, m ≤ bigB) → ∃ xs : List V, HasL sh xs ∧ DenVL (zW w) xs cs
theorem opn_slice {t e : TypeId} {l : List Sh} {i j : Ty} (ht : lk t T = some i) (hi : i.k = .sl e) (hj : lk e T = some j) (hl : l.length = j.size) (hp : 0 < j.size) (ih : Opn enc P w base spare held e l) : Opn enc P w base spare held t [.sl j.bytes l] := by
  intro n cs y h hw
  have ku := (hT.ok t i ht).kind
  rw [hi] at ku
  have ku : P.underlying t = some (.slice e) := ku
  obtain ⟨f, z, q1, q2, q3, _⟩ := (hT.ok e j hj).info
  have hC : P.cellsOf e = j.size := by simp [Program.cellsOf, q1, q2]
  have hBy : P.bytesOf e = j.bytes := by simp [Program.bytesOf, q1, q3]
  rcases open_slice ku h with ⟨rfl, rfl⟩ | ⟨a, len, cap, k, n', D, Pl, rfl, hb, hlc, hmx, hk, hx, hcell⟩
  · exact ⟨[.sl j.size []], .one (.sl (by simp) (by simp) (by rw [hl]) (by simp) (by simp)), ⟨rfl, rfl, fun m d u e1 e2 => by
      cases m with
      | zero => simp at e1 e2; subst e1 e2; exact .sl (b := 0) (o := 0) [] rfl (Nat.le_refl _) (Nat.zero_le _) (by simp) (fun h => absurd rfl h) rfl (by simp) rfl (by simp)
      | succ m => simp at e1⟩⟩
  · have hlk : len ≤ k := by rw [hk]; split <;> omega
    have hwt : (((List.range len).map D).length + ((List.range (k - len)).map fun j => D (len + j)).length) * P.bytesOf e ≤ bigB := hw _ (by rw [hx]; exact weights_slice ku)
    have hwe : ∀ i, i < len → ∀ m ∈ (D i).weights P e, m ≤ bigB := fun i hi m hm => hw m (by
      rw [hx]
      simp only [DataW.weights, ku, List.mem_cons, List.mem_append]
      exact .inr (.inl (weightsAll_mem (List.mem_map.2 ⟨i, List.mem_range.2 hi, rfl⟩) m hm)))
    have hE : ∀ i, i < len → ∃ (xs : List V) (cs : List Value), HasL l xs ∧ DenVL (zW w) xs cs ∧ ∀ m, m < j.size → w.cell? (a.add (i * j.size + m)) = cs[m]? := by
      intro i hil
      obtain ⟨cs', hc, ht'⟩ := hcell i (by omega)
      obtain ⟨xs, h1, h2⟩ := ih _ _ _ ht' (hwe i hil)
      rw [hC] at hc
      obtain ⟨_, hcl, hat⟩ := World.cells?_some hc
      exact ⟨xs, cs', h1, h2, fun m hm => by rw [← add_of_add]; exact hat m hm⟩
    have hL : ∀ k, k ≤ len → ∃ (rs : List (List V)) (us : List Value), rs.length = k ∧ (∀ r ∈ rs, HasL l r) ∧ DenVL (zW w) rs.flatten us ∧ us.length = k * j.size ∧ ∀ m u, us[m]? = some u → w.cell? (a.add m) = some u := by
      intro k
      induction k with
      | zero => intro _; exact ⟨[], [], rfl, by simp, .nil, by simp, by simp⟩
      | succ k ihk =>
        intro hk
        obtain ⟨rs, us, h1, h2, h3, h4, h5⟩ := ihk (by omega)
        obtain ⟨xs, cs, g1, g2, g3⟩ := hE k (by omega)
        have gl : cs.length = j.size := by rw [g2.len, g1.len, hl]
        refine ⟨rs ++ [xs], us ++ cs, by simp [h1], fun r hr => ?_, by rw [List.flatten_append]; simpa using h3.app g2, by rw [List.length_append, h4, gl, Nat.add_mul, Nat.one_mul], fun m u hu => ?_⟩
        · rcases List.mem_append.1 hr with hr | hr
          · exact h2 r hr
          · rw [List.mem_singleton.1 hr]; exact g1
        · by_cases hm : m < k * j.size
          · rw [List.getElem?_append_left (by omega)] at hu
            exact h5 m u hu
          · rw [List.getElem?_append_right (by omega), h4] at hu
            have hlt : m - k * j.size < j.size := by have := (List.getElem?_eq_some_iff.1 hu).1; omega
            have := g3 _ hlt
            rw [show k * j.size + (m - k * j.size) = m by omega] at this
            rw [this, hu]
    obtain ⟨rs, us, h1, h2, h3, h4, h5⟩ := hL len (Nat.le_refl _)
    have hlen : len * j.bytes ≤ bigB := by
      simp only [List.length_map, List.length_range, hBy] at hwt
      exact Nat.le_trans (Nat.mul_le_mul_right _ (Nat.le_add_right _ _)) hwt
    have hr : ∀ r ∈ rs, r.length = j.size := fun r hr => by rw [(h2 r hr).len, hl]
    refine ⟨[.sl j.size rs], .one (.sl (by rw [h1]; exact hlen) (by omega) hl.symm hr (fun r hr => (h2 r hr).has)), ⟨rfl, rfl, fun m d u e1 e2 => ?_⟩⟩
    cases m with
    | succ m => simp at e1
    | zero =>
      simp at e1 e2
      subst e1 e2
      by_cases hrs : rs = []
      · subst hrs
        have : len = 0 := by simpa using h1.symm
        subst this
        exact .sl (b := 0) (o := 0) [] rfl (Nat.zero_le _) (Nat.zero_le _) hr (fun h => absurd rfl h) rfl (by simp) rfl (by simp)
      · have hus : 0 < us.length := by
          rw [h4]
          have : 0 < len := by rw [← h1]; exact List.length_pos_iff.2 hrs
          exact Nat.mul_pos this hp
        obtain ⟨b, off, spot⟩ := a
        have hc0 := h5 0 _ (List.getElem?_eq_getElem hus)
        have hspot : spot = none := by simpa [Addr.add] using World.cell?_spot hc0
        subst hspot
        have hlt := cell_lt hc0
        refine .sl (b := b) (o := off) us h1 hlc (by omega) hr (fun _ => ⟨rfl, by simpa [block_of_add] using hlt⟩) h3.len (fun m u hu => ?_) h3.one h3.den
        have := h5 m u hu
        rwa [add_plain] at this
theorem opn_struct {t : TypeId} {g : Nat → Option (List Sh)} {fs : List (Nat × TypeId)} {sh : List Sh} {i : Ty} (ht : lk t T = some i) (hi : i.k = .st fs) (hs : shFs g fs 0 = some sh) (hl : sh.length = i.size) (ih : ∀ u l, g u = some l → Opn enc P w base spare held u l) (hg : ∀ u l, g u = some l → P.cellsOf u = l.length) : Opn enc P w base spare held t sh := by
  intro n cs y h hw
  have ku := (hT.ok t i ht).kind
  rw [hi] at ku
  obtain ⟨fields, k1, k2⟩ := ku
  obtain ⟨f, z, q1, q2, _⟩ := (hT.ok t i ht).info
  have hC : P.cellsOf t = i.size := by simp [Program.cellsOf, q1, q2]
  obtain ⟨xs, n', _, rfl, hcl, hxl, hf⟩ := DataW.trod_struct k1 h
  rw [hC] at hcl
  have hwf : ∀ (m : Nat) (fd : Field) (x : DataW H × List MemPlace), fields[m]? = some fd → xs[m]? = some x → ∀ q ∈ x.1.weights P fd.type, q ≤ bigB := fun m fd x e1 e2 q hq => hw q (weights_field (j := m) k1 (by rw [List.getElem?_map, Array.getElem?_toList, e1]; rfl) (by rw [List.getElem?_map, e2]; rfl) hq)
  have key : ∀ (l : List (Nat × TypeId)) (m o : Nat) (sh : List Sh), (∀ (q : Nat) p, l[q]? = some p → fs[m + q]? = some p) → shFs g l o = some sh → ∃ vs : List V, HasL sh vs ∧ ((o + sh.length ≤ cs.length) → DenVL (zW w) vs ((cs.drop o).take sh.length)) := by
    intro l
    induction l with
    | nil => intro m o sh _ hs; simp [shFs] at hs; subst hs; exact ⟨[], .nil, fun _ => by simpa using DenVL.nil⟩
    | cons p r ihl =>
      intro m o sh hp hs
      obtain ⟨off, u⟩ := p
      simp only [shFs] at hs
      cases hb : Nat.beq off o <;> rw [hb] at hs
      · cases hs
      · simp only [cond_true] at hs
        have := Nat.eq_of_beq_eq_true hb
        subst this
        cases hgu : g u with
        | none => simp only [hgu] at hs; cases hs
        | some l1 =>
          simp only [hgu] at hs
          cases hr : shFs g r (off + l1.length) with
          | none => simp only [hr] at hs; cases hs
          | some l2 =>
            simp only [hr] at hs
            injection hs with hs
            subst hs
            obtain ⟨vs, v1, v2⟩ := ihl (m + 1) _ l2 (fun q p hq => by have := hp (q + 1) p (by simpa using hq); rwa [show m + (q + 1) = m + 1 + q by omega] at this) hr
            have hfs := hp 0 (off, u) rfl
            rw [Nat.add_zero, ← k2, List.getElem?_map] at hfs
            cases hfd : fields.toList[m]? with
            | none => rw [hfd] at hfs; cases hfs
            | some fd =>
              rw [hfd] at hfs
              simp only [Option.map_some, Option.some.injEq, Prod.mk.injEq] at hfs
              obtain ⟨e1, e2⟩ := hfs
              rw [Array.getElem?_toList] at hfd
              have hrd := hf m fd hfd
              rw [e1, e2, hg u l1 hgu] at hrd
              have hmx : m < xs.length := by rw [hxl]; exact (Array.getElem?_eq_some_iff.1 hfd).1
              have hxm := List.getElem?_eq_getElem hmx
              rw [hxm] at hrd
              have hww := hwf m fd _ hfd hxm
              rw [e2] at hww
              obtain ⟨ws, w1, w2⟩ := ih u l1 hgu _ _ _ hrd hww
              refine ⟨ws ++ vs, w1.app v1, fun ho => ?_⟩
              simp only [List.length_append] at ho
              have h2 := v2 (by omega)
              have hsp : (cs.drop off).take (l1 ++ l2).length = (cs.drop off).take l1.length ++ (cs.drop (off + l1.length)).take l2.length := by
                rw [List.length_append, List.take_add, List.drop_drop]
              rw [hsp]
              exact w2.app h2
  obtain ⟨vs, v1, v2⟩ := key fs 0 0 sh (fun q p h => by rwa [Nat.zero_add]) hs
  refine ⟨vs, v1, ?_⟩
  have := v2 (by omega)
  rwa [List.drop_zero, List.take_of_length_le (by omega)] at this
omit hT in
theorem den_one {x : V} {v : Value} (h : DenV (zW w) x v) : DenVL (zW w) [x] [v] := ⟨rfl, by simp [h.one], fun m d u e1 e2 => by
  cases m with
  | zero => simp at e1 e2; subst e1 e2; exact h
  | succ m => simp at e1⟩
theorem shT_cells : ∀ {f t : Nat} {sh : List Sh}, shT T f t = some sh → P.cellsOf t = sh.length
  | 0, t, sh, h => by cases h
  | f + 1, t, sh, h => by
    simp only [shT] at h
    cases ht : lk t T with
    | none => rw [ht] at h; cases h
    | some i =>
      rw [ht] at h
      simp only at h
      obtain ⟨q, z, q1, q2, _⟩ := (hT.ok t i ht).info
      have hC : P.cellsOf t = i.size := by simp [Program.cellsOf, q1, q2]
      rw [hC]
      split at h
      · cases hb : Nat.beq i.size 1 <;> rw [hb] at h
        · cases h
        · injection h with h; subst h; exact Nat.eq_of_beq_eq_true hb
      · cases hb : Nat.beq i.size 1 <;> rw [hb] at h
        · cases h
        · injection h with h; subst h; exact Nat.eq_of_beq_eq_true hb
      · cases hb : Nat.beq i.size 1 <;> rw [hb] at h
        · cases h
        · injection h with h; subst h; exact Nat.eq_of_beq_eq_true hb
      · rename_i e hk
        split at h
        · cases h
        · rename_i j hj
          split at h
          · cases h
          · rename_i l hl
            cases hb : (Nat.beq l.length j.size && (Nat.blt 0 j.size && Nat.beq i.size 1)) <;> rw [hb] at h
            · cases h
            · injection h with h; subst h
              simp only [Bool.and_eq_true] at hb
              exact Nat.eq_of_beq_eq_true hb.2.2
      · split at h
        · cases h
        · rename_i l hl
          cases hb : Nat.beq l.length i.size <;> rw [hb] at h
          · cases h
          · injection h with h; subst h; exact (Nat.eq_of_beq_eq_true hb).symm
      · cases h
/-- An argument of a readable type is a tree of its shape. -/
theorem opn : ∀ {f t : Nat} {sh : List Sh}, shT T f t = some sh → Opn enc P w base spare held t sh
  | 0, t, sh, h => by cases h
  | f + 1, t, sh, h => by
    simp only [shT] at h
    cases ht : lk t T with
    | none => rw [ht] at h; cases h
    | some i =>
      rw [ht] at h
      simp only at h
      split at h
      · rename_i k hk
        cases hb : Nat.beq i.size 1 <;> rw [hb] at h
        · cases h
        · injection h with h; subst h
          have ku := (hT.ok t i ht).kind
          rw [hk] at ku
          have ku : P.underlying t = some (.int k) := ku
          intro n cs y hy _
          obtain ⟨z, rfl, _, hz⟩ := DataW.trod_int ku hy
          exact ⟨[.int k z], .one (.int hz), den_one (.int _ _)⟩
      · rename_i hk
        cases hb : Nat.beq i.size 1 <;> rw [hb] at h
        · cases h
        · injection h with h; subst h
          have ku := (hT.ok t i ht).kind
          rw [hk] at ku
          have ku : P.underlying t = some .bool := ku
          intro n cs y hy _
          obtain ⟨z, rfl, _⟩ := DataW.trod_bool ku hy
          exact ⟨[.bool z], .one .bool, den_one (.bool _)⟩
      · rename_i hk
        cases hb : Nat.beq i.size 1 <;> rw [hb] at h
        · cases h
        · injection h with h; subst h
          have ku := (hT.ok t i ht).kind
          rw [hk] at ku
          have ku : P.underlying t = some .string := ku
          intro n cs y hy hw
          obtain ⟨z, rfl, rfl, hz⟩ := DataW.trod_string ku hy
          have := hw z.data.toList.length (show _ ∈ [z.data.toList.length] from List.mem_singleton.2 rfl)
          have e : z.data.toList.length = z.size := Array.length_toList
          rw [e] at this
          exact ⟨[.str z], .one (.str this), den_one (.str _ hz)⟩
      · rename_i e hk
        split at h
        · cases h
        · rename_i j hj
          split at h
          · cases h
          · rename_i l hl
            cases hb : (Nat.beq l.length j.size && (Nat.blt 0 j.size && Nat.beq i.size 1)) <;> rw [hb] at h
            · cases h
            · injection h with h; subst h
              simp only [Bool.and_eq_true] at hb
              exact opn_slice ht hk hj (Nat.eq_of_beq_eq_true hb.1) (by simpa [Nat.blt_eq] using hb.2.1) (opn hl)
      · rename_i fs hk
        split at h
        · cases h
        · rename_i l hl
          cases hb : Nat.beq l.length i.size <;> rw [hb] at h
          · cases h
          · injection h with h; subst h
            exact opn_struct ht hk hl (Nat.eq_of_beq_eq_true hb) (fun u l hu => opn hu) (fun u l hu => shT_cells hu)
      · cases h
/-- An argument of one cell. -/
theorem arg_open {f t : Nat} {s : Sh} {v : Value} {d : DataW H} {p : List MemPlace} (hs : shT T f t = some [s]) (h : DataW.Trod enc P w base spare held t v d p) (hz : ∀ n ∈ d.weights P t, n ≤ bigB) (hv : v.cells = #[v]) : ∃ x, HasSh s x ∧ ∀ ρ, DenS ρ (zW w) (.d (.u x)) v := by
  obtain ⟨n, hn⟩ := h
  rw [hv] at hn
  obtain ⟨xs, h1, h2⟩ := opn hs n _ _ hn hz
  obtain ⟨x, q, rfl, h3, h4⟩ := h1.cons_inv
  have := h4.nil_inv
  subst this
  exact ⟨x, h3, fun ρ => .d (.u (h2.den 0 x v rfl rfl))⟩
end
end Go.Proofs.YtabmcfnefjipbaaDoor
namespace Go.Proofs.YtabmcfnefjipbaaDoor
open Go.ChangeShapes Go.WideShapes Go.ChangeAt Go.RowKit
theorem law_liftedL {C : Checked} {os : Os} {f : FuncId} {fn : Func} {s : ChangeSpec} {tb : TypeId} {apart fresh : Bool} {conds : List PathCond} {laid : List (String × DataW Unit)} (started : os.Started) (H : Type) (enc : TypeId × Value → H) (F : Stop.Interp)
    (own : ownKnob C.prog.godebug = none) (noInit : C.prog.inits.idxOf? f = none) (hfn : C.prog.funcs[f]? = some fn)
    (witness : ∃ (w : World) (tape : Tape) (i : Input), w.os = os ∧ (w.forCall tape i).Shaped C.prog ∧ i.vars = [] ∧ Input.okWide C.prog (w.forCall tape i) .any w.heap.size f i ∧
      (Rows.OpenSpec.upto s).preRow enc C.prog fn conds apart laid (w.forCall tape i).memory i.args ∧ ({} : Assume).holds C.prog (lone (Frame.enter C.prog f i.args .normal) [] (w.forCall tape i)))
    (hl : laidOutB C.prog = true) (hT : paramsRead C.prog fn = true) (hres : fn.resultTypes = #[tb]) (htb : C.prog.underlying tb = some .bool) (hvars : s.vars = [])
    (hsp : ∀ ds : List (DataW H), ds.length = fn.params.size → s.fn H ds = { results := [.lit (.bool true)], args := ds })
    (walk : ∀ (W : World) (base : Nat) (args : Array Value) (ds : List (DataW H)) (p : List MemPlace),
      (∀ (j : Nat) t v, fn.params[j]? = some t → args[j]? = some v → Value.okWide C.prog W .any base t v) →
      DataW.TrodAll enc C.prog W 0 (fun _ => true) true fn.params.toList args.toList ds p → (∀ x ∈ p, x.block < W.heap.size) →
      Rows.uptoBulkAll ds ≤ 1048576 → laidMetH C.prog laid W →
      Calls C.prog f args W fun e W' => e = .returned (.bool true) ∧ Below W.heap.size W W') :
    ReturnsInHanded {} C os f .any ((Rows.OpenSpec.upto s).preRow enc C.prog fn conds apart laid) (((Rows.OpenSpec.upto s).at F).post enc C.prog fn apart fresh false false) := by
  refine returnsInHanded_of_row (s := Rows.OpenSpec.upto s) own started noInit hfn witness ?_
  intro W base args ds gs before hval hW0 _ hk _ hL _ _
  have hW : DataW.Whole enc C.prog fn.params.toList s.vars apart W args.toList ds gs before := hW0
  have hgs : gs = [] := by
    obtain ⟨p, q, hA, hV, he, _, _⟩ := hW
    rw [hvars] at hV
    exact (trodVars_none hV).1
  subst hgs
  have hlen : ds.length = fn.params.size := by
    obtain ⟨p, q, hA, _⟩ := hW
    have hlt : ∀ {ts : List TypeId} {vs : List Value} {ds : List (DataW H)} {ps : List MemPlace}, DataW.TrodAll enc C.prog W 0 (fun _ => true) true ts vs ds ps → ds.length = ts.length := by
      intro ts
      induction ts with
      | nil => intro vs ds ps h; cases vs <;> cases ds <;> first | rfl | exact h.elim
      | cons t ts ih =>
        intro vs ds ps h
        cases vs with
        | nil => exact h.elim
        | cons v vs =>
          cases ds with
          | nil => exact h.elim
          | cons d ds =>
            obtain ⟨p, q, _, h2, _⟩ := h
            simp [ih h2]
    simpa using hlt hA
  have hb := of_decide_eq_true (hk _ rfl)
  rw [List.append_nil] at hb
  have hlt := hW.lt
  have hp : ∃ p, DataW.TrodAll enc C.prog W 0 (fun _ => true) true fn.params.toList args.toList ds p ∧ ∀ x ∈ p, x.block < W.heap.size := by
    obtain ⟨p, q, hA, hV, he, _, _⟩ := hW
    exact ⟨p, hA, fun x hx => hlt x (by rw [he]; exact List.mem_append_left _ hx)⟩
  obtain ⟨p, hA, hpl⟩ := hp
  refine (walk W base args ds p hval hA hpl hb hL).mono fun e W' ⟨he, hb⟩ => ?_
  exact ⟨_, he, post_of_below hl hT hres htb hvars (hsp ds hlen) hW hb⟩
theorem laid_out : laidOutB Tryd.prog = true := by kernel_rfl
theorem own_knob : ownKnob Tryd.prog.godebug = none := by kernel_rfl
theorem closed_T : closedT Tryd.prog = true := by kernel_rfl
mutual
def cellsD : DataW Unit → List Value
  | .lit (.int k n) => [.int k n]
  | .agg ps => cellsDs ps
  | _ => []
def cellsDs : List (DataW Unit) → List Value
  | [] => []
  | d :: r => cellsD d ++ cellsDs r
end
def setCs (cs : List Value) : Obj → Obj
  | .cells _ t frozen => .cells cs.toArray t frozen
  | o => o
noncomputable def laidWorld (os : Os) : World :=
  { World.holding Tryd.prog os ⟨#[], #[], []⟩ with heap := (((((World.holding Tryd.prog os ⟨#[], #[], []⟩).heap.modify 2 (setCs (cellsD Rows.laid_unicode_utf8_first))).modify 3 (setCs (cellsD Rows.laid_unicode_utf8_acceptRanges))).modify 1 (setCs (cellsD Rows.laid_internal_strconv_uint64pow10))).modify 4 (setCs (cellsD Rows.laid_math_bits_deBruijn32tab))).modify 5 (setCs (cellsD Rows.laid_math_bits_deBruijn64tab)) }
abbrev laidL : List (String × DataW Unit) := [("math/bits.deBruijn32tab", Rows.laid_math_bits_deBruijn32tab), ("math/bits.deBruijn64tab", Rows.laid_math_bits_deBruijn64tab), ("internal/strconv.uint64pow10", Rows.laid_internal_strconv_uint64pow10), ("unicode/utf8.acceptRanges", Rows.laid_unicode_utf8_acceptRanges), ("unicode/utf8.first", Rows.laid_unicode_utf8_first)]
theorem laid_met (os : Os) (args : Array Value) : laidMet Tryd.prog laidL ((laidWorld os).forCall (fun _ _ => 0) ⟨#[], args, []⟩).memory :=
  laidMet_of_run' 8 (by kernel_rfl) (by kernel_rfl)
/-- The table of powers of ten lies there. -/
theorem tab_of {W : World} (h : laidMetH Tryd.prog laidL W) : Lib.TabIs Tryd.prog W "internal/strconv.uint64pow10" .u64 Lib.pow10Tab := by
  have h1 : laidMet Tryd.prog laidL W := h
  have h2 := h1.tail.tail
  exact Lib.tabIs_of_head (rest := [("unicode/utf8.acceptRanges", Rows.laid_unicode_utf8_acceptRanges), ("unicode/utf8.first", Rows.laid_unicode_utf8_first)]) (g := 1) (t := 149) (e := 122) (n := 20) (by kernel_rfl) (by kernel_rfl) (by kernel_rfl) (by kernel_rfl) (by kernel_rfl) (by kernel_rfl) h2
section
variable {P : Program} {f : FuncId} {ss : List SV}
/-- A law's contract as its row asks it, with the tables. -/
theorem calls_of_AT {vs : List Value} {W : World} (h : ∀ zt, Tab zt → CallsA Tryd.prog f ss [(907, tbOb zt)] (Iso (db true) [(907, tbOb zt)])) (ht : Lib.TabIs Tryd.prog W "internal/strconv.uint64pow10" .u64 Lib.pow10Tab) (hv : ArgsAt rho0 (fg0 W) W ss vs) : Calls Tryd.prog f vs.toArray W fun e W' => e = .returned (.bool true) ∧ Below W.heap.size W W' := by
  have hg : Tryd.prog.globalNamed "internal/strconv.uint64pow10" = some 1 := by kernel_rfl
  have hlt : 1 < W.heap.size := by
    have h0 := ht
    unfold Lib.TabIs World.var? at h0
    rw [hg] at h0
    simp only [Option.bind_some] at h0
    rcases Nat.lt_or_ge 1 W.heap.size with h' | h'
    · exact h'
    · rw [Array.getElem?_eq_none h'] at h0; cases h0
  refine ((h ⟨fg0 W, W⟩ ⟨⟨_, hg, hlt, ht⟩⟩).out ⟨(· < W.heap.size), W, fg0 W⟩ rho0 [] vs W (Hp.init W) hv.1 ⟨fun _ h => h, Same.refl _ _, fun _ h => h, fun _ h => .inl h, .refl _, fun k s hk => ?_, ⟨[], [], rfl, ⟨rfl, .refl, .nil⟩, rfl⟩⟩).mono ?_
  · obtain ⟨h1, h2⟩ := lk_slT hk
    have hlt : k - 0 < vs.length := by rw [hv.1]; exact (List.getElem?_eq_some_iff.1 h2).1
    exact ⟨vs[k - 0], lk_slots h1 (List.getElem?_eq_getElem hlt), hv.2.1 _ s _ h2 (List.getElem?_eq_getElem hlt)⟩
  · rintro e w' ⟨v, h', s, ob', ρ', G', rfl, hw', g', rfl, rfl⟩
    obtain ⟨u, u1, u2⟩ := g'.tm 0 _ rfl
    simp only [lk, Nat.beq_refl, cond_true, Option.some.injEq] at u1
    subst u1
    cases u2 with | d u2 => cases u2 with | u u2 => cases u2 with | bool =>
    exact ⟨rfl, (g'.fw.trans (hw'.same.mono g'.fF)).below⟩
end
end Go.Proofs.YtabmcfnefjipbaaDoor
namespace Go.Proofs.YtabmcfnefjipbaaDoor
open Go.ChangeShapes Go.WideShapes Go.Deep Go.RowKit
abbrev shLocs : Sh := .sl 32 [.str, .str]
abbrev shEvs : Sh := .sl 104 [.int .i64, .str, .str, .int .i64, .int .i64, .int .i64, .str, shLocs]
theorem shEvs_eq : shT tt 6 22 = some [shEvs] := by rfl
theorem rows_ofP {α β : Type} {f : α → β} {P : α → Prop} : ∀ {rs : List β}, (∀ r ∈ rs, ∃ a, r = f a ∧ P a) → ∃ l : List α, rs = l.map f ∧ ∀ a ∈ l, P a
  | [], _ => ⟨[], rfl, fun _ h => by cases h⟩
  | r :: rs, h => by
    obtain ⟨a, rfl, ha⟩ := h r (by simp)
    obtain ⟨l, rfl, hl⟩ := rows_ofP (rs := rs) fun q hq => h q (by simp [hq])
    exact ⟨a :: l, rfl, fun b hb => by
      rcases List.mem_cons.1 hb with rfl | hb
      · exact ha
      · exact hl b hb⟩
theorem locs_of {x : V} (h : HasSh shLocs x) : ∃ l : List (ByteArray × ByteArray), x = .sl 2 (l.map locR) := by
  cases h with | sl hl hm hs hr h =>
  rename_i rs
  subst hs
  have : ∀ r ∈ rs, ∃ a : ByteArray × ByteArray, r = locR a ∧ True := fun r hr' => by
    obtain ⟨x0, q, rfl, h0, hq⟩ := HasL.cons_inv ⟨hr r hr', h r hr'⟩
    obtain ⟨x1, q, rfl, h1, hq⟩ := hq.cons_inv
    have := hq.nil_inv
    subst this
    cases h0 with | str h0 =>
    cases h1 with | str h1 =>
    exact ⟨⟨_, _⟩, rfl, trivial⟩
  obtain ⟨l, rfl, _⟩ := rows_ofP this
  exact ⟨l, rfl⟩
theorem evs_of {x : V} (h : HasSh shEvs x) : ∃ l : List Ev, x = evs l ∧ l.length ≤ 9000000000 ∧ ∀ e ∈ l, e.md.size ≤ 1000000000000 := by
  cases h with | sl hl hm hs hr h =>
  rename_i rs
  subst hs
  have : ∀ r ∈ rs, ∃ a : Ev, r = a.row ∧ a.md.size ≤ 1000000000000 := fun r hr' => by
    obtain ⟨x0, q, rfl, h0, hq⟩ := HasL.cons_inv ⟨hr r hr', h r hr'⟩
    obtain ⟨x1, q, rfl, h1, hq⟩ := hq.cons_inv
    obtain ⟨x2, q, rfl, h2, hq⟩ := hq.cons_inv
    obtain ⟨x3, q, rfl, h3, hq⟩ := hq.cons_inv
    obtain ⟨x4, q, rfl, h4, hq⟩ := hq.cons_inv
    obtain ⟨x5, q, rfl, h5, hq⟩ := hq.cons_inv
    obtain ⟨x6, q, rfl, h6, hq⟩ := hq.cons_inv
    obtain ⟨x7, q, rfl, h7, hq⟩ := hq.cons_inv
    have := hq.nil_inv
    subst this
    cases h0 with | int =>
    cases h1 with | str h1 =>
    cases h2 with | str h2 =>
    cases h3 with | int =>
    cases h4 with | int =>
    cases h5 with | int =>
    cases h6 with | str h6 =>
    obtain ⟨b, rfl⟩ := locs_of h7
    refine ⟨⟨_, _, _, _, _, _, _, b⟩, rfl, ?_⟩
    have : bigB = 9000000000 := rfl
    dsimp only
    omega
  obtain ⟨l, rfl, hl2⟩ := rows_ofP this
  refine ⟨l, rfl, ?_, hl2⟩
  rw [List.length_map] at hl
  have : bigB = 9000000000 := rfl
  omega
end Go.Proofs.YtabmcfnefjipbaaDoor
namespace Go.Proofs.YtabmcfnefjipbaaDoor
open Go.RowKit
section
variable {P : Program} {nt : Nt} {Q : Exit → Act → World → Prop} {ty : TypeId} {pos : String} {af : Array Edge} {gd : Option (Nat × Bool)} {K : Kt}
theorem Raw.strLss {d : Nat} {x y : Operand} {t u : TypeId} {a b : ByteArray} {tmT : List (Nat × SV)} {ob : List (Nat × Ob)} (hx : evT tmT x = some (.d (.u (.str a)))) (hy : evT tmT y = some (.d (.u (.str b)))) (hd : Nat.blt d nt = true) (k : K ((d, .d (.u (.bool (strLt a b)))) :: tmT) ob) : Raw P nt ⟨some d, .binOp .lss t x y u, ty, pos, af, gd⟩ tmT ob K := ⟨fun Q c tm h ρ G g => by
  obtain ⟨F, w0, hp⟩ := h
  obtain ⟨vx, x1, x2⟩ := g.ev hx
  obtain ⟨vy, y1, y2⟩ := g.ev hy
  cases x2 with | d x2 => cases x2 with | u x2 => cases x2 with | str _ hs1 =>
  cases y2 with | d y2 => cases y2 with | u y2 => cases y2 with | str _ hs2 =>
  refine .of_run hd fun a' w ha hw => ⟨.bool (strLt a b), w, _, ?_, hw, .of (Gd.put (d := d) (st := ⟨tmT, ob⟩) g (.d (.u (.bool _)))) k⟩
  simp [execOp, eqGuard, ha.ev x1, ha.ev y1, binOp_string_lss, strLt]⟩
theorem Raw.strGtr {d : Nat} {x y : Operand} {t u : TypeId} {a b : ByteArray} {tmT : List (Nat × SV)} {ob : List (Nat × Ob)} (hx : evT tmT x = some (.d (.u (.str a)))) (hy : evT tmT y = some (.d (.u (.str b)))) (hd : Nat.blt d nt = true) (k : K ((d, .d (.u (.bool (!(strLt a b || a.toList == b.toList))))) :: tmT) ob) : Raw P nt ⟨some d, .binOp .gtr t x y u, ty, pos, af, gd⟩ tmT ob K := ⟨fun Q c tm h ρ G g => by
  obtain ⟨F, w0, hp⟩ := h
  obtain ⟨vx, x1, x2⟩ := g.ev hx
  obtain ⟨vy, y1, y2⟩ := g.ev hy
  cases x2 with | d x2 => cases x2 with | u x2 => cases x2 with | str _ hs1 =>
  cases y2 with | d y2 => cases y2 with | u y2 => cases y2 with | str _ hs2 =>
  refine .of_run hd fun a' w ha hw => ⟨.bool (!(strLt a b || a.toList == b.toList)), w, _, ?_, hw, .of (Gd.put (d := d) (st := ⟨tmT, ob⟩) g (.d (.u (.bool _)))) k⟩
  simp [execOp, eqGuard, ha.ev x1, ha.ev y1, binOp_string_gtr, strLt]⟩
end
end Go.Proofs.YtabmcfnefjipbaaDoor
namespace Go.Proofs.YtabmcfnefjipbaaDoor
open Go.RowKit
abbrev lcD (c : Lc) : List D := [.u (.str c.md), .u (.int .i64 c.ln), .u (.int .i64 c.ct), .u (.int .i64 c.ow)]
/-- x stands behind c. -/
def gtL (x c : Lc) : Bool := !(strLt x.md c.md || x.md.toList == c.md.toList) || (x.md.toList == c.md.toList && decide (c.ln < x.ln))
def eqL (x c : Lc) : Bool := x.md.toList == c.md.toList && decide (x.ln = c.ln)
def mergeL (x c : Lc) : Lc := ⟨x.md, x.ln, x.ct + c.ct, x.ow + c.ow⟩
def addedM (c : Lc) : Bool → List Lc → List Lc
  | pl, [] => if pl then [] else [c]
  | pl, x :: r => if eqL x c then mergeL x c :: addedM c true r else if !pl && gtL x c then c :: x :: addedM c true r else x :: addedM c pl r
set_option maxHeartbeats 4000000 in
theorem added_R (ls : List Lc) (c : Lc) (hl : ls.length ≤ 1000000) (hb : ∀ x ∈ ls, -9223372036854775808 ≤ x.ct + c.ct ∧ x.ct + c.ct ≤ 9223372036854775807 ∧ -9223372036854775808 ≤ x.ow + c.ow ∧ x.ow + c.ow ≤ 9223372036854775807) : CallsA Tryd.prog 36 [.d (.u (.sl 4 (ls.map lcR))), .a (lcD c)] [] (Is (.d (.u (.sl 4 ((addedM c false ls).map lcR))))) := by
  refine callsA_of_vc (T := tt) Tryd.func36 rfl rfl rfl rfl rfl ?_
  repeat' ((conv => whnf); first | refine Gs.go (i := 1) (Ghost.frzB 3 rfl rfl) ?_ | refine Gs.id ?_ | fail)
  all_goals (conv => whnf)
  refine ⟨⟨Nat × Bool × List Lc, fun q => q.1 ≤ ls.length ∧ q.2.2.length ≤ 2 * q.1 ∧ addedM c false ls = q.2.2 ++ addedM c q.2.1 (ls.drop q.1), fun q => ls.length - q.1, fun q => ⟨[(0, .d (.u (.sl 4 (ls.map lcR)))), (3, .d (.q (lcR c) 0)), (5, .d (.ow 900 q.2.2.length)), (6, .d (.u (.bool q.2.1))), (7, di q.1)], [(900, .ar 40 4 (q.2.2.map lcR))]⟩, (0, false, []), ⟨Nat.zero_le _, Nat.zero_le _, rfl⟩, ⟨[(900, .n 4)], ⟨by (try dsimp only); (repeat (refine LeT.cons rfl (by first | exact LeS.d (by first | exact LeD.u rfl | exact LeD.no rfl rfl | exact LeD.q rfl | fail) | fail) ?_)); exact LeT.nil, by (try dsimp only); repeat (first | exact LeO.nil | refine LeO.no rfl rfl ?_)⟩⟩, fun q hq => ?_⟩⟩
  obtain ⟨i, pl, out⟩ := q
  obtain ⟨hi, hol, he⟩ := hq
  dsimp only at hi hol he ⊢
  rw [he]
  by_cases h9 : i < ls.length
  · rw [List.drop_eq_getElem_cons h9]
    have hg : ls[i]? = some ls[i] := List.getElem?_eq_getElem h9
    have hrow : ∀ {K : List V → Prop} {j : Int}, j = (i : Int) → K (lcR ls[i]) → Ix (ls.map lcR) j K := fun h k => by subst h; exact Ix.map rfl h9 k
    obtain ⟨b1, b2, b3, b4⟩ := hb _ (List.mem_of_getElem? hg)
    generalize ls[i] = x at *
    have hq1 : ∀ b : Bool, (x.md.toList == c.md.toList) = b → eqL x c = (b && decide (x.ln = c.ln)) := fun b h => by rw [eqL, h]
    have hq2 : ∀ b s : Bool, (x.md.toList == c.md.toList) = b → strLt x.md c.md = s → gtL x c = (!(s || b) || (b && decide (c.ln < x.ln))) := fun b s h h' => by rw [gtL, h, h']
    obtain ⟨b, hbE⟩ : ∃ b, (x.md.toList == c.md.toList) = b := ⟨_, rfl⟩
    obtain ⟨s, hsE⟩ : ∃ s, strLt x.md c.md = s := ⟨_, rfl⟩
    have hgE : (!(strLt x.md c.md || x.md.toList == c.md.toList)) = (!(s || b)) := by rw [hsE, hbE]
    have hE := hq1 b hbE
    have hG := hq2 b s hbE hsE
    clear hq1 hq2
    by_cases heq : eqL x c = true
    · rw [addedM, if_pos heq]
      rw [heq] at hE
      cases b
      · cases hE
      · have hln : x.ln = c.ln := by simpa using hE.symm
        repeat' ((conv => whnf); first | refine hrow rfl ?_ | rw [hbE] | refine Gs.id ?_ | with_reducible refine Brn.T rfl ?_ | refine Brn.T (by (try simp only [smT]); first | rfl | assumption | omega | fail) ?_ | (refine Bnd.mk (fun hm => ?_); (try simp only [smT] at hm)) | refine Rng.mk (by (try simp only [smT]); omega) ?_ | refine Apd.mk (by first | rfl | simp) (by first | rfl | fail) (by (try simp only [smT]); first | omega | fail) (by unfold maxLen; first | (simp; omega) | fail) ?_ | fail)
        all_goals (conv => whnf)
        all_goals exact ⟨(i + 1, true, out ++ [mergeL x c]), ⟨by dsimp only; omega, by simp; omega, by simp⟩, by dsimp only; omega, [(900, .k 73)], ⟨by (try dsimp only); (repeat (refine LeT.cons rfl (by first | exact LeS.d (by first | exact LeD.u rfl | exact LeD.ow rfl (by simp [mergeL]) | exact LeD.q rfl | fail) | fail) ?_)); exact LeT.nil, by (try dsimp only); repeat (first | exact LeO.nil | refine LeO.ar rfl rfl (by first | simp [mergeL]) ?_ | fail)⟩⟩
    · rw [addedM, if_neg heq]
      have heq0 : eqL x c = false := by simpa using heq
      rw [heq0] at hE
      clear heq heq0
      cases pl
      · rw [hG]
        clear hG
        cases b
        · clear hE
          cases s
          · rw [if_pos (by rfl)]
            repeat' ((conv => whnf); first | refine hrow rfl ?_ | rw [hbE] | refine Gs.id ?_ | with_reducible refine Brn.T rfl ?_ | with_reducible refine Brn.F rfl ?_ | refine Brn.T (by (try simp only [smT]); first | rfl | assumption | omega | fail) ?_ | refine Brn.F (by (try simp only [smT]); first | rfl | assumption | fail) ?_ | (refine Brn.mk (fun hb => ?_) (fun hb => ?_) <;> (try simp only [smT] at hb) <;> (try (exact absurd trivial hb)) <;> (try (exfalso; omega))) | (refine Bnd.mk (fun hm => ?_); (try simp only [smT] at hm)) | refine Rng.mk (by (try simp only [smT]); omega) ?_ | refine Apd.mk (by first | rfl | simp) (by first | rfl | fail) (by (try simp only [smT]); first | omega | fail) (by unfold maxLen; first | (simp; omega) | fail) ?_ | fail)
            all_goals (conv => whnf)
            all_goals first | (exfalso; have hsE' : Op.bytesLess x.md.toList c.md.toList = _ := hsE; rw [hsE'] at hb; simp at hb; done) | exact ⟨(i + 1, true, out ++ [c, x]), ⟨by dsimp only; omega, by simp; omega, by simp⟩, by dsimp only; omega, [(900, .k 73)], ⟨by (try dsimp only); (repeat (refine LeT.cons rfl (by first | exact LeS.d (by first | exact LeD.u rfl | exact LeD.ow rfl (by simp) | exact LeD.q rfl | fail) | fail) ?_)); exact LeT.nil, by (try dsimp only); repeat (first | exact LeO.nil | refine LeO.ar rfl rfl (by first | simp) ?_ | fail)⟩⟩
          · rw [if_neg (by simp)]
            repeat' ((conv => whnf); first | refine hrow rfl ?_ | rw [hbE] | refine Gs.id ?_ | with_reducible refine Brn.T rfl ?_ | with_reducible refine Brn.F rfl ?_ | refine Brn.T (by (try simp only [smT]); first | rfl | assumption | omega | fail) ?_ | refine Brn.F (by (try simp only [smT]); first | rfl | assumption | fail) ?_ | (refine Brn.mk (fun hb => ?_) (fun hb => ?_) <;> (try simp only [smT] at hb) <;> (try (exact absurd trivial hb)) <;> (try (exfalso; omega))) | (refine Bnd.mk (fun hm => ?_); (try simp only [smT] at hm)) | refine Rng.mk (by (try simp only [smT]); omega) ?_ | refine Apd.mk (by first | rfl | simp) (by first | rfl | fail) (by (try simp only [smT]); first | omega | fail) (by unfold maxLen; first | (simp; omega) | fail) ?_ | fail)
            all_goals (conv => whnf)
            all_goals first | (exfalso; have hsE' : Op.bytesLess x.md.toList c.md.toList = _ := hsE; rw [hsE'] at hb; simp at hb; done) | exact ⟨(i + 1, false, out ++ [x]), ⟨by dsimp only; omega, by simp; omega, by simp⟩, by dsimp only; omega, [(900, .k 73)], ⟨by (try dsimp only); (repeat (refine LeT.cons rfl (by first | exact LeS.d (by first | exact LeD.u rfl | exact LeD.ow rfl (by simp) | exact LeD.q rfl | fail) | fail) ?_)); exact LeT.nil, by (try dsimp only); repeat (first | exact LeO.nil | refine LeO.ar rfl rfl (by first | simp) ?_ | fail)⟩⟩
        · have hne : ¬ x.ln = c.ln := by simpa using hE.symm
          clear hE
          by_cases hgt : c.ln < x.ln
          · rw [if_pos (by simp [hgt])]
            repeat' ((conv => whnf); first | refine hrow rfl ?_ | rw [hbE] | refine Gs.id ?_ | with_reducible refine Brn.T rfl ?_ | refine Brn.T (by (try simp only [smT]); first | rfl | assumption | omega | fail) ?_ | refine Brn.F (by (try simp only [smT]); first | rfl | assumption | (simp [*]; done) | fail) ?_ | (refine Bnd.mk (fun hm => ?_); (try simp only [smT] at hm)) | refine Rng.mk (by (try simp only [smT]); omega) ?_ | refine Apd.mk (by first | rfl | simp) (by first | rfl | fail) (by (try simp only [smT]); first | omega | fail) (by unfold maxLen; first | (simp; omega) | fail) ?_ | fail)
            all_goals (conv => whnf)
            all_goals first | (exfalso; have hsE' : Op.bytesLess x.md.toList c.md.toList = _ := hsE; rw [hsE'] at hb; simp at hb; done) | exact ⟨(i + 1, true, out ++ [c, x]), ⟨by dsimp only; omega, by simp; omega, by simp⟩, by dsimp only; omega, [(900, .k 73)], ⟨by (try dsimp only); (repeat (refine LeT.cons rfl (by first | exact LeS.d (by first | exact LeD.u rfl | exact LeD.ow rfl (by simp) | exact LeD.q rfl | fail) | fail) ?_)); exact LeT.nil, by (try dsimp only); repeat (first | exact LeO.nil | refine LeO.ar rfl rfl (by first | simp) ?_ | fail)⟩⟩
          · rw [if_neg (by simp; omega)]
            repeat' ((conv => whnf); first | refine hrow rfl ?_ | rw [hbE] | refine Gs.id ?_ | with_reducible refine Brn.T rfl ?_ | refine Brn.T (by (try simp only [smT]); first | rfl | omega | fail) ?_ | refine Brn.F (by (try simp only [smT]); first | rfl | assumption | omega | (simp [*]; done) | fail) ?_ | (refine Bnd.mk (fun hm => ?_); (try simp only [smT] at hm)) | refine Rng.mk (by (try simp only [smT]); omega) ?_ | refine Apd.mk (by first | rfl | simp) (by first | rfl | fail) (by (try simp only [smT]); first | omega | fail) (by unfold maxLen; first | (simp; omega) | fail) ?_ | fail)
            all_goals (conv => whnf)
            all_goals first | (exfalso; have hsE' : Op.bytesLess x.md.toList c.md.toList = _ := hsE; rw [hsE'] at hb; simp at hb; done) | exact ⟨(i + 1, false, out ++ [x]), ⟨by dsimp only; omega, by simp; omega, by simp⟩, by dsimp only; omega, [(900, .k 73)], ⟨by (try dsimp only); (repeat (refine LeT.cons rfl (by first | exact LeS.d (by first | exact LeD.u rfl | exact LeD.ow rfl (by simp) | exact LeD.q rfl | fail) | fail) ?_)); exact LeT.nil, by (try dsimp only); repeat (first | exact LeO.nil | refine LeO.ar rfl rfl (by first | simp) ?_ | fail)⟩⟩
      · rw [if_neg (by simp)]
        clear hG
        cases b
        · clear hE
          repeat' ((conv => whnf); first | refine hrow rfl ?_ | rw [hbE] | refine Gs.id ?_ | with_reducible refine Brn.F rfl ?_ | refine Brn.T (by (try simp only [smT]); first | rfl | omega | fail) ?_ | (refine Bnd.mk (fun hm => ?_); (try simp only [smT] at hm)) | refine Rng.mk (by (try simp only [smT]); omega) ?_ | refine Apd.mk (by first | rfl | simp) (by first | rfl | fail) (by (try simp only [smT]); first | omega | fail) (by unfold maxLen; first | (simp; omega) | fail) ?_ | fail)
          all_goals (conv => whnf)
          all_goals exact ⟨(i + 1, true, out ++ [x]), ⟨by dsimp only; omega, by simp; omega, by simp⟩, by dsimp only; omega, [(900, .k 73)], ⟨by (try dsimp only); (repeat (refine LeT.cons rfl (by first | exact LeS.d (by first | exact LeD.u rfl | exact LeD.ow rfl (by simp) | exact LeD.q rfl | fail) | fail) ?_)); exact LeT.nil, by (try dsimp only); repeat (first | exact LeO.nil | refine LeO.ar rfl rfl (by first | simp) ?_ | fail)⟩⟩
        · have hne : ¬ x.ln = c.ln := by simpa using hE.symm
          clear hE
          repeat' ((conv => whnf); first | refine hrow rfl ?_ | rw [hbE] | refine Gs.id ?_ | with_reducible refine Brn.T rfl ?_ | with_reducible refine Brn.F rfl ?_ | refine Brn.T (by (try simp only [smT]); first | rfl | omega | fail) ?_ | refine Brn.F (by (try simp only [smT]); first | rfl | assumption | fail) ?_ | (refine Bnd.mk (fun hm => ?_); (try simp only [smT] at hm)) | refine Rng.mk (by (try simp only [smT]); omega) ?_ | refine Apd.mk (by first | rfl | simp) (by first | rfl | fail) (by (try simp only [smT]); first | omega | fail) (by unfold maxLen; first | (simp; omega) | fail) ?_ | fail)
          all_goals (conv => whnf)
          all_goals exact ⟨(i + 1, true, out ++ [x]), ⟨by dsimp only; omega, by simp; omega, by simp⟩, by dsimp only; omega, [(900, .k 73)], ⟨by (try dsimp only); (repeat (refine LeT.cons rfl (by first | exact LeS.d (by first | exact LeD.u rfl | exact LeD.ow rfl (by simp) | exact LeD.q rfl | fail) | fail) ?_)); exact LeT.nil, by (try dsimp only); repeat (first | exact LeO.nil | refine LeO.ar rfl rfl (by first | simp) ?_ | fail)⟩⟩
  · obtain rfl : i = ls.length := by omega
    rw [List.drop_length]
    cases pl
    · rw [addedM, if_neg (by simp)]
      repeat' ((conv => whnf); first | refine Gs.id ?_ | with_reducible refine Brn.T rfl ?_ | refine Brn.F (by (try simp only [smT]); first | rfl | omega | fail) ?_ | (refine Bnd.mk (fun hm => ?_); (try simp only [smT] at hm)) | refine Len.mk (by first | rfl | fail) ?_ | refine Apd.mk (by first | rfl | simp) (by first | rfl | fail) (by (try simp only [smT]); first | omega | fail) (by unfold maxLen; first | (simp; omega) | fail) ?_ | fail)
      all_goals (conv => whnf)
      all_goals (refine Ret.is ?_; simp only [List.map_append]; rfl)
    · rw [addedM, if_pos rfl, List.append_nil]
      repeat' ((conv => whnf); first | refine Gs.id ?_ | with_reducible refine Brn.F rfl ?_ | refine Brn.F (by (try simp only [smT]); first | rfl | omega | fail) ?_ | (refine Bnd.mk (fun hm => ?_); (try simp only [smT] at hm)) | refine Len.mk (by first | rfl | (simp; done) | fail) ?_ | fail)
      all_goals (conv => whnf)
      all_goals first | exact Ret.is rfl | exact Ret.nl (by repeat (fail))
end Go.Proofs.YtabmcfnefjipbaaDoor
namespace Go.Proofs.YtabmcfnefjipbaaDoor
open Go.RowKit Go.Sort
theorem less_cmp : ∀ (a b : List UInt8), Op.bytesLess a b = decide (Lib.compareBytes a b = -1)
  | [], [] => rfl
  | [], _ :: _ => rfl
  | _ :: _, [] => rfl
  | x :: a, y :: b => by
    have ih := less_cmp a b
    simp only [Op.bytesLess, Lib.compareBytes, ih]
    by_cases h1 : x < y
    · simp [h1]
    · by_cases h2 : y < x
      · have hne : ¬ x = y := fun e => h1 (by rw [e] at h2; exact absurd h2 (by rw [UInt8.lt_iff_toNat_lt]; exact Nat.lt_irrefl _))
        simp [h1, h2, hne]
      · have he : x = y := by
          rw [UInt8.lt_iff_toNat_lt] at h1 h2
          exact UInt8.toNat_inj.1 (by omega)
        subst he
        simp [h1]
theorem eq_cmp (a b : List UInt8) : (a == b) = decide (Lib.compareBytes a b = 0) := by
  by_cases h : a = b
  · subst h; simp [cmpB_self]
  · have : ¬ Lib.compareBytes a b = 0 := fun e => h (cmpB_eq e)
    simp [h, this]
theorem bytes_toList (s : ByteArray) : s.toList = s.data.toList := ByteArray.toList_eq s
/-- x stands behind c. -/
theorem gtL_cf (x c : Lc) : gtL x c = ltOf cfL c x := by
  have h1 := less_cmp x.md.data.toList c.md.data.toList
  have h2 := eq_cmp x.md.data.toList c.md.data.toList
  have h3 := cmpB_neg x.md.data.toList c.md.data.toList
  have h4 := cmpB_range x.md.data.toList c.md.data.toList
  have h5 := ltL c x
  have h6 : gtL x c = (!(decide (Lib.compareBytes x.md.data.toList c.md.data.toList = -1) || decide (Lib.compareBytes x.md.data.toList c.md.data.toList = 0)) || (decide (Lib.compareBytes x.md.data.toList c.md.data.toList = 0) && decide (c.ln < x.ln))) := by
    unfold gtL strLt
    rw [bytes_toList, bytes_toList, h1, h2]
  rw [h6, Bool.eq_iff_iff, h5]
  simp only [Bool.or_eq_true, Bool.not_eq_true', Bool.or_eq_false_iff, decide_eq_false_iff_not, decide_eq_true_eq, Bool.and_eq_true]
  grind
theorem eqL_pl (x c : Lc) : eqL x c = decide (x.pl = c.pl) := by
  unfold eqL
  rw [toList_beq]
  by_cases h1 : x.md = c.md <;> by_cases h2 : x.ln = c.ln <;> simp [Lc.pl, h1, h2]
end Go.Proofs.YtabmcfnefjipbaaDoor
namespace Go.Proofs.YtabmcfnefjipbaaDoor
open Go.RowKit Go.Sort
def Srt (ls : List Lc) : Prop := ls.Pairwise fun a b => ltOf cfL a b = true
theorem lt_pl {x c : Lc} (h : ltOf cfL x c = true) : x.pl ≠ c.pl := by
  intro e
  rw [ltL] at h
  simp only [Lc.pl, Prod.mk.injEq] at e
  rw [e.1, e.2, cmpB_self] at h
  rcases h with h | ⟨_, h⟩
  · exact absurd h (by decide)
  · omega
theorem lt_asym {x c : Lc} (h : ltOf cfL x c = true) : ltOf cfL c x = false := by
  cases hb : ltOf cfL c x
  · rfl
  · have := swoL.trans _ _ _ h hb
    rw [swoL.irrefl] at this
    cases this
theorem added_t {c : Lc} : ∀ {ls : List Lc}, c.pl ∉ ls.map Lc.pl → addedM c true ls = ls
  | [], _ => rfl
  | x :: r, h => by
    simp only [List.map_cons, List.mem_cons, not_or] at h
    have h1 : eqL x c = false := by rw [eqL_pl]; exact decide_eq_false (Ne.symm h.1)
    rw [addedM, h1, if_neg (by simp), if_neg (by simp), added_t h.2]
theorem added_in {c : Lc} : ∀ {ls : List Lc}, Srt ls → c.pl ∈ ls.map Lc.pl → addedM c false ls = updK Lc.pl (fun x => mergeL x c) ls c.pl
  | [], _, h => by simp at h
  | x :: r, hs, h => by
    rw [Srt, List.pairwise_cons] at hs
    obtain ⟨hs1, hs2⟩ := hs
    rw [addedM, updK]
    by_cases he : x.pl = c.pl
    · rw [eqL_pl, if_pos (decide_eq_true he), if_pos he]
      have hn : c.pl ∉ r.map Lc.pl := fun hm => by
        obtain ⟨y, hy, hyp⟩ := List.mem_map.1 hm
        exact lt_pl (hs1 y hy) (by rw [he, hyp])
      rw [added_t hn]
    · simp only [List.map_cons, List.mem_cons] at h
      have hin : c.pl ∈ r.map Lc.pl := h.resolve_left fun e => he e.symm
      obtain ⟨y, hy, hyp⟩ := List.mem_map.1 hin
      have hg : gtL x c = false := by
        rw [gtL_cf]
        have h1 := lt_asym (hs1 y hy)
        rw [ltLf] at h1 ⊢
        simp only [Lc.pl, Prod.mk.injEq] at hyp
        rw [hyp.1, hyp.2] at h1
        exact h1
      rw [eqL_pl, if_neg (by simpa using he), hg, if_neg (by simp), if_neg he, added_in hs2 hin]
theorem added_new {c : Lc} : ∀ {ls : List Lc}, c.pl ∉ ls.map Lc.pl → (addedM c false ls).Perm (ls ++ [c])
  | [], _ => by simp [addedM]
  | x :: r, h => by
    have h0 := h
    simp only [List.map_cons, List.mem_cons, not_or] at h
    have h1 : eqL x c = false := by rw [eqL_pl]; exact decide_eq_false (Ne.symm h.1)
    rw [addedM, h1, if_neg (by simp)]
    split
    · rw [added_t h.2]
      exact (List.perm_append_singleton c (x :: r)).symm
    · exact (added_new h.2).cons x
/-- What insertion gives: as the map's update, but for the order. -/
theorem added_perm {c : Lc} {ls : List Lc} (hs : Srt ls) : (addedM c false ls).Perm (updK Lc.pl (fun x => mergeL x c) (ensL ls c.pl) c.pl) := by
  unfold ensL ensK
  by_cases h : c.pl ∈ ls.map Lc.pl
  · rw [if_pos h, added_in hs h]
  · rw [if_neg h]
    have hk : kidx Lc.pl (ls ++ [zeroL c.pl]) c.pl = some ls.length := kidx_app (kidx_none.2 h) rfl
    have hg : (ls ++ [zeroL c.pl])[ls.length]? = some (zeroL c.pl) := by simp
    rw [updK_eq (fun x => mergeL x c) hk hg]
    have hm : mergeL (zeroL c.pl) c = c := by obtain ⟨a, b, d, e⟩ := c; simp [mergeL, zeroL, Lc.pl]
    rw [hm]
    simpa using added_new h
theorem srt_of {ls ls' : List Lc} (hk : ls.map Lc.pl = ls'.map Lc.pl) (h : Srt ls) : Srt ls' := by
  have hlt : ∀ a b a' b' : Lc, a.pl = a'.pl → b.pl = b'.pl → ltOf cfL a b = true → ltOf cfL a' b' = true := by
    intro a b a' b' h1 h2 h3
    simp only [Lc.pl, Prod.mk.injEq] at h1 h2
    rw [ltL] at h3 ⊢
    rw [← h1.1, ← h1.2, ← h2.1, ← h2.2]
    exact h3
  rw [Srt, List.pairwise_iff_getElem] at h ⊢
  have hl : ls.length = ls'.length := by have := congrArg List.length hk; simpa using this
  have hp : ∀ (i : Nat) (h1 : i < ls.length) (h2 : i < ls'.length), ls[i].pl = ls'[i].pl := fun i h1 h2 => by
    have e := congrArg (fun l => l[i]?) hk
    simp only [List.getElem?_map, List.getElem?_eq_getElem h1, List.getElem?_eq_getElem h2, Option.map_some, Option.some.injEq] at e
    exact e
  intro i j hi hj hij
  exact hlt _ _ _ _ (hp i (by omega) hi) (hp j (by omega) hj) (h i j (by omega) (by omega) hij)
theorem added_srt {c : Lc} : ∀ {ls : List Lc}, Srt ls → Srt (addedM c false ls)
  | [], _ => by simp [addedM, Srt]
  | x :: r, hs => by
    have hs0 := hs
    rw [Srt, List.pairwise_cons] at hs
    obtain ⟨hs1, hs2⟩ := hs
    by_cases h : c.pl ∈ (x :: r).map Lc.pl
    · rw [added_in hs0 h]
      exact srt_of (updK_keys (key := Lc.pl) (fun x => mergeL x c) (fun _ => rfl) _ _).symm hs0
    · have h' := h
      simp only [List.map_cons, List.mem_cons, not_or] at h
      have h1 : eqL x c = false := by rw [eqL_pl]; exact decide_eq_false (Ne.symm h.1)
      rw [addedM, h1, if_neg (by simp)]
      cases hg : gtL x c
      · simp only [Bool.not_false, Bool.and_false, if_neg Bool.false_ne_true]
        have ih := added_srt (c := c) hs2
        have hxc : ltOf cfL x c = true := by
          cases hb : ltOf cfL x c
          · rw [gtL_cf] at hg
            exact absurd (ltL_pl hg hb) h.1
          · rfl
        rw [Srt, List.pairwise_cons]
        refine ⟨fun y hy => ?_, ih⟩
        have := (added_new h.2).mem_iff.1 hy
        rcases List.mem_append.1 this with hm | hm
        · exact hs1 y hm
        · simp at hm; subst hm; exact hxc
      · simp only [Bool.not_false, Bool.and_self, if_true]
        rw [added_t h.2]
        rw [gtL_cf] at hg
        rw [Srt, List.pairwise_cons]
        refine ⟨fun y hy => ?_, hs0⟩
        rcases List.mem_cons.1 hy with rfl | hy
        · exact hg
        · exact swoL.trans _ _ _ hg (hs1 y hy)
end Go.Proofs.YtabmcfnefjipbaaDoor
namespace Go.Proofs.YtabmcfnefjipbaaDoor
open Go.RowKit Go.Sort
/-- The reference's lines, behind i events. -/
def refLn (l : List Ev) (fuel : Int) : Nat → List Lc
  | 0 => []
  | i + 1 => match l[i]? with
    | some e =>
      let o1 := if e.kind = 1 then addedM ⟨e.md, e.line, 1, 0⟩ false (refLn l fuel i) else refLn l fuel i
      match (stackAt l (i + 1)).getLast? with
      | none => o1
      | some t => if 0 < amt l fuel i then addedM ⟨t.md, t.line, 0, amt l fuel i⟩ false o1 else o1
    | none => refLn l fuel i
theorem updK_map {g : Lc → Lc} {p : Pl} : ∀ {ls : List Lc}, (ls.map Lc.pl).Nodup → updK Lc.pl g ls p = ls.map fun x => if x.pl = p then g x else x
  | [], _ => rfl
  | x :: r, h => by
    rw [List.map_cons, List.nodup_cons] at h
    rw [updK]
    by_cases hx : x.pl = p
    · rw [if_pos hx, List.map_cons, if_pos hx]
      congr 1
      have : ∀ y ∈ r, (if y.pl = p then g y else y) = y := fun y hy => if_neg fun e => h.1 (List.mem_map.2 ⟨y, hy, by rw [e, hx]⟩)
      rw [List.map_congr_left this, List.map_id']
    · rw [if_neg hx, List.map_cons, if_neg hx, updK_map h.2]
theorem step_perm {g : Lc → Lc} {p : Pl} {xs ys : List Lc} (h : xs.Perm ys) (hn : (ys.map Lc.pl).Nodup) : (updL g (ensL xs p) p).Perm (updL g (ensL ys p) p) := by
  have hk := h.map Lc.pl
  have he : (ensL xs p).Perm (ensL ys p) := by
    unfold ensL ensK
    by_cases hp : p ∈ ys.map Lc.pl
    · rw [if_pos hp, if_pos (hk.mem_iff.2 hp)]; exact h
    · rw [if_neg hp, if_neg (fun h' => hp (hk.mem_iff.1 h'))]; exact h.append_right _
  have hn2 := ensL_nd hn p
  have hn1 : ((ensL xs p).map Lc.pl).Nodup := (he.map Lc.pl).nodup_iff.2 hn2
  unfold updL
  rw [updK_map hn1, updK_map hn2]
  exact he.map _
theorem ref_lines {l : List Ev} {fuel : Int} : ∀ i, Srt (refLn l fuel i) ∧ (refLn l fuel i).Perm (linesAt l fuel i)
  | 0 => ⟨List.Pairwise.nil, .refl _⟩
  | i + 1 => by
    obtain ⟨h1, h2⟩ := ref_lines (l := l) (fuel := fuel) i
    have hnd := lines_nd (l := l) (fuel := fuel) i
    rw [refLn, linesAt]
    cases he : l[i]? with
    | none => exact ⟨h1, h2⟩
    | some e =>
      have s1 : Srt (if e.kind = 1 then addedM ⟨e.md, e.line, 1, 0⟩ false (refLn l fuel i) else refLn l fuel i) ∧ (if e.kind = 1 then addedM ⟨e.md, e.line, 1, 0⟩ false (refLn l fuel i) else refLn l fuel i).Perm (if e.kind = 1 then updL incL (ensL (linesAt l fuel i) e.pl) e.pl else linesAt l fuel i) ∧ ((if e.kind = 1 then updL incL (ensL (linesAt l fuel i) e.pl) e.pl else linesAt l fuel i).map Lc.pl).Nodup := by
        by_cases hk : e.kind = 1
        · rw [if_pos hk, if_pos hk]
          have hg : (fun x => mergeL x ⟨e.md, e.line, 1, 0⟩) = incL := by
            funext x
            simp [mergeL, incL]
          have hp := added_perm (c := ⟨e.md, e.line, 1, 0⟩) h1
          rw [hg] at hp
          exact ⟨added_srt h1, hp.trans (step_perm h2 hnd), updL_nd (g := incL) (fun _ => rfl) (ensL_nd hnd _) _⟩
        · rw [if_neg hk, if_neg hk]
          exact ⟨h1, h2, hnd⟩
      unfold stepN
      dsimp only
      generalize (if e.kind = 1 then addedM ⟨e.md, e.line, 1, 0⟩ false (refLn l fuel i) else refLn l fuel i) = o1 at *
      generalize (if e.kind = 1 then updL incL (ensL (linesAt l fuel i) e.pl) e.pl else linesAt l fuel i) = o2 at *
      obtain ⟨q1, q2, q3⟩ := s1
      cases hl : (stackAt l (i + 1)).getLast? with
      | none => exact ⟨q1, q2⟩
      | some t =>
        dsimp only
        split
        · have hg : (fun x => mergeL x ⟨t.md, t.line, 0, amt l fuel i⟩) = addL (amt l fuel i) := by
            funext x
            simp [mergeL, addL]
          have hp := added_perm (c := ⟨t.md, t.line, 0, amt l fuel i⟩) q1
          rw [hg] at hp
          exact ⟨added_srt q1, hp.trans (step_perm q2 q3)⟩
        · exact ⟨q1, q2⟩
theorem lines_agree {l : List Ev} {fuel : Int} : linesM l fuel = refLn l fuel l.length := by
  obtain ⟨h1, h2⟩ := ref_lines (l := l) (fuel := fuel) l.length
  have hnd := lines_nd (l := l) (fuel := fuel) l.length
  unfold linesM
  have hp := srtL_perm (linesAt l fuel l.length)
  refine sorted_uniq (hp.trans h2.symm) ((hp.map Lc.pl).nodup_iff.2 hnd) (srtL_sorted _) (h1.imp fun h => lt_asym h)
end Go.Proofs.YtabmcfnefjipbaaDoor
namespace Go.Proofs.YtabmcfnefjipbaaDoor
open Go.RowKit
/-- The line of the activation that event e began, behind the first n events; j: its number. -/
def lineM (l : List Ev) (e : Ev) (j : Nat) : Nat → Int
  | 0 => e.line
  | n + 1 => if n ≤ j then e.line else match l[n]? with
    | some x => if x.kind = 1 ∧ x.depth = e.depth then x.line else lineM l e j n
    | none => lineM l e j n
theorem lineM_le {l : List Ev} {e : Ev} {j n : Nat} (h : n ≤ j + 1) : lineM l e j n = e.line := by
  cases n with
  | zero => rfl
  | succ n => rw [lineM, if_pos (by omega)]
theorem lineM_succ {l : List Ev} {e x : Ev} {j n : Nat} (h : j < n) (hx : l[n]? = some x) : lineM l e j (n + 1) = if x.kind = 1 ∧ x.depth = e.depth then x.line else lineM l e j n := by
  rw [lineM, if_neg (by omega), hx]
set_option maxHeartbeats 2000000 in
theorem lineOf_R (l : List Ev) (j n : Nat) (e : Ev) (he : l[j]? = some e) (hjn : j < n) (hn : n ≤ l.length) (hl : l.length ≤ 1000000000) : CallsA Tryd.prog 37 [.d (.u (evs l)), di j, di n] [] (Is (di (lineM l e j n))) := by
  have hjl := (List.getElem?_eq_some_iff.1 he).1
  have hrowj : ∀ {K : List V → Prop} {m : Int}, m = (j : Int) → K e.row → Ix (l.map Ev.row) m K := fun h k => ⟨⟨j, e.row, h, by rw [List.getElem?_map, he]; rfl, k⟩⟩
  refine callsA_of_vc (T := tt) Tryd.func37 rfl rfl rfl rfl rfl ?_
  repeat' ((conv => whnf); first | refine hrowj rfl ?_ | refine Gs.id ?_ | refine Rng.mk (by (try simp only [smT]); omega) ?_ | fail)
  all_goals (conv => whnf)
  refine ⟨⟨Nat, fun i => j + 1 ≤ i ∧ i ≤ n, fun i => n - i, fun i => ⟨[(0, .d (.u (evs l))), (2, di n), (7, di (lineM l e j i)), (8, di e.depth), (9, di i)], []⟩, j + 1, ⟨Nat.le_refl _, by omega⟩, ⟨[], by (dsimp only; rw [lineM_le (Nat.le_refl _)]; exact ⟨by (try dsimp only); (repeat (refine LeT.cons rfl (by first | exact LeS.d (by first | exact LeD.u rfl | fail) | fail) ?_)); exact LeT.nil, by (try dsimp only); repeat (first | exact LeO.nil | fail)⟩)⟩, fun i hi => ?_⟩⟩
  obtain ⟨hi1, hi2⟩ := hi
  dsimp only
  by_cases h9 : i < n
  · obtain ⟨x, hx⟩ : ∃ x, l[i]? = some x := ⟨_, List.getElem?_eq_getElem (by omega)⟩
    have hrow : ∀ {K : List V → Prop} {m : Int}, m = (i : Int) → K x.row → Ix (l.map Ev.row) m K := fun h k => ⟨⟨i, x.row, h, by rw [List.getElem?_map, hx]; rfl, k⟩⟩
    have hst := lineM_succ (e := e) (show j < i by omega) hx
    by_cases hk : x.kind = 1
    · by_cases hd : x.depth = e.depth
      · rw [if_pos ⟨hk, hd⟩] at hst
        repeat' ((conv => whnf); first | refine hrow rfl ?_ | refine Gs.id ?_ | refine Brn.T (by (try simp only [smT]); first | rfl | assumption | omega | fail) ?_ | refine Rng.mk (by (try simp only [smT]); omega) ?_ | fail)
        all_goals (conv => whnf)
        all_goals exact ⟨i + 1, ⟨by omega, by omega⟩, by omega, [], by rw [hst]; exact ⟨by (try dsimp only); (repeat (refine LeT.cons rfl (by first | exact LeS.d (by first | exact LeD.u rfl | fail) | fail) ?_)); exact LeT.nil, by (try dsimp only); repeat (first | exact LeO.nil | fail)⟩⟩
      · rw [if_neg (fun h => hd h.2)] at hst
        generalize lineM l e j i = L at *
        repeat' ((conv => whnf); first | refine hrow rfl ?_ | refine Gs.id ?_ | refine Brn.T (by (try simp only [smT]); first | rfl | assumption | omega | fail) ?_ | refine Brn.F (by (try simp only [smT]); first | rfl | assumption | fail) ?_ | refine Rng.mk (by (try simp only [smT]); omega) ?_ | fail)
        all_goals (conv => whnf)
        all_goals exact ⟨i + 1, ⟨by omega, by omega⟩, by omega, [], by rw [hst]; exact ⟨by (try dsimp only); (repeat (refine LeT.cons rfl (by first | exact LeS.d (by first | exact LeD.u rfl | fail) | fail) ?_)); exact LeT.nil, by (try dsimp only); repeat (first | exact LeO.nil | fail)⟩⟩
    · rw [if_neg (fun h => hk h.1)] at hst
      generalize lineM l e j i = L at *
      repeat' ((conv => whnf); first | refine hrow rfl ?_ | refine Gs.id ?_ | with_reducible refine Brn.F rfl ?_ | refine Brn.T (by (try simp only [smT]); first | rfl | omega | fail) ?_ | refine Brn.F (by (try simp only [smT]); first | rfl | assumption | fail) ?_ | refine Rng.mk (by (try simp only [smT]); omega) ?_ | fail)
      all_goals (conv => whnf)
      all_goals exact ⟨i + 1, ⟨by omega, by omega⟩, by omega, [], by rw [hst]; exact ⟨by (try dsimp only); (repeat (refine LeT.cons rfl (by first | exact LeS.d (by first | exact LeD.u rfl | fail) | fail) ?_)); exact LeT.nil, by (try dsimp only); repeat (first | exact LeO.nil | fail)⟩⟩
  · obtain rfl : i = n := by omega
    repeat' ((conv => whnf); first | refine Gs.id ?_ | refine Brn.F (by (try simp only [smT]); first | rfl | omega | fail) ?_ | fail)
    all_goals (conv => whnf)
    all_goals exact Ret.is rfl
end Go.Proofs.YtabmcfnefjipbaaDoor
namespace Go.Proofs.YtabmcfnefjipbaaDoor
open Go.RowKit
/-- The activation that event j began, behind n events. -/
def acOf (l : List Ev) (n j : Nat) : Ac := match l[j]? with
  | some e => ⟨e.md, e.fn, lineM l e j n⟩
  | none => ⟨ByteArray.mk #[], ByteArray.mk #[], 0⟩
/-- The calls on the stack, by their depths. -/
def DepI (l : List Ev) (ix : List Nat) : Prop := ∀ (k j : Nat), ix[k]? = some j → ∃ e, l[j]? = some e ∧ e.depth = (k : Int) + 1
theorem stk_line {l : List Ev} (hv : Vd l) : ∀ n, n ≤ l.length → stackAt l n = (stkI l n).map (acOf l n) ∧ DepI l (stkI l n)
  | 0, _ => ⟨rfl, fun k j h => by simp [stkI] at h⟩
  | n + 1, hn => by
    have he : l[n]? = some l[n] := List.getElem?_eq_getElem (by omega)
    obtain ⟨ih1, ih2⟩ := stk_line hv n (by omega)
    have ok := hv.ok he
    have hlt := stkI_lt (l := l) n
    have hlen := congrArg List.length (stkI_fu hv n (by omega))
    simp only [fuI, List.length_map] at hlen
    have hdep := ok.depth
    have k1 := ok.k1
    rw [stackAt_succ he, stkI_succ he, ih1]
    generalize hx : l[n] = x at *
    have hacs : ∀ j ∈ stkI l n, ¬ (x.kind = 1 ∧ ∃ e, l[j]? = some e ∧ x.depth = e.depth) → acOf l (n + 1) j = acOf l n j := fun j hj hno => by
      obtain ⟨j1, j2⟩ := hlt j hj
      have hje : l[j]? = some l[j] := List.getElem?_eq_getElem j2
      unfold acOf
      rw [hje]
      dsimp only
      rw [lineM_succ j1 he, if_neg (fun h => hno ⟨h.1, l[j], hje, h.2⟩)]
    unfold stepL stepI
    unfold pushM at hdep
    generalize stkI l n = ix at *
    by_cases h2 : x.kind = 2
    · rw [if_pos h2, if_pos h2]
      rw [if_pos h2] at hdep
      refine ⟨?_, fun k j hk => ?_⟩
      · rw [List.map_append, List.map_congr_left fun j hj => hacs j hj (by rintro ⟨h, _⟩; omega)]
        congr 1
        simp only [List.map_cons, List.map_nil, acOf, he]
        rw [lineM_le (Nat.le_refl _)]
      · rcases Nat.lt_or_ge k ix.length with hkl | hkl
        · rw [List.getElem?_append_left hkl] at hk
          exact ih2 k j hk
        · rw [List.getElem?_append_right hkl] at hk
          rcases h0 : k - ix.length with _ | m
          · rw [h0] at hk
            simp at hk
            subst hk
            refine ⟨x, he, ?_⟩
            rw [hdep, List.length_append, ← hlen]
            simp; omega
          · rw [h0] at hk; simp at hk
    · rw [if_neg h2, if_neg h2]
      rw [if_neg h2] at hdep
      by_cases h1 : x.kind = 1
      · rw [if_pos h1, if_neg (by simpa using h1)]
        refine ⟨?_, ih2⟩
        rcases List.eq_nil_or_concat ix with rfl | ⟨L, j, rfl⟩
        · rfl
        · rw [List.concat_eq_append] at *
          have hL : ∀ i ∈ L, acOf l (n + 1) i = acOf l n i := fun i hi => hacs i (by simp [hi]) (by
            rintro ⟨_, e, hie, hde⟩
            obtain ⟨m, hm⟩ := List.mem_iff_getElem?.1 hi
            have hml := (List.getElem?_eq_some_iff.1 hm).1
            obtain ⟨e', he', hd'⟩ := ih2 m i (by rw [List.getElem?_append_left hml]; exact hm)
            rw [hie] at he'
            injection he' with he'
            subst he'
            rw [hdep, ← hlen, List.length_append] at hde
            simp at hde
            omega)
          obtain ⟨e, hje, hd⟩ := ih2 L.length j (by simp)
          obtain ⟨j1, _⟩ := hlt j (by simp)
          have hj : acOf l (n + 1) j = ⟨(acOf l n j).md, (acOf l n j).fn, x.line⟩ := by
            unfold acOf
            rw [hje]
            dsimp only
            rw [lineM_succ j1 he, if_pos ⟨h1, by rw [hdep, ← hlen, hd]; simp⟩]
          simp only [setLn, List.map_append, List.map_cons, List.map_nil, List.getLast?_append, List.getLast?_singleton, Option.some_or, List.dropLast_concat]
          rw [List.map_congr_left hL, hj]
      · rw [if_neg h1, if_pos h1]
        refine ⟨?_, fun k j hk => ?_⟩
        · rw [List.map_congr_left fun j hj => hacs j (List.dropLast_subset _ hj) (by rintro ⟨h, _⟩; exact h1 h), List.map_dropLast]
        · rw [List.getElem?_dropLast] at hk
          split at hk
          · exact ih2 k j hk
          · cases hk
end Go.Proofs.YtabmcfnefjipbaaDoor
namespace Go.Proofs.YtabmcfnefjipbaaDoor
open Go.RowKit
/-- Behind the event itself. -/
def refL1 (l : List Ev) (fuel : Int) (i : Nat) (e : Ev) : List Lc := if e.kind = 1 then addedM ⟨e.md, e.line, 1, 0⟩ false (refLn l fuel i) else refLn l fuel i
theorem refLn_succ {l : List Ev} {fuel : Int} {i : Nat} {e : Ev} (h : l[i]? = some e) : refLn l fuel (i + 1) = match (stackAt l (i + 1)).getLast? with
  | none => refL1 l fuel i e
  | some t => if 0 < amt l fuel i then addedM ⟨t.md, t.line, 0, amt l fuel i⟩ false (refL1 l fuel i e) else refL1 l fuel i e := by rw [refLn, h]; rfl
theorem ref_LB {l : List Ev} {fuel : Int} (t : Tr l fuel) (i : Nat) (hi : i ≤ l.length) : LB i (curF l fuel i) (refLn l fuel i) ∧ (refLn l fuel i).length ≤ 2 * i := by
  have h := (ref_lines (l := l) (fuel := fuel) i).2
  exact ⟨fun c hc => lines_LB t i hi c (h.mem_iff.1 hc), by rw [h.length_eq]; exact lines_len i⟩
theorem ref_LB1 {l : List Ev} {fuel : Int} (t : Tr l fuel) (i : Nat) (hi : i ≤ l.length) (e : Ev) : LB (i + 1) (curF l fuel i) (refL1 l fuel i e) ∧ (refL1 l fuel i e).length ≤ 2 * i + 1 := by
  obtain ⟨h1, h2⟩ := ref_lines (l := l) (fuel := fuel) i
  have hlb := lines_LB t i hi
  have hc := t.cur i hi
  have hln := lines_len (l := l) (fuel := fuel) i
  unfold refL1
  split
  · have hg : (fun x => mergeL x ⟨e.md, e.line, 1, 0⟩) = incL := by funext x; simp [mergeL, incL]
    have hp := added_perm (c := ⟨e.md, e.line, 1, 0⟩) h1
    rw [hg] at hp
    have hp2 := hp.trans (step_perm h2 (lines_nd (l := l) (fuel := fuel) i))
    refine ⟨fun c hc' => ((hlb.ens (by omega) hc.1 _).inc _) c (hp2.mem_iff.1 hc'), ?_⟩
    rw [hp2.length_eq, updL_len incL (fun _ => rfl)]
    have := ensL_len (linesAt l fuel i) (⟨e.md, e.line, 1, 0⟩ : Lc).pl
    omega
  · exact ⟨fun c hc' => (hlb.mono (by omega) (Int.le_refl _)) c (h2.mem_iff.1 hc'), by rw [h2.length_eq]; omega⟩
end Go.Proofs.YtabmcfnefjipbaaDoor
namespace Go.Proofs.YtabmcfnefjipbaaDoor
open Go.RowKit
set_option maxHeartbeats 4000000 in
theorem linesR_R {l : List Ev} {fuel : Int} (t : Tr l fuel) : CallsA Tryd.prog 14 [.d (.u (evs l)), di fuel] [] (Is (.d (.u (.sl 4 ((refLn l fuel l.length).map lcR))))) := by
  have hL := t.len
  have hmx := t.mx
  refine callsA_of_vc (T := tt) Tryd.func14 rfl rfl rfl rfl rfl ?_
  repeat' ((conv => whnf); first | refine Gs.id ?_ | fail)
  all_goals (conv => whnf)
  refine ⟨⟨Nat, fun i => i ≤ l.length, fun i => l.length - i, fun i => ⟨[(0, .d (.u (evs l))), (1, di fuel), (5, .d (.u (.sl 4 ((refLn l fuel i).map lcR)))), (6, di i)], []⟩, 0, Nat.zero_le _, ⟨[], ⟨by (try dsimp only); (repeat (refine LeT.cons rfl (by first | exact LeS.d (by first | exact LeD.u rfl | exact LeD.nl (by first | rfl | fail) | fail) | fail) ?_)); exact LeT.nil, by (try dsimp only); repeat (first | exact LeO.nil | fail)⟩⟩, fun i hi => ?_⟩⟩
  dsimp only at hi ⊢
  by_cases h9 : i < l.length
  · obtain ⟨e, he⟩ : ∃ e, l[i]? = some e := ⟨_, List.getElem?_eq_getElem h9⟩
    have hst := refLn_succ (fuel := fuel) he
    obtain ⟨hb, hlen⟩ := ref_LB t i hi
    obtain ⟨hb1, hlen1⟩ := ref_LB1 t i hi e
    have hcur := t.cur i hi
    have hcur2 := t.cur (i + 1) (by omega)
    have ha := t.amt he
    have haE := amt_eq (fuel := fuel) he
    have hstk := stack_R l (i + 1) (by omega) (by omega)
    have ham := amount_R t i h9
    obtain ⟨hsl, hdp⟩ := stk_line t.vd (i + 1) (by omega)
    have hslt := stkI_lt (l := l) (i + 1)
    have hii : ((i + 1 : Nat) : Int) = (i : Int) + 1 := by omega
    rw [hii] at hstk
    rw [hsl] at hst
    have hrow : ∀ {K : List V → Prop} {j : Int}, j = (i : Int) → K e.row → Ix (l.map Ev.row) j K := fun h k => ⟨⟨i, e.row, h, by rw [List.getElem?_map, he]; rfl, k⟩⟩
    have hadd1 := added_R (refLn l fuel i) ⟨e.md, e.line, 1, 0⟩ (by omega) (fun x hx => by have := hb x hx; dsimp only; omega)
    have hl1 : e.kind = 1 → refL1 l fuel i e = addedM ⟨e.md, e.line, 1, 0⟩ false (refLn l fuel i) := fun h => by rw [refL1, if_pos h]
    have hl2 : e.kind ≠ 1 → refL1 l fuel i e = refLn l fuel i := fun h => by rw [refL1, if_neg h]
    have hadd2 := fun md ln => added_R (refL1 l fuel i e) ⟨md, ln, 0, amt l fuel i⟩ (by omega) (fun x hx => by have := hb1 x hx; dsimp only; omega)
    generalize refL1 l fuel i e = o1 at *
    generalize refLn l fuel i = o0 at *
    generalize amt l fuel i = a at *
    generalize stkI l (i + 1) = ix at *
    clear hb hb1 hlen hlen1
    refine' cutR (fun _ : Unit => True) (fun _ => ⟨[(0, .d (.u (evs l))), (1, di fuel), (5, .d (.u (.sl 4 (o1.map lcR)))), (6, di i)], []⟩) _ (fun hR => ?_) ?_
    rotate_left
    · by_cases hk : e.kind = 1
      · have hh := hl1 hk
        repeat' ((conv => whnf); first | refine hrow rfl ?_ | (exact Gs.cut (i := 7) (by assumption) () [] rfl ⟨by (try dsimp only); (repeat (refine LeT.cons rfl (by first | exact LeS.d (by first | exact LeD.u rfl | exact LeD.u (by simp [hh]; done) | fail) | fail) ?_)); (first | exact LeT.nil | fail), by (try dsimp only); (repeat (first | exact LeO.nil | fail)); done⟩ (by trivial)) | refine Gs.id ?_ | refine Brn.T (by (try simp only [smT]); first | rfl | assumption | omega | fail) ?_ | (refine Bnd.mk (fun hm => ?_); (try simp only [smT] at hm)) | refine Drw.of (T := tt) (i := 6) [] [] [(0, true), (1, true), (2, true), (3, true), (4, true), (5, true), (6, true), (7, true), (8, true), (9, true), (10, true), (11, true), (12, false), (13, true)] (by kernel_rfl) ?_ | (refine CL.mk (Or.inl ?_); (conv => whnf); refine Cl.is (hadd1) rfl (by first | (intro e; cases e; done) | fail) ?_) | fail)
      · have hh := hl2 hk
        repeat' ((conv => whnf); first | refine hrow rfl ?_ | (exact Gs.cut (i := 7) (by assumption) () [] rfl ⟨by (try dsimp only); (repeat (refine LeT.cons rfl (by first | exact LeS.d (by first | exact LeD.u rfl | exact LeD.u (by simp [hh]; done) | fail) | fail) ?_)); (first | exact LeT.nil | fail), by (try dsimp only); (repeat (first | exact LeO.nil | fail)); done⟩ (by trivial)) | refine Gs.id ?_ | refine Brn.T (by (try simp only [smT]); first | rfl | omega | fail) ?_ | refine Brn.F (by (try simp only [smT]); first | rfl | assumption | fail) ?_ | (refine Bnd.mk (fun hm => ?_); (try simp only [smT] at hm)) | fail)
    · intro _ _
      dsimp only
      clear hl1 hl2 hadd1
      rcases List.eq_nil_or_concat ix with rfl | ⟨L, j, rfl⟩
      · have hst' : refLn l fuel (i + 1) = o1 := hst
        repeat' ((conv => whnf); first | refine Gs.id ?_ | with_reducible refine Brn.F rfl ?_ | refine Brn.T (by (try simp only [smT]); first | rfl | assumption | fail) ?_ | refine Brn.F (by (try simp only [smT]); first | rfl | assumption | fail) ?_ | (refine Brn.mk (fun hb => ?_) (fun hb => ?_) <;> (try simp only [smT] at hb) <;> (try (exact absurd trivial hb)) <;> (try (exfalso; omega))) | (refine Bnd.mk (fun hm => ?_); (try simp only [smT] at hm)) | refine Rng.mk (by (try simp only [smT]); omega) ?_ | (refine CL.mk (Or.inl ?_); (conv => whnf); first | refine Cl.is (hstk) rfl (by first | (intro e; cases e; done) | fail) ?_ | refine Cl.is (ham) rfl (by first | exact fun _ => rfl | fail) ?_) | fail)
        all_goals (conv => whnf)
        all_goals exact ⟨i + 1, by omega, by omega, [], by (rw [hst']; exact ⟨by (try dsimp only); (repeat (refine LeT.cons rfl (by first | exact LeS.d (by first | exact LeD.u rfl | fail) | fail) ?_)); exact LeT.nil, by (try dsimp only); repeat (first | exact LeO.nil | fail)⟩)⟩
      · rw [List.concat_eq_append] at *
        have hj := hslt j (by simp)
        obtain ⟨y, hy⟩ : ∃ y, l[j]? = some y := ⟨_, List.getElem?_eq_getElem hj.2⟩
        have hac : acOf l (i + 1) j = ⟨y.md, y.fn, lineM l y j (i + 1)⟩ := by unfold acOf; rw [hy]
        simp only [List.map_append, List.map_cons, List.map_nil, List.getLast?_append, List.getLast?_singleton, Option.some_or, hac] at hst
        have hlo := lineOf_R l j (i + 1) y hy hj.1 (by omega) (by omega)
        rw [hii] at hlo
        have hgq : ((L ++ [j]).map ixR)[L.length]? = some (ixR j) := by simp
        have hlen2 : (((L ++ [j]).length : Nat) : Int) = (L.length : Int) + 1 := by simp
        have hrowj : ∀ {K : List V → Prop} {m : Int}, m = (j : Int) → K y.row → Ix (l.map Ev.row) m K := fun h k => ⟨⟨j, y.row, h, by rw [List.getElem?_map, hy]; rfl, k⟩⟩
        have hadd := hadd2 y.md (lineM l y j (i + 1))
        clear hsl hdp hslt hadd2
        generalize lineM l y j (i + 1) = ln at *
        by_cases h0 : 0 < a
        · rw [if_pos h0] at hst
          repeat' ((conv => whnf); first | refine (Ix.mk ⟨L.length, ixR j, by (first | rfl | (simp; done) | fail), hgq, ?_⟩) | refine hrowj rfl ?_ | refine Gs.id ?_ | refine Brn.T (by (try simp only [smT]); first | rfl | assumption | omega | fail) ?_ | (refine Bnd.mk (fun hm => ?_); (try simp only [smT] at hm)) | refine Rng.mk (by (try simp only [smT]); omega) ?_ | refine Drw.of (T := tt) (i := 11) [] [] [(0, true), (1, true), (2, true), (3, true), (4, true), (5, true), (6, true), (7, true), (8, true), (9, true), (11, true), (10, false), (12, true), (13, false), (14, true)] (by kernel_rfl) ?_ | (refine CL.mk (Or.inl ?_); (conv => whnf); first | refine Cl.is (hstk) rfl (by first | (intro e; cases e; done) | fail) ?_ | refine Cl.is (ham) rfl (by first | exact fun _ => rfl | fail) ?_ | refine Cl.is (hlo) rfl (by first | exact fun _ => rfl | fail) ?_ | refine Cl.is (hadd) rfl (by first | (intro e; cases e; done) | fail) ?_) | fail)
          all_goals (conv => whnf)
          all_goals exact ⟨i + 1, by omega, by omega, [], by (rw [hst]; exact ⟨by (try dsimp only); (repeat (refine LeT.cons rfl (by first | exact LeS.d (by first | exact LeD.u rfl | fail) | fail) ?_)); exact LeT.nil, by (try dsimp only); repeat (first | exact LeO.nil | fail)⟩)⟩
        · rw [if_neg h0] at hst
          repeat' ((conv => whnf); first | refine Gs.id ?_ | with_reducible refine Brn.F rfl ?_ | refine Brn.F (by (try simp only [smT]); first | rfl | omega | fail) ?_ | refine Rng.mk (by (try simp only [smT]); omega) ?_ | (refine CL.mk (Or.inl ?_); (conv => whnf); first | refine Cl.is (hstk) rfl (by first | (intro e; cases e; done) | fail) ?_ | refine Cl.is (ham) rfl (by first | exact fun _ => rfl | fail) ?_) | fail)
          all_goals (conv => whnf)
          all_goals exact ⟨i + 1, by omega, by omega, [], by (rw [hst]; exact ⟨by (try dsimp only); (repeat (refine LeT.cons rfl (by first | exact LeS.d (by first | exact LeD.u rfl | fail) | fail) ?_)); exact LeT.nil, by (try dsimp only); repeat (first | exact LeO.nil | fail)⟩)⟩
  · obtain rfl : i = l.length := by omega
    repeat' ((conv => whnf); first | refine Gs.id ?_ | refine Brn.F (by (try simp only [smT]); first | rfl | omega | fail) ?_ | (refine Bnd.mk (fun hm => ?_); (try simp only [smT] at hm)) | fail)
    all_goals (conv => whnf)
    all_goals first | exact Ret.is rfl | exact Ret.nl (by repeat (fail))
end Go.Proofs.YtabmcfnefjipbaaDoor
namespace Go.Proofs.YtabmcfnefjipbaaDoor
open Go.RowKit
theorem linesM_le {l : List Ev} {fuel : Int} : (linesM l fuel).length ≤ 2 * l.length := by
  have := lines_len (l := l) (fuel := fuel) l.length
  unfold linesM
  rw [(srtL_perm _).length_eq]
  exact this
set_option maxHeartbeats 4000000 in
theorem law_lines_T (l : List Ev) (fuel : Int) (hsz : ∀ e ∈ l, e.md.size ≤ 1000000000000) (hx : fuel ≤ 9223372036854775807) (zt : Fz) (hz : Tab zt) : CallsA Tryd.prog 4 [.d (.u (evs l)), di fuel] [(907, tbOb zt)] (Iso (db true) [(907, tbOb zt)]) := by
  have hv := validate_T l
  have ht := trace_R l hsz
  have hf := fuelFault_T l fuel hsz
  have hp := profiled_T zt hz
  by_cases h0 : (checkM l fuel).1 = 0
  · have hc := checkM_zero h0
    have t := check_Tr (l := l) (fuel := fuel) h0 hx
    have h1 := lines_own hc hx
    have h2 := linesR_R t
    have hle := linesM_le (l := l) (fuel := fuel)
    have hL := t.len
    rw [← lines_agree] at h2
    rw [hc] at hf
    generalize linesM l fuel = cs at *
    generalize validM l = v at *
    refine callsA_of_vcO (T := tt) Tryd.func4 rfl rfl rfl rfl rfl ?_
    repeat' ((conv => whnf); first | refine Gs.id ?_ | with_reducible refine Brn.F rfl ?_ | (refine Brn.mk (fun hb => ?_) (fun hb => ?_) <;> (try simp only [smT] at hb) <;> (try (exact absurd trivial hb)) <;> (try (exfalso; omega))) | (refine Bnd.mk (fun hm => ?_); (try simp only [smT] at hm)) | (refine CL.mk (Or.inl ?_); (conv => whnf); first | refine Cl.is (hf) rfl (by first | exact fun _ => rfl | fail) ?_ | refine Cl.is (h2) rfl (by first | (intro e; cases e; done) | fail) ?_) | (refine CL.mk (Or.inr (Raw.callI [] [911] rfl rfl rfl rfl rfl rfl rfl (h1) ?_)); rintro _ _ ⟨rfl, rfl⟩; refine Bk.mk rfl rfl ?_))
    all_goals (conv => whnf)
    refine ⟨⟨Nat, fun i => i ≤ cs.length, fun i => cs.length - i, fun i => ⟨[(5, .d (.ow 911 cs.length)), (8, .d (.u (.sl 4 (cs.map lcR)))), (9, di i)], [(911, .ar 40 4 (cs.map lcR)), (907, tbOb zt)]⟩, 0, Nat.zero_le _, ⟨[(911, .k 911), (907, .k 907)], ⟨by (try dsimp only); (repeat (refine LeT.cons rfl (by first | exact LeS.d (by first | exact LeD.u rfl | exact LeD.ow rfl rfl | fail) | fail) ?_)); exact LeT.nil, by (try dsimp only); repeat (first | exact LeO.nil | refine LeO.ar rfl rfl (by first | rfl | fail) ?_ | refine LeO.ab rfl rfl (by repeat (first | exact LeL.nil | fail)) (by first | rfl | fail) ?_ | fail)⟩⟩, fun i hi => ?_⟩⟩
    dsimp only at hi ⊢
    by_cases h9 : i < cs.length
    · have hg : (cs.map lcR)[i]? = some (lcR cs[i]) := by rw [List.getElem?_map, List.getElem?_eq_getElem h9]; rfl
      generalize cs[i] = c at *
      repeat' ((conv => whnf); first | refine (Ix.mk ⟨i, lcR c, rfl, hg, ?_⟩) | refine Rw.get hg ?_ | refine Gs.id ?_ | refine Brn.T (by (try simp only [smT]); first | rfl | omega | fail) ?_ | refine Brn.F (by (try simp only [smT]); first | rfl | (simp [*]; done) | fail) ?_ | (refine Bnd.mk (fun hm => ?_); (try simp only [smT] at hm)) | refine Rng.mk (by (try simp only [smT]); omega) ?_ | refine Ixo.mk ⟨_, rfl, (by (try simp only [smT]); omega), ?_⟩ | refine Eqv.mk (by kernel_rfl) ?_ | refine Drw.of (T := tt) (i := 11) [] [] [(0, true), (1, true), (2, true), (3, true), (4, true), (5, true), (6, true), (7, true), (8, true)] (by kernel_rfl) ?_)
      all_goals (conv => whnf)
      all_goals exact ⟨i + 1, by omega, by omega, [(911, .k 911), (907, .k 907)], ⟨by (try dsimp only); (repeat (refine LeT.cons rfl (by first | exact LeS.d (by first | exact LeD.u rfl | exact LeD.ow rfl rfl | fail) | fail) ?_)); exact LeT.nil, by (try dsimp only); repeat (first | exact LeO.nil | refine LeO.ar rfl rfl (by first | rfl | fail) ?_ | refine LeO.ab rfl rfl (by repeat (first | exact LeL.nil | fail)) (by first | rfl | fail) ?_ | fail)⟩⟩
    · obtain rfl : i = cs.length := by omega
      repeat' ((conv => whnf); first | refine Gs.id ?_ | refine Brn.F (by (try simp only [smT]); first | rfl | omega | fail) ?_ | (refine Bnd.mk (fun hm => ?_); (try simp only [smT] at hm)) | (refine CL.mk (Or.inr (Raw.callI [907] [907] rfl rfl rfl rfl rfl rfl rfl (hp) ?_)); rintro _ _ ⟨rfl, rfl⟩; refine Bk.mk rfl rfl ?_))
      all_goals (conv => whnf)
      all_goals refine RetO.mk ⟨[(907, .k 907)], _, _, (by first | exact LeS.d (by first | exact LeD.u rfl | fail) | fail), (by repeat (first | exact LeO.nil | refine LeO.ab rfl rfl (by repeat (first | exact LeL.nil | fail)) (by first | rfl | fail) ?_ | fail)), rfl, rfl⟩
  · have h1 := lines_bad h0
    generalize validM l = v at *
    generalize checkM l fuel = m at *
    obtain ⟨c, i⟩ := m
    dsimp only at *
    refine callsA_of_vcO (T := tt) Tryd.func4 rfl rfl rfl rfl rfl ?_
    repeat' ((conv => whnf); first | refine Gs.id ?_ | with_reducible refine Brn.T rfl ?_ | refine Brn.T (by (try simp only [smT]); first | rfl | assumption | (simp [*]; done) | fail) ?_ | refine Eqv.mk (by kernel_rfl) ?_ | (refine CL.mk (Or.inl ?_); (conv => whnf); first | refine Cl.is (hf) rfl (by first | exact fun _ => rfl | fail) ?_ | refine Cl.is (h1) rfl (by first | exact fun _ => rfl | fail) ?_) | (refine CL.mk (Or.inr (Raw.callI [907] [907] rfl rfl rfl rfl rfl rfl rfl (hp) ?_)); rintro _ _ ⟨rfl, rfl⟩; refine Bk.mk rfl rfl ?_))
    all_goals (conv => whnf)
    all_goals refine RetO.mk ⟨[(907, .k 907)], _, _, (by first | exact LeS.d (by first | exact LeD.u rfl | fail) | fail), (by repeat (first | exact LeO.nil | refine LeO.ab rfl rfl (by repeat (first | exact LeL.nil | fail)) (by first | rfl | fail) ?_ | fail)), rfl, rfl⟩
end Go.Proofs.YtabmcfnefjipbaaDoor
namespace Go.Proofs.YtabmcfnefjipbaaDoor
open Go.RowKit
def sumOwn : List Co → Int
  | [] => 0
  | c :: r => c.own + sumOwn r
theorem sumOwn_app : ∀ (a b : List Co), sumOwn (a ++ b) = sumOwn a + sumOwn b
  | [], b => by simp [sumOwn]
  | c :: a, b => by rw [List.cons_append, sumOwn, sumOwn, sumOwn_app a b]; omega
theorem sumOwn_upd {g : Co → Co} (d : Int) (hg : ∀ c, (g c).own = c.own + d) : ∀ {l : List Co} {f : Fu}, f ∈ l.map Co.fu → sumOwn (updF g l f) = sumOwn l + d
  | [], f, h => by simp at h
  | c :: r, f, h => by
    rw [updF]
    by_cases hc : c.fu = f
    · rw [if_pos hc, sumOwn, sumOwn, hg]; omega
    · rw [if_neg hc, sumOwn, sumOwn]
      have : f ∈ r.map Co.fu := by
        simp only [List.map_cons, List.mem_cons] at h
        exact h.resolve_left fun e => hc e.symm
      rw [sumOwn_upd d hg this]; omega
theorem sumOwn_upd0 {g : Co → Co} (hg : ∀ c, (g c).own = c.own) : ∀ (l : List Co) (f : Fu), sumOwn (updF g l f) = sumOwn l
  | [], f => rfl
  | c :: r, f => by
    rw [updF]
    split
    · rw [sumOwn, sumOwn, hg]
    · rw [sumOwn, sumOwn, sumOwn_upd0 hg r f]
theorem sumOwn_tot (a : Int) : ∀ (s : List Ac) (seen : List Fu) (l : List Co), sumOwn (totM a seen s l) = sumOwn l
  | [], _, _ => rfl
  | x :: r, seen, l => by
    rw [totM]
    split
    · exact sumOwn_tot a r seen l
    · rw [sumOwn_tot a r, sumOwn_upd0 (g := addTot a) (fun _ => rfl)]
theorem bump_own (k : Int) (c : Co) : (bump k c).own = c.own := by unfold bump; (repeat' split) <;> rfl
theorem sumOwn_ens (l : List Co) (f : Fu) : sumOwn (ensF l f) = sumOwn l := by
  unfold ensF
  split
  · rfl
  · rw [sumOwn_app]; simp [sumOwn, zeroC]
/-- The fuel so far is all given out. -/
theorem costs_sum {l : List Ev} {fuel : Int} (t : Tr l fuel) : ∀ i, i ≤ l.length → sumOwn (costsAt l fuel i).out + (costsAt l fuel i).rest = curF l fuel i
  | 0, _ => by cases l <;> simp [costsAt, sumOwn, beforeM, curF]
  | i + 1, hi => by
    have he : l[i]? = some l[i] := List.getElem?_eq_getElem (by omega)
    have ih := costs_sum t i (by omega)
    have hmem := costs_mem (l := l) (fuel := fuel) (i + 1) (by omega)
    have hsm := stack_mem (l := l) (i + 1) (by omega)
    have ha := amt_eq (fuel := fuel) he
    rw [costsAt_succ he] at hmem ⊢
    have hfus := stepC_fus (costsAt l fuel i) l[i] (amt l fuel i) (stackAt l (i + 1))
    generalize costsAt l fuel i = x at *
    generalize amt l fuel i = a at *
    generalize l[i] = e at *
    generalize stackAt l (i + 1) = s at *
    have h1 : sumOwn (updF (bump e.kind) (ensF x.out e.fu) e.fu) = sumOwn x.out := by rw [sumOwn_upd0 (bump_own _), sumOwn_ens]
    cases hs : s.getLast? with
    | none =>
      have hst : stepC x e a s = ⟨updF (bump e.kind) (ensF x.out e.fu) e.fu, x.rest + a⟩ := by unfold stepC; rw [hs]
      rw [hst]
      dsimp only
      rw [h1]
      omega
    | some tp =>
      have hst : stepC x e a s = ⟨totM a [] s (updF (addOwn a) (updF (bump e.kind) (ensF x.out e.fu) e.fu) tp.fu), x.rest⟩ := by unfold stepC; rw [hs]
      have hin : tp.fu ∈ (updF (bump e.kind) (ensF x.out e.fu) e.fu).map Co.fu := by
        have h2 := hsm tp (List.mem_of_getLast? hs)
        have h3 := (hmem tp.fu).2 h2
        rw [hfus] at h3
        rw [updF_fus _ (bump_fu _)]
        exact h3
      rw [hst]
      dsimp only
      rw [sumOwn_tot, sumOwn_upd (g := addOwn a) a (fun _ => rfl) hin, h1]
      omega
theorem costsM_sum {l : List Ev} {fuel : Int} (t : Tr l fuel) : sumOwn (costsM l fuel) = fuel := by
  have h := costs_sum t l.length (Nat.le_refl _)
  have hc : curF l fuel l.length = fuel := by unfold curF; rw [List.getElem?_eq_none (Nat.le_refl _)]
  have hr := (costs_CI t l.length (Nat.le_refl _)).r0
  unfold costsM
  dsimp only
  split
  · rw [sumOwn_app]; simp only [sumOwn]; omega
  · omega
end Go.Proofs.YtabmcfnefjipbaaDoor
namespace Go.Proofs.YtabmcfnefjipbaaDoor
open Go.RowKit
theorem costI_own {l : List Ev} {fuel : Int} (t : Tr l fuel) (f : Fu) : ∀ i, i ≤ l.length → (costI l fuel f i).own ≤ (costI l fuel f i).tot
  | 0, _ => Int.le_refl _
  | i + 1, hi => by
    have he : l[i]? = some l[i] := List.getElem?_eq_getElem (by omega)
    have ih := costI_own t f i (by omega)
    have ha := t.amt he
    rw [costI_succ he]
    generalize costI l fuel f i = c at *
    generalize amt l fuel i = a at *
    unfold costStep
    dsimp only
    have h1 : (if l[i].fu = f then bump l[i].kind c else c).own ≤ (if l[i].fu = f then bump l[i].kind c else c).tot := by
      split
      · unfold bump
        (repeat' split) <;> exact ih
      · exact ih
    generalize (if l[i].fu = f then bump l[i].kind c else c) = c1 at *
    by_cases hm : f ∈ actAt l (i + 1)
    · rw [if_pos hm]
      split
      · simp only [addOwn, addTot]; omega
      · simp only [addTot]; omega
    · rw [if_neg hm, if_neg (fun h => hm h.1)]
      exact h1
/-- How often a function is active. -/
def cnt (f : Fu) : List Fu → Int
  | [] => 0
  | x :: r => (if x = f then 1 else 0) + cnt f r
theorem cnt_app (f : Fu) : ∀ (a b : List Fu), cnt f (a ++ b) = cnt f a + cnt f b
  | [], b => by simp [cnt]
  | x :: a, b => by rw [List.cons_append, cnt, cnt, cnt_app f a b]; omega
theorem cnt_nonneg (f : Fu) : ∀ a : List Fu, 0 ≤ cnt f a
  | [] => Int.le_refl _
  | x :: a => by have := cnt_nonneg f a; rw [cnt]; split <;> omega
theorem costI_calls {l : List Ev} {fuel : Int} (hv : Vd l) (f : Fu) : ∀ i, i ≤ l.length → (costI l fuel f i).calls - (costI l fuel f i).rets - (costI l fuel f i).raises = cnt f (actAt l i)
  | 0, _ => by simp [costI, zeroC, actAt, cnt]
  | i + 1, hi => by
    have he : l[i]? = some l[i] := List.getElem?_eq_getElem (by omega)
    have ih := costI_calls (fuel := fuel) hv f i (by omega)
    have ok := hv.ok he
    have hlast := ok.last
    have k1 := ok.k1
    have k4 := ok.k4
    have hact := actAt_succ he
    rw [costI_succ he]
    have hstep : ∀ (c : Co) (act : List Fu) (a : Int), (costStep f c l[i] a act).calls - (costStep f c l[i] a act).rets - (costStep f c l[i] a act).raises = (if l[i].fu = f then bump l[i].kind c else c).calls - (if l[i].fu = f then bump l[i].kind c else c).rets - (if l[i].fu = f then bump l[i].kind c else c).raises := fun c act a => by
      unfold costStep
      dsimp only
      generalize (if l[i].fu = f then bump l[i].kind c else c) = c1
      split <;> split <;> rfl
    rw [hstep, hact]
    generalize costI l fuel f i = c at *
    generalize actAt l i = act at *
    generalize l[i] = e at *
    unfold actM pushM at *
    by_cases h2 : e.kind = 2
    · have h1' : ¬ e.kind = 1 := by omega
      rw [if_pos h2, if_neg (show ¬ 2 < e.kind by omega), cnt_app, cnt, cnt]
      by_cases hf : e.fu = f
      · rw [if_pos hf, if_pos hf]
        unfold bump
        rw [if_neg h1', if_pos h2]
        dsimp only
        omega
      · rw [if_neg hf, if_neg hf]; omega
    · rw [if_neg h2] at hlast ⊢
      by_cases h1 : e.kind = 1
      · rw [if_neg (show ¬ 2 < e.kind by omega)]
        split
        · unfold bump
          rw [if_pos h1]
          exact ih
        · exact ih
      · rw [if_pos (show 2 < e.kind by omega)]
        rcases List.eq_nil_or_concat act with rfl | ⟨L, x, rfl⟩
        · simp at hlast
        · rw [List.concat_eq_append] at *
          simp only [List.getLast?_append, List.getLast?_singleton, Option.some_or, Option.some.injEq] at hlast
          subst hlast
          rw [List.dropLast_concat]
          rw [cnt_app, cnt, cnt] at ih
          by_cases hf : e.fu = f
          · rw [if_pos hf] at ih ⊢
            rcases (show e.kind = 3 ∨ e.kind = 4 by omega) with h3 | h3
            · unfold bump
              rw [if_neg h1, if_neg h2, if_pos h3]
              dsimp only
              omega
            · unfold bump
              rw [if_neg h1, if_neg h2, if_neg (show ¬ e.kind = 3 by omega)]
              dsimp only
              omega
          · rw [if_neg hf] at ih ⊢; omega
structure CoOk (fuel : Int) (c : Co) : Prop where
  own : 0 ≤ c.own
  tot : c.own ≤ c.tot
  fl : c.tot ≤ fuel
  ends : c.rets + c.raises ≤ c.calls
  rng : (0 ≤ c.rets ∧ c.rets ≤ 20000) ∧ (0 ≤ c.raises ∧ c.raises ≤ 20000)
theorem costs_ok2 {l : List Ev} {fuel : Int} (t : Tr l fuel) : ∀ c ∈ costsM l fuel, CoOk fuel c := by
  have hL := t.len
  have h1 : ∀ c ∈ (costsAt l fuel l.length).out, CoOk fuel c := by
    intro c hc
    rw [costs_map t.vd l.length (Nat.le_refl _)] at hc
    obtain ⟨f, _, rfl⟩ := List.mem_map.1 hc
    obtain ⟨_, r0, e0, _, o0, t0⟩ := costI_bd t f l.length (Nat.le_refl _)
    have ho := costI_own t f l.length (Nat.le_refl _)
    have hcl := costI_calls (fuel := fuel) t.vd f l.length (Nat.le_refl _)
    have hn := cnt_nonneg f (actAt l l.length)
    have hc : curF l fuel l.length = fuel := by unfold curF; rw [List.getElem?_eq_none (Nat.le_refl _)]
    exact ⟨o0.1, ho, by have := t0.2; rw [hc] at this; exact this, by omega, by omega⟩
  unfold costsM
  dsimp only
  split
  · rename_i hr
    intro c hc
    rcases List.mem_append.1 hc with hc | hc
    · exact h1 c hc
    · simp at hc
      subst hc
      have hcI := costs_CI t l.length (Nat.le_refl _)
      have hcc : curF l fuel l.length = fuel := by unfold curF; rw [List.getElem?_eq_none (Nat.le_refl _)]
      have := hcI.r1
      rw [hcc] at this
      exact ⟨by dsimp only; omega, Int.le_refl _, this, by dsimp only; omega, by dsimp only; omega⟩
  · exact h1
/-- A part of a valid trace is one. -/
theorem vFrom_of {l : List Ev} : ∀ (r : List Ev) (i : Nat), l.drop i = r → Vd l → vFrom (i : Int) (fuelAt l i) (actAt l i) r = (0, 0)
  | [], _, _, _ => rfl
  | x :: r, i, hd, hv => by
    have hx : l[i]? = some x := by rw [← List.head?_drop, hd]; rfl
    have hd2 : l.drop (i + 1) = r := by rw [← List.drop_drop, hd]; rfl
    have h0 := hv i x hx
    have e1 : ((i + 1 : Nat) : Int) = (i : Int) + 1 := by omega
    rw [vFrom, if_neg (by simpa using h0), ← e1, ← fuelAt_succ hx, ← actAt_succ hx]
    exact vFrom_of r (i + 1) hd2 hv
theorem fuelAt_take {l : List Ev} {n i : Nat} (h : i ≤ n) : fuelAt (l.take n) i = fuelAt l i := by
  cases i with
  | zero => rfl
  | succ j => simp only [fuelAt, List.getElem?_take, if_pos (show j < n by omega)]
theorem actAt_take {l : List Ev} {n i : Nat} (h : i ≤ n) : actAt (l.take n) i = actAt l i := by
  unfold actAt
  rw [List.take_take, Nat.min_eq_left h]
theorem check_take {l : List Ev} {fuel : Int} (t : Tr l fuel) (n : Nat) (hn : n ≤ l.length) : checkM (l.take n) (curF l fuel n) = (0, 0) := by
  have hv : Vd (l.take n) := fun i e he => by
    rw [List.getElem?_take] at he
    split at he
    · rename_i hi
      rw [fuelAt_take (by omega), actAt_take (by omega)]
      exact t.vd i e he
    · cases he
  have hL := t.len
  have hval : validM (l.take n) = (0, 0) := by
    unfold validM
    rw [if_neg (by rw [List.length_take]; omega)]
    exact vFrom_of (l.take n) 0 rfl hv
  have hc := t.cur n hn
  unfold checkM
  rw [hval]
  rw [if_neg (by simp), if_neg]
  rintro (h | ⟨h1, h2⟩)
  · omega
  · rw [lastFuel_eq, List.length_take, Nat.min_eq_left hn, fuelAt_take (Nat.le_refl _)] at h2
    have hm : fuelAt l n ≤ curF l fuel n := by
      by_cases hl : n < l.length
      · have he : l[n]? = some l[n] := List.getElem?_eq_getElem hl
        rw [curF_get he]
        exact (t.vd.ok he).fuel
      · obtain rfl : n = l.length := by omega
        unfold curF
        rw [List.getElem?_eq_none (Nat.le_refl _)]
        exact t.fl
    omega
end Go.Proofs.YtabmcfnefjipbaaDoor
namespace Go.Proofs.YtabmcfnefjipbaaDoor
open Go.RowKit
def sumTo (cs : List Co) (i : Nat) : Int := sumOwn (cs.take i)
theorem sumTo_succ {cs : List Co} {i : Nat} {c : Co} (h : cs[i]? = some c) : sumTo cs (i + 1) = sumTo cs i + c.own := by
  unfold sumTo
  rw [List.take_add_one, h, sumOwn_app]
  simp [sumOwn]
theorem sumOwn_nonneg : ∀ {cs : List Co}, (∀ c ∈ cs, 0 ≤ c.own) → 0 ≤ sumOwn cs
  | [], _ => Int.le_refl _
  | c :: r, h => by
    have := sumOwn_nonneg (cs := r) fun x hx => h x (by simp [hx])
    have := h c (by simp)
    rw [sumOwn]; omega
theorem sumTo_bd {cs : List Co} (h : ∀ c ∈ cs, 0 ≤ c.own) (i : Nat) : 0 ≤ sumTo cs i ∧ sumTo cs i ≤ sumOwn cs := by
  unfold sumTo
  refine ⟨sumOwn_nonneg fun c hc => h c (List.mem_of_mem_take hc), ?_⟩
  have e : sumOwn cs = sumOwn (cs.take i) + sumOwn (cs.drop i) := by rw [← sumOwn_app, List.take_append_drop]
  have := sumOwn_nonneg (cs := cs.drop i) fun c hc => h c (List.mem_of_mem_drop hc)
  omega
theorem costs_b {l : List Ev} {fuel : Int} (hc : checkM l fuel = (0, 0)) (hx : fuel ≤ 9223372036854775807) : CallsA Tryd.prog 7 [.d (.u (evs l)), di fuel] [] (Iso (.t [.d (.ow 912 (costsM l fuel).length), .a [.u (.int .i64 0), .u (.int .i64 0)]]) [(912, .ar 33 8 ((costsM l fuel).map coR))]) :=
  (costs_ok hc hx).renO [(912, .k 901)] (by exact LeS.ts (by repeat (first | exact LeCs.nil | refine LeCs.cons (by first | exact LeC.d (by first | exact LeD.ow rfl rfl | fail) | exact LeC.a (by repeat (first | exact LeL.nil | refine LeL.cons (by first | exact LeD.u rfl | fail) ?_))) ?_))) (by repeat (first | exact LeO.nil | refine LeO.ar rfl rfl (by first | rfl | fail) ?_ | fail))
set_option maxHeartbeats 4000000 in
theorem law_adds_T (l : List Ev) (fuel n : Int) (hsz : ∀ e ∈ l, e.md.size ≤ 1000000000000) (hx : fuel ≤ 9223372036854775807) (zt : Fz) (hz : Tab zt) : CallsA Tryd.prog 5 [.d (.u (evs l)), di fuel, di n] [(907, tbOb zt)] (Iso (db true) [(907, tbOb zt)]) := by
  have hf := fuelFault_T l fuel hsz
  have hp := profiled_T zt hz
  have hin := in_R n 0 ((l.map Ev.row).length : Nat)
  have hlm : (l.map Ev.row).length = l.length := List.length_map _
  by_cases h0 : (checkM l fuel).1 = 0
  · have hc := checkM_zero h0
    rw [hc] at hf
    by_cases hn : 0 ≤ n ∧ n ≤ ((l.map Ev.row).length : Int)
    · rw [decide_eq_true hn] at hin
      obtain ⟨m, rfl⟩ : ∃ m : Nat, n = m := ⟨n.toNat, by omega⟩
      have hm : m ≤ l.length := by omega
      have t := check_Tr (l := l) (fuel := fuel) h0 hx
      have hL := t.len
      have hcur := t.cur m hm
      have h1 := costs_ok hc hx
      have hck := check_take t m hm
      have h2 := costs_b hck (by omega)
      have t2 := check_Tr (l := l.take m) (fuel := curF l fuel m) (by rw [hck]) (by omega)
      have hs1 := costsM_sum t
      have hs2 := costsM_sum t2
      have ho1 := costs_ok2 t
      have ho2 := costs_ok2 t2
      have hle1 := costs_le (l := l) (fuel := fuel)
      have hle2 := costs_le (l := l.take m) (fuel := curF l fuel m)
      have hlt : (l.take m).length ≤ 20000 := by rw [List.length_take]; omega
      have hev : evs (l.take m) = .sl 8 ((l.map Ev.row).take m) := by rw [evs, List.map_take]
      rw [hev] at h2
      generalize costsM l fuel = ca at *
      generalize costsM (l.take m) (curF l fuel m) = cb at *
      have hb1 := sumTo_bd fun c hc => (ho1 c hc).own
      have hb2 := sumTo_bd fun c hc => (ho2 c hc).own
      clear t2 hck hev h0 hc
      refine callsA_of_vcO (T := tt) Tryd.func5 rfl rfl rfl rfl rfl ?_
      refine' cutR (fun _ : Unit => True) (fun _ => ⟨[(0, .d (.u (evs l))), (1, di fuel), (2, di m), (7, di (curF l fuel m))], [(907, tbOb zt)]⟩) _ (fun hR => ?_) ?_
      rotate_left
      · by_cases hml : m < l.length
        · obtain ⟨e, he⟩ : ∃ e, l[m]? = some e := ⟨_, List.getElem?_eq_getElem hml⟩
          have hcf := curF_get (fuel := fuel) he
          have hrow : ∀ {K : List V → Prop} {j : Int}, j = (m : Int) → K e.row → Ix (l.map Ev.row) j K := fun h k => ⟨⟨m, e.row, h, by rw [List.getElem?_map, he]; rfl, k⟩⟩
          repeat' ((conv => whnf); first | refine hrow rfl ?_ | (exact Gs.cut (i := 6) (by assumption) () [(907, .k 907)] rfl ⟨by (try dsimp only); (repeat (refine LeT.cons rfl (by first | exact LeS.d (by first | exact LeD.u rfl | exact LeD.u (by simp [hcf]; done) | fail) | fail) ?_)); (first | exact LeT.nil | fail), by (try dsimp only); (repeat (first | exact LeO.nil | refine LeO.ab rfl rfl (by repeat (first | exact LeL.nil | fail)) (by first | rfl | fail) ?_ | fail)); done⟩ (by trivial)) | refine Gs.id ?_ | with_reducible refine Brn.F rfl ?_ | refine Brn.T (by (try simp only [smT]); first | rfl | omega | fail) ?_ | (refine Bnd.mk (fun hm => ?_); (try simp only [smT] at hm)) | (refine CL.mk (Or.inl ?_); (conv => whnf); first | refine Cl.is (hf) rfl (by first | exact fun _ => rfl | fail) ?_ | refine Cl.is (hin) rfl (by first | exact fun _ => rfl | fail) ?_) | fail)
        · have hcf : curF l fuel m = fuel := by unfold curF; rw [List.getElem?_eq_none (by omega)]
          repeat' ((conv => whnf); first | (exact Gs.cut (i := 6) (by assumption) () [(907, .k 907)] rfl ⟨by (try dsimp only); (repeat (refine LeT.cons rfl (by first | exact LeS.d (by first | exact LeD.u rfl | exact LeD.u (by simp [hcf]; done) | fail) | fail) ?_)); (first | exact LeT.nil | fail), by (try dsimp only); (repeat (first | exact LeO.nil | refine LeO.ab rfl rfl (by repeat (first | exact LeL.nil | fail)) (by first | rfl | fail) ?_ | fail)); done⟩ (by trivial)) | refine Gs.id ?_ | with_reducible refine Brn.F rfl ?_ | refine Brn.F (by (try simp only [smT]); first | rfl | omega | fail) ?_ | (refine Bnd.mk (fun hm => ?_); (try simp only [smT] at hm)) | (refine CL.mk (Or.inl ?_); (conv => whnf); first | refine Cl.is (hf) rfl (by first | exact fun _ => rfl | fail) ?_ | refine Cl.is (hin) rfl (by first | exact fun _ => rfl | fail) ?_) | fail)
      · intro _ _
        dsimp only
        repeat' ((conv => whnf); first | refine Slc.mk ⟨0, m, rfl, rfl, by omega, by omega, ?_⟩ | refine Gs.go (i := 8) ((Ghost.frzA 901 rfl (by repeat ((conv => whnf); first | exact trivial | refine Len.mk (by first | rfl | simp) ?_))).trans (Ghost.frzA 912 rfl (by repeat ((conv => whnf); first | exact trivial | refine Len.mk (by first | rfl | simp) ?_)))) ?_ | refine Gs.id ?_ | with_reducible refine Brn.F rfl ?_ | (refine CL.mk (Or.inr (Raw.callI [] [901] rfl rfl rfl rfl rfl rfl rfl (h1) ?_)); rintro _ _ ⟨rfl, rfl⟩; refine Bk.mk rfl rfl ?_) | (refine CL.mk (Or.inr (Raw.callI [] [912] rfl rfl rfl rfl rfl rfl rfl (h2) ?_)); rintro _ _ ⟨rfl, rfl⟩; refine Bk.mk rfl rfl ?_))
        all_goals (conv => whnf)
        refine ⟨⟨Nat, fun i => i ≤ ca.length, fun i => ca.length - i, fun i => ⟨[(1, di fuel), (7, di (curF l fuel m)), (8, .d (.u (.sl 8 (ca.map coR)))), (10, .d (.u (.sl 8 (cb.map coR)))), (12, di (sumTo ca i)), (13, di 0), (14, di i)], [(907, tbOb zt)]⟩, 0, Nat.zero_le _, ⟨[(907, .k 907)], ⟨by (try dsimp only); (repeat (refine LeT.cons rfl (by first | exact LeS.d (by first | exact LeD.u rfl | fail) | fail) ?_)); exact LeT.nil, by (try dsimp only); repeat (first | exact LeO.nil | refine LeO.ab rfl rfl (by repeat (first | exact LeL.nil | fail)) (by first | rfl | fail) ?_ | fail)⟩⟩, fun i hi => ?_⟩⟩
        dsimp only at hi ⊢
        by_cases h9 : i < ca.length
        · have hg : ca[i]? = some ca[i] := List.getElem?_eq_getElem h9
          have hg2 : (ca.map coR)[i]? = some (coR ca[i]) := by rw [List.getElem?_map, hg]; rfl
          have hst := sumTo_succ hg
          have hbi := hb1 i
          have hbi2 := hb1 (i + 1)
          obtain ⟨o1, o2, o3, o4, o5⟩ := ho1 _ (List.mem_of_getElem? hg)
          have hmx := t.mx
          rw [hst] at hbi2
          generalize ca[i] = c at *
          generalize sumTo ca i = S at *
          repeat' ((conv => whnf); first | refine (Ix.mk ⟨i, coR c, rfl, hg2, ?_⟩) | refine Gs.id ?_ | refine Brn.T (by (try simp only [smT]); first | rfl | omega | fail) ?_ | refine Brn.F (by (try simp only [smT]); first | rfl | assumption | fail) ?_ | (refine Bnd.mk (fun hm => ?_); (try simp only [smT] at hm)) | refine Rng.mk (by (try simp only [smT]); omega) ?_ | refine Drw.of (T := tt) (i := 15) [] [] [(0, true), (1, true), (2, true), (3, true), (4, true), (5, true), (6, true), (7, true), (8, true), (9, true), (10, true), (11, true), (12, true), (13, true), (14, true), (15, true), (16, true), (17, true), (18, true), (19, true), (20, true), (21, true), (22, true), (23, true), (24, true), (25, true), (26, true), (27, true), (28, true), (29, true), (30, true), (31, true), (32, true), (33, true), (34, true), (35, true), (36, true), (37, true), (38, true), (39, true), (40, true), (41, true), (42, true), (43, true), (44, true), (45, true), (46, true)] (by kernel_rfl) ?_)
          all_goals (conv => whnf)
          all_goals exact ⟨i + 1, by omega, by omega, [(907, .k 907)], by rw [hst]; exact ⟨by (try dsimp only); (repeat (refine LeT.cons rfl (by first | exact LeS.d (by first | exact LeD.u rfl | fail) | fail) ?_)); exact LeT.nil, by (try dsimp only); repeat (first | exact LeO.nil | refine LeO.ab rfl rfl (by repeat (first | exact LeL.nil | fail)) (by first | rfl | fail) ?_ | fail)⟩⟩
        · obtain rfl : i = ca.length := by omega
          have hsa : sumTo ca ca.length = fuel := by unfold sumTo; rw [List.take_length]; exact hs1
          rw [hsa]
          clear hb1 ho1
          repeat' ((conv => whnf); first | refine Gs.id ?_ | refine Brn.F (by (try simp only [smT]); first | rfl | omega | fail) ?_ | (refine Bnd.mk (fun hm => ?_); (try simp only [smT] at hm)) | fail)
          all_goals (conv => whnf)
          refine ⟨⟨Nat, fun i => i ≤ cb.length, fun i => cb.length - i, fun i => ⟨[(1, di fuel), (7, di (curF l fuel m)), (10, .d (.u (.sl 8 (cb.map coR)))), (12, di fuel), (13, di (sumTo cb i)), (15, di i)], [(907, tbOb zt)]⟩, 0, Nat.zero_le _, ⟨[(907, .k 907)], ⟨by (try dsimp only); (repeat (refine LeT.cons rfl (by first | exact LeS.d (by first | exact LeD.u rfl | fail) | fail) ?_)); exact LeT.nil, by (try dsimp only); repeat (first | exact LeO.nil | refine LeO.ab rfl rfl (by repeat (first | exact LeL.nil | fail)) (by first | rfl | fail) ?_ | fail)⟩⟩, fun i hi => ?_⟩⟩
          dsimp only at hi ⊢
          by_cases h8 : i < cb.length
          · have hg : cb[i]? = some cb[i] := List.getElem?_eq_getElem h8
            have hg2 : (cb.map coR)[i]? = some (coR cb[i]) := by rw [List.getElem?_map, hg]; rfl
            have hst := sumTo_succ hg
            have hbi := hb2 i
            have hbi2 := hb2 (i + 1)
            obtain ⟨o1, o2, o3, o4, o5⟩ := ho2 _ (List.mem_of_getElem? hg)
            rw [hst] at hbi2
            generalize cb[i] = c at *
            generalize sumTo cb i = S at *
            repeat' ((conv => whnf); first | refine (Ix.mk ⟨i, coR c, rfl, hg2, ?_⟩) | refine Gs.id ?_ | refine Brn.T (by (try simp only [smT]); first | rfl | omega | fail) ?_ | (refine Bnd.mk (fun hm => ?_); (try simp only [smT] at hm)) | refine Rng.mk (by (try simp only [smT]); omega) ?_ | fail)
            all_goals (conv => whnf)
            all_goals exact ⟨i + 1, by omega, by omega, [(907, .k 907)], by rw [hst]; exact ⟨by (try dsimp only); (repeat (refine LeT.cons rfl (by first | exact LeS.d (by first | exact LeD.u rfl | fail) | fail) ?_)); exact LeT.nil, by (try dsimp only); repeat (first | exact LeO.nil | refine LeO.ab rfl rfl (by repeat (first | exact LeL.nil | fail)) (by first | rfl | fail) ?_ | fail)⟩⟩
          · obtain rfl : i = cb.length := by omega
            have hsb : sumTo cb cb.length = curF l fuel m := by unfold sumTo; rw [List.take_length]; exact hs2
            rw [hsb]
            generalize curF l fuel m = R at *
            repeat' ((conv => whnf); first | refine Gs.id ?_ | refine Brn.F (by (try simp only [smT]); first | rfl | omega | fail) ?_ | (refine Brn.mk (fun hb => ?_) (fun hb => ?_) <;> (try simp only [smT] at hb) <;> (try (exact absurd trivial hb)) <;> (try (exfalso; omega))) | (refine Bnd.mk (fun hm => ?_); (try simp only [smT] at hm)) | (refine CL.mk (Or.inr (Raw.callI [907] [907] rfl rfl rfl rfl rfl rfl rfl (hp) ?_)); rintro _ _ ⟨rfl, rfl⟩; refine Bk.mk rfl rfl ?_))
            all_goals (conv => whnf)
            all_goals refine RetO.mk ⟨[(907, .k 907)], _, _, (by first | exact LeS.d (by first | exact LeD.u rfl | fail) | fail), (by repeat (first | exact LeO.nil | refine LeO.ab rfl rfl (by repeat (first | exact LeL.nil | fail)) (by first | rfl | fail) ?_ | fail)), rfl, rfl⟩
    · rw [decide_eq_false hn] at hin
      refine callsA_of_vcO (T := tt) Tryd.func5 rfl rfl rfl rfl rfl ?_
      repeat' ((conv => whnf); first | refine Gs.id ?_ | with_reducible refine Brn.T rfl ?_ | with_reducible refine Brn.F rfl ?_ | (refine Bnd.mk (fun hm => ?_); (try simp only [smT] at hm)) | (refine CL.mk (Or.inl ?_); (conv => whnf); first | refine Cl.is (hf) rfl (by first | exact fun _ => rfl | fail) ?_ | refine Cl.is (hin) rfl (by first | exact fun _ => rfl | fail) ?_) | (refine CL.mk (Or.inr (Raw.callI [907] [907] rfl rfl rfl rfl rfl rfl rfl (hp) ?_)); rintro _ _ ⟨rfl, rfl⟩; refine Bk.mk rfl rfl ?_))
      all_goals (conv => whnf)
      all_goals refine RetO.mk ⟨[(907, .k 907)], _, _, (by first | exact LeS.d (by first | exact LeD.u rfl | fail) | fail), (by repeat (first | exact LeO.nil | refine LeO.ab rfl rfl (by repeat (first | exact LeL.nil | fail)) (by first | rfl | fail) ?_ | fail)), rfl, rfl⟩
  · generalize checkM l fuel = v at *
    obtain ⟨c, i⟩ := v
    dsimp only at *
    refine callsA_of_vcO (T := tt) Tryd.func5 rfl rfl rfl rfl rfl ?_
    repeat' ((conv => whnf); first | refine Gs.id ?_ | with_reducible refine Brn.T rfl ?_ | refine Brn.T (by (try simp only [smT]); first | rfl | assumption | fail) ?_ | (refine CL.mk (Or.inl ?_); (conv => whnf); refine Cl.is (hf) rfl (by first | exact fun _ => rfl | fail) ?_) | (refine CL.mk (Or.inr (Raw.callI [907] [907] rfl rfl rfl rfl rfl rfl rfl (hp) ?_)); rintro _ _ ⟨rfl, rfl⟩; refine Bk.mk rfl rfl ?_))
    all_goals (conv => whnf)
    all_goals refine RetO.mk ⟨[(907, .k 907)], _, _, (by first | exact LeS.d (by first | exact LeD.u rfl | fail) | fail), (by repeat (first | exact LeO.nil | refine LeO.ab rfl rfl (by repeat (first | exact LeL.nil | fail)) (by first | rfl | fail) ?_ | fail)), rfl, rfl⟩
end Go.Proofs.YtabmcfnefjipbaaDoor
namespace Go.Proofs.YtabmcfnefjipbaaDoor
open Go.RowKit Go.Sort
def sumG {α : Type} (h : α → Int) : List α → Int
  | [] => 0
  | c :: r => h c + sumG h r
section
variable {α : Type} (h : α → Int)
theorem sumG_app : ∀ (a b : List α), sumG h (a ++ b) = sumG h a + sumG h b
  | [], b => by simp [sumG]
  | c :: a, b => by rw [List.cons_append, sumG, sumG, sumG_app a b]; omega
theorem sumG_perm {a b : List α} (p : a.Perm b) : sumG h a = sumG h b := by
  induction p with
  | nil => rfl
  | cons x _ ih => rw [sumG, sumG, ih]
  | swap x y l => simp only [sumG]; omega
  | trans _ _ i1 i2 => rw [i1, i2]
theorem sumG_congr {g : α → Int} : ∀ {l : List α}, (∀ c ∈ l, h c = g c) → sumG h l = sumG g l
  | [], _ => rfl
  | c :: r, e => by rw [sumG, sumG, e c (by simp), sumG_congr fun x hx => e x (by simp [hx])]
theorem sumG_nonneg : ∀ {l : List α}, (∀ c ∈ l, 0 ≤ h c) → 0 ≤ sumG h l
  | [], _ => Int.le_refl _
  | c :: r, e => by
    have := sumG_nonneg (l := r) fun x hx => e x (by simp [hx])
    have := e c (by simp)
    rw [sumG]; omega
theorem sumG_bd {l : List α} (e : ∀ c ∈ l, 0 ≤ h c) (i : Nat) : 0 ≤ sumG h (l.take i) ∧ sumG h (l.take i) ≤ sumG h l := by
  refine ⟨sumG_nonneg h fun c hc => e c (List.mem_of_mem_take hc), ?_⟩
  have e1 : sumG h l = sumG h (l.take i) + sumG h (l.drop i) := by rw [← sumG_app, List.take_append_drop]
  have := sumG_nonneg h (l := l.drop i) fun c hc => e c (List.mem_of_mem_drop hc)
  omega
theorem sumG_succ {l : List α} {i : Nat} {c : α} (e : l[i]? = some c) : sumG h (l.take (i + 1)) = sumG h (l.take i) + h c := by
  rw [List.take_add_one, e, sumG_app]
  simp [sumG]
end
theorem sumOwn_eq : ∀ l : List Co, sumOwn l = sumG Co.own l
  | [] => rfl
  | c :: r => by rw [sumOwn, sumG, sumOwn_eq r]
/-- Lines of functions. -/
theorem sumLn_upd {g : Co → Co} (d : Int) (hg : ∀ c, (g c).lines = c.lines + d) : ∀ {l : List Co} {f : Fu}, f ∈ l.map Co.fu → sumG Co.lines (updF g l f) = sumG Co.lines l + d
  | [], f, h => by simp at h
  | c :: r, f, h => by
    rw [updF]
    by_cases hc : c.fu = f
    · rw [if_pos hc, sumG, sumG, hg]; omega
    · rw [if_neg hc, sumG, sumG]
      have : f ∈ r.map Co.fu := by
        simp only [List.map_cons, List.mem_cons] at h
        exact h.resolve_left fun e => hc e.symm
      rw [sumLn_upd d hg this]; omega
theorem sumLn_upd0 {g : Co → Co} (hg : ∀ c, (g c).lines = c.lines) : ∀ (l : List Co) (f : Fu), sumG Co.lines (updF g l f) = sumG Co.lines l
  | [], f => rfl
  | c :: r, f => by
    rw [updF]
    split
    · rw [sumG, sumG, hg]
    · rw [sumG, sumG, sumLn_upd0 hg r f]
theorem sumLn_tot (a : Int) : ∀ (s : List Ac) (seen : List Fu) (l : List Co), sumG Co.lines (totM a seen s l) = sumG Co.lines l
  | [], _, _ => rfl
  | x :: r, seen, l => by
    rw [totM]
    split
    · exact sumLn_tot a r seen l
    · rw [sumLn_tot a r, sumLn_upd0 (g := addTot a) (fun _ => rfl)]
theorem sumLn_ens (l : List Co) (f : Fu) : sumG Co.lines (ensF l f) = sumG Co.lines l := by
  unfold ensF
  split
  · rfl
  · rw [sumG_app]; simp [sumG, zeroC]
theorem bump_lines (k : Int) (c : Co) : (bump k c).lines = c.lines + (if k = 1 then 1 else 0) := by
  unfold bump
  by_cases h : k = 1
  · simp [h]
  · simp only [if_neg h]
    (repeat' split) <;> simp
/-- Costs of lines. -/
theorem sumL_upd (h : Lc → Int) {g : Lc → Lc} (d : Int) (hg : ∀ c, h (g c) = h c + d) : ∀ {l : List Lc} {p : Pl}, p ∈ l.map Lc.pl → sumG h (updK Lc.pl g l p) = sumG h l + d
  | [], p, e => by simp at e
  | c :: r, p, e => by
    rw [updK]
    by_cases hc : c.pl = p
    · rw [if_pos hc, sumG, sumG, hg]; omega
    · rw [if_neg hc, sumG, sumG]
      have : p ∈ r.map Lc.pl := by
        simp only [List.map_cons, List.mem_cons] at e
        exact e.resolve_left fun e => hc e.symm
      rw [sumL_upd h d hg this]; omega
theorem sumL_ens (h : Lc → Int) (hz : ∀ p, h (zeroL p) = 0) (l : List Lc) (p : Pl) : sumG h (ensL l p) = sumG h l := by
  unfold ensL ensK
  split
  · rfl
  · rw [sumG_app]; simp [sumG, hz]
theorem sumL_put (h : Lc → Int) (hz : ∀ p, h (zeroL p) = 0) {g : Lc → Lc} (d : Int) (hg : ∀ c, h (g c) = h c + d) (l : List Lc) (p : Pl) : sumG h (updL g (ensL l p) p) = sumG h l + d := by
  unfold updL
  rw [sumL_upd h d hg (l := ensL l p) ((mem_ensK (key := Lc.pl) (mk := zeroL) (fun _ => rfl)).2 (.inr rfl)), sumL_ens h hz]
/-- Both give out the same fuel, and count the same lines. -/
theorem sums_eq {l : List Ev} {fuel : Int} (t : Tr l fuel) : ∀ i, i ≤ l.length → sumOwn (costsAt l fuel i).out = sumG Lc.ow (linesAt l fuel i) ∧ sumG Co.lines (costsAt l fuel i).out = sumG Lc.ct (linesAt l fuel i) ∧ sumG Lc.ct (linesAt l fuel i) ≤ i
  | 0, _ => by cases l <;> simp [costsAt, linesAt, sumOwn, sumG]
  | i + 1, hi => by
    have he : l[i]? = some l[i] := List.getElem?_eq_getElem (by omega)
    obtain ⟨ih1, ih2, ih3⟩ := sums_eq t i (by omega)
    have hmem := costs_mem (l := l) (fuel := fuel) (i + 1) (by omega)
    have hsm := stack_mem (l := l) (i + 1) (by omega)
    have ha := t.amt he
    rw [costsAt_succ he] at hmem ⊢
    rw [linesAt_succ he]
    have hfus := stepC_fus (costsAt l fuel i) l[i] (amt l fuel i) (stackAt l (i + 1))
    generalize costsAt l fuel i = x at *
    generalize linesAt l fuel i = y at *
    generalize amt l fuel i = a at *
    generalize l[i] = e at *
    generalize stackAt l (i + 1) = s at *
    have hef : e.fu ∈ (ensF x.out e.fu).map Co.fu := mem_ensF.2 (.inr rfl)
    have h1 : sumOwn (updF (bump e.kind) (ensF x.out e.fu) e.fu) = sumOwn x.out := by rw [sumOwn_upd0 (bump_own _), sumOwn_ens]
    have h2 : sumG Co.lines (updF (bump e.kind) (ensF x.out e.fu) e.fu) = sumG Co.lines x.out + (if e.kind = 1 then 1 else 0) := by rw [sumLn_upd _ (bump_lines e.kind) hef, sumLn_ens]
    have k1 : sumG Lc.ow (if e.kind = 1 then updL incL (ensL y e.pl) e.pl else y) = sumG Lc.ow y := by
      split
      · rw [sumL_put Lc.ow (fun _ => rfl) (g := incL) 0 (fun _ => by simp [incL])]; omega
      · rfl
    have k2 : sumG Lc.ct (if e.kind = 1 then updL incL (ensL y e.pl) e.pl else y) = sumG Lc.ct y + (if e.kind = 1 then 1 else 0) := by
      split
      · rw [sumL_put Lc.ct (fun _ => rfl) (g := incL) 1 (fun _ => rfl)]
      · omega
    have hone : (if e.kind = 1 then (1 : Int) else 0) ≤ 1 := by split <;> omega
    generalize (if e.kind = 1 then (1 : Int) else 0) = d at *
    unfold stepN
    dsimp only
    generalize (if e.kind = 1 then updL incL (ensL y e.pl) e.pl else y) = y1 at *
    cases hs : s.getLast? with
    | none =>
      have hst : stepC x e a s = ⟨updF (bump e.kind) (ensF x.out e.fu) e.fu, x.rest + a⟩ := by unfold stepC; rw [hs]
      rw [hst]
      dsimp only
      exact ⟨by rw [h1, k1, ih1], by rw [h2, k2, ih2], by rw [k2]; omega⟩
    | some tp =>
      have hst : stepC x e a s = ⟨totM a [] s (updF (addOwn a) (updF (bump e.kind) (ensF x.out e.fu) e.fu) tp.fu), x.rest⟩ := by unfold stepC; rw [hs]
      have hin : tp.fu ∈ (updF (bump e.kind) (ensF x.out e.fu) e.fu).map Co.fu := by
        have h2 := hsm tp (List.mem_of_getLast? hs)
        have h3 := (hmem tp.fu).2 h2
        rw [hfus] at h3
        rw [updF_fus _ (bump_fu _)]
        exact h3
      rw [hst]
      dsimp only
      rw [sumOwn_tot, sumOwn_upd (g := addOwn a) a (fun _ => rfl) hin, h1, sumLn_tot, sumLn_upd0 (g := addOwn a) (fun _ => rfl), h2]
      by_cases h0 : 0 < a
      · rw [if_pos h0, sumL_put Lc.ow (fun _ => rfl) (g := addL a) a (fun _ => rfl), sumL_put Lc.ct (fun _ => rfl) (g := addL a) 0 (fun _ => by simp [addL]), k1, k2]
        exact ⟨by rw [ih1], by rw [ih2]; omega, by omega⟩
      · rw [if_neg h0, k1, k2]
        exact ⟨by omega, by rw [ih2], by omega⟩
abbrev nob : ByteArray := ByteArray.mk #[]
def ownN (c : Co) : Int := if c.fn = nob then 0 else c.own
def linesN (c : Co) : Int := if c.fn = nob then 0 else c.lines
theorem costs_fn {l : List Ev} {fuel : Int} (t : Tr l fuel) : ∀ c ∈ (costsAt l fuel l.length).out, c.fn ≠ nob := by
  intro c hc e
  obtain ⟨j, ev, _, h2, h3⟩ := (costs_mem (l := l) (fuel := fuel) l.length (Nat.le_refl _) c.fu).1 (List.mem_map.2 ⟨c, hc, rfl⟩)
  have hn := (t.vd.ok h2).name.2
  have : ev.fn = nob := by have := congrArg Prod.snd h3; simp only [Ev.fu, Co.fu] at this; rw [this, e]
  rw [this] at hn
  exact absurd hn (by decide)
theorem sumN_costs {l : List Ev} {fuel : Int} (t : Tr l fuel) : sumG ownN (costsM l fuel) = sumG Lc.ow (linesM l fuel) ∧ sumG linesN (costsM l fuel) = sumG Lc.ct (linesM l fuel) ∧ sumG Lc.ow (linesM l fuel) ≤ fuel ∧ sumG Lc.ct (linesM l fuel) ≤ l.length := by
  obtain ⟨h1, h2, h3⟩ := sums_eq t l.length (Nat.le_refl _)
  have hf := costs_fn t
  have hsum := costsM_sum t
  have e1 : sumG ownN (costsM l fuel) = sumG Co.own (costsAt l fuel l.length).out := by
    rw [← sumG_congr ownN (g := Co.own) fun c hc => by simp [ownN, hf c hc]]
    unfold costsM
    dsimp only
    split
    · rw [sumG_app]; simp [sumG, ownN]
    · rfl
  have e2 : sumG linesN (costsM l fuel) = sumG Co.lines (costsAt l fuel l.length).out := by
    rw [← sumG_congr linesN (g := Co.lines) fun c hc => by simp [linesN, hf c hc]]
    unfold costsM
    dsimp only
    split
    · rw [sumG_app]; simp [sumG, linesN]
    · rfl
  have e3 : sumOwn (costsAt l fuel l.length).out ≤ fuel := by
    refine Int.le_trans (b := sumOwn (costsM l fuel)) ?_ (Int.le_of_eq hsum)
    unfold costsM
    dsimp only
    split
    · rename_i h0; rw [sumOwn_app]; simp only [sumOwn]; omega
    · exact Int.le_refl _
  have p := srtL_perm (linesAt l fuel l.length)
  unfold linesM
  rw [sumG_perm Lc.ow p, sumG_perm Lc.ct p, e1, e2, ← sumOwn_eq]
  exact ⟨h1, h2, by rw [← h1]; exact e3, h3⟩
/-- Each entry is in bounds. -/
theorem lines_bd {l : List Ev} {fuel : Int} (t : Tr l fuel) : ∀ c ∈ linesM l fuel, 0 ≤ c.ct ∧ 0 ≤ c.ow := by
  intro c hc
  have := lines_LB t l.length (Nat.le_refl _) c ((srtL_perm _).mem_iff.1 hc)
  exact ⟨this.1, this.2.2.1⟩
theorem costsN_bd {l : List Ev} {fuel : Int} (t : Tr l fuel) : ∀ c ∈ costsM l fuel, 0 ≤ ownN c ∧ 0 ≤ linesN c := by
  have h1 : ∀ c ∈ (costsAt l fuel l.length).out, 0 ≤ c.lines := by
    intro c hc
    rw [costs_map t.vd l.length (Nat.le_refl _)] at hc
    obtain ⟨f, _, rfl⟩ := List.mem_map.1 hc
    obtain ⟨_, _, _, l0, _, _⟩ := costI_bd t f l.length (Nat.le_refl _)
    exact l0.1
  intro c hc
  refine ⟨?_, ?_⟩
  · unfold ownN
    split
    · exact Int.le_refl _
    · exact (costs_ok2 t c hc).own
  · unfold linesN
    split
    · exact Int.le_refl _
    · rename_i hn
      unfold costsM at hc
      dsimp only at hc
      split at hc
      · rcases List.mem_append.1 hc with hc | hc
        · exact h1 c hc
        · simp at hc; subst hc; exact absurd rfl hn
      · exact h1 c hc
theorem linesM_srt {l : List Ev} {fuel : Int} : Srt (linesM l fuel) := by
  rw [lines_agree]
  exact (ref_lines _).1
/-- One entry stands behind another. -/
theorem lt_facts {p x : Lc} (h : ltOf cfL p x = true) : strLt x.md p.md = false ∧ (x.md = p.md → p.ln < x.ln) := by
  rw [ltL] at h
  have h3 := cmpB_neg x.md.data.toList p.md.data.toList
  refine ⟨?_, fun e => ?_⟩
  · unfold strLt
    rw [bytes_toList, bytes_toList, less_cmp]
    exact decide_eq_false (by omega)
  · rw [e] at h
    have := cmpB_self p.md.data.toList
    omega
end Go.Proofs.YtabmcfnefjipbaaDoor
