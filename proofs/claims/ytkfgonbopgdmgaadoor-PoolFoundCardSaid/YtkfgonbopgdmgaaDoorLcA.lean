/- Local times in memory, as keys of maps, and as arguments of a law. -/
import Derived.Test.YtkfgonbopgdmgaaDoorDfS
import Derived.Deep.Slices
import Derived.Deep.Fields
import Derived.ChangeSame
import Derived.Lib.SmallJoins
namespace Go.Proofs.YtkfgonbopgdmgaaDoor.Tb
open Px
/-- a local time -/
structure Lc where
  off : Int
  dst : Bool
  abbr : ByteArray
  deriving DecidableEq
def Lc.val (l : Lc) : Value := .agg #[.int .i64 l.off, .bool l.dst, .string l.abbr]
end Go.Proofs.YtkfgonbopgdmgaaDoor.Tb
namespace Go.Proofs.YtkfgonbopgdmgaaDoor.Px
open Go.RowKit
open Go.Joins Go.ChangeShapes Go.WideShapes Go.Deep
open Go.Maps (Keyed)
open Tb

def Lc.cells (l : Lc) : List Value := [.int .i64 l.off, .bool l.dst, .string l.abbr]
/-- a slice of local times in memory -/
def LcV (W : World) (v : Value) (L : List Lc) : Prop := SlV W v 3 L.length (L.flatMap Lc.cells)
theorem LcV.keep {W W' : World} {v : Value} {L : List Lc} (h : LcV W v L) (hB : Below W.heap.size W W') : LcV W' v L := SlV.keep h hB
theorem LcV.own {W : World} {B n : Nat} {e : TypeId} {v : Value} {L : List Lc} (h : W.ownsRow B e 3 v n (L.flatMap Lc.cells)) (hn : n = L.length) : LcV W v L := by subst hn; exact SlV.of_own h
theorem LcV.nil (W : World) : LcV W (.slice none 0 0) [] := SlV.nil W 3
theorem lc_at (L : List Lc) {i : Nat} {l : Lc} (h : L[i]? = some l) : (L.flatMap Lc.cells)[i * 3 + 0]? = some (.int .i64 l.off) ∧ (L.flatMap Lc.cells)[i * 3 + 1]? = some (.bool l.dst) ∧ (L.flatMap Lc.cells)[i * 3 + 2]? = some (.string l.abbr) := by
  refine ⟨?_, ?_, ?_⟩ <;> (rw [flat_at Lc.cells 3 (fun _ => rfl) L i _ (by omega), h]; rfl)
theorem lc_len (L : List Lc) : (L.flatMap Lc.cells).length = L.length * 3 := flat_len Lc.cells 3 (fun _ => rfl) L
/-- a local time of a slice -/
theorem LcV.get {W : World} {v : Value} {L : List Lc} (h : LcV W v L) {i : Nat} {l : Lc} (hi : L[i]? = some l) : ∃ b o c, v = .slice (some ⟨b, o, none⟩) L.length c ∧ b < W.heap.size ∧
    W.cell? ⟨b, o + i * 3, none⟩ = some (.int .i64 l.off) ∧ W.cell? ⟨b, o + i * 3 + 1, none⟩ = some (.bool l.dst) ∧ W.cell? ⟨b, o + i * 3 + 2, none⟩ = some (.string l.abbr) := by
  have hlt : i < L.length := (List.getElem?_eq_some_iff.1 hi).1
  obtain ⟨_, a, c, rfl, _, _, h3⟩ := h
  rcases h3 with h3 | ⟨b, o, rfl, hb, hc⟩
  · omega
  · obtain ⟨h0, h1, h2⟩ := lc_at L hi
    exact ⟨b, o, c, rfl, hb, hc _ _ h0, hc _ _ h1, hc _ _ h2⟩
/-- the cells of all local times of a slice that is not empty -/
theorem LcV.all {W : World} {v : Value} {L : List Lc} (h : LcV W v L) (h0 : 0 < L.length) : ∃ b o c, v = .slice (some ⟨b, o, none⟩) L.length c ∧ L.length ≤ c ∧ c ≤ maxLen ∧ b < W.heap.size ∧
    ∀ (i : Nat) (l : Lc), L[i]? = some l → W.cell? ⟨b, o + i * 3, none⟩ = some (.int .i64 l.off) ∧ W.cell? ⟨b, o + i * 3 + 1, none⟩ = some (.bool l.dst) ∧ W.cell? ⟨b, o + i * 3 + 2, none⟩ = some (.string l.abbr) := by
  obtain ⟨_, a, c, rfl, h1, h2, h3⟩ := h
  rcases h3 with h3 | ⟨b, o, rfl, hb, hc⟩
  · omega
  · refine ⟨b, o, c, rfl, h1, h2, hb, fun i l hi => ?_⟩
    obtain ⟨h0, h1, h2⟩ := lc_at L hi
    exact ⟨hc _ _ h0, hc _ _ h1, hc _ _ h2⟩
theorem LcV.slice {W : World} {v : Value} {L : List Lc} (h : LcV W v L) : ∃ a c, v = .slice a L.length c ∧ L.length ≤ c ∧ c ≤ maxLen := by
  obtain ⟨_, a, c, e, h1, h2, _⟩ := h
  exact ⟨a, c, e, h1, h2⟩
/-- what is in the range of its Go type -/
def Lc.Fit (l : Lc) : Prop := (Lit.int .i64 l.off).wf = true ∧ l.abbr.size ≤ maxLen
section
variable {H : Type} {enc : TypeId × Value → H} {P : Program} {w : World} {base : Nat} {spare : Nat → Bool} {held : Bool}
theorem open_slice_fields {t e : TypeId} {fs : Array Field} {fuel : Nat} {cs : List Value} {x : DataW H × List MemPlace} (ht : P.underlying t = some (.slice e)) (he : P.underlying e = some (.struct fs))
    (hone : oneCellFields P fs = true) (hC : P.cellsOf e = fs.size) (h : DataW.trod enc P w base spare held fuel t cs = some x) :
    (cs = [.slice none 0 0] ∧ x = (.nil, [])) ∨
    ∃ (a : Addr) (len cap m : Nat) (D : Nat → DataW H) (Pl : Nat → List MemPlace), cs = [.slice (some a) len cap] ∧ base ≤ a.block ∧ len ≤ cap ∧ cap ≤ maxLen ∧ m = (if spare a.block then cap else len) ∧
      x = (.slice ((List.range len).map D) ((List.range (m - len)).map fun j => D (len + j)), MemPlace.row a (m * fs.size) ++ (List.range m).flatMap Pl) ∧
      ∀ i, i < m → ∃ (ys : List (DataW H × List MemPlace)) (n : Nat), D i = .agg (ys.map (·.1)) ∧ Pl i = ys.flatMap (·.2) ∧ ys.length = fs.size ∧
        ∀ (j : Nat) (f : Field), fs[j]? = some f → ∃ (v : Value) (y : DataW H × List MemPlace), w.cell? (a.add (i * fs.size + j)) = some v ∧ ys[j]? = some y ∧ DataW.trod enc P w base spare held n f.type [v] = some y := by
  rcases open_slice ht h with h0 | ⟨a, len, cap, m, n, D, Pl, hcs, hb, hl, hm, hmm, hx, hi⟩
  · exact .inl h0
  · refine .inr ⟨a, len, cap, m, D, Pl, hcs, hb, hl, hm, hmm, by rw [hC] at hx; exact hx, fun i him => ?_⟩
    obtain ⟨cs', hc, ht'⟩ := hi i him
    rw [hC] at hc
    obtain ⟨ys, n', hn', hy, hlen, hyl, hf⟩ := DataW.trod_struct he ht'
    obtain ⟨_, hcl, hat⟩ := World.cells?_some hc
    simp only [Prod.mk.injEq] at hy
    refine ⟨ys, n', hy.1, hy.2, hyl, fun j f hj => ?_⟩
    obtain ⟨ho, hk⟩ := hone_of hone j f hj
    have hjl : j < fs.size := (Array.getElem?_eq_some_iff.1 hj).1
    have hcell := hat j hjl
    have hv : cs'[j]? = some (cs'[j]'(by omega)) := List.getElem?_eq_getElem (by omega)
    have h1 := hf j f hj
    rw [ho, hk] at h1
    have hone' : (cs'.drop j).take 1 = [cs'[j]'(by omega)] := by
      rw [List.drop_eq_getElem_cons (by omega)]
      rfl
    rw [hone'] at h1
    have hys : ys[j]? = some (ys[j]'(by omega)) := List.getElem?_eq_getElem (by omega)
    refine ⟨_, _, ?_, hys, h1.trans hys⟩
    rw [← Go.Deep.add_add, hcell, hv]
end
/-- elements that are chosen one by one, as a list -/
theorem list_of {α : Type} {Q : Nat → α → Prop} : ∀ n : Nat, (∀ i, i < n → ∃ x, Q i x) → ∃ L : List α, L.length = n ∧ ∀ (i : Nat) (x : α), L[i]? = some x → Q i x
  | 0, _ => ⟨[], rfl, fun i x h => by simp at h⟩
  | n + 1, h => by
    obtain ⟨L, hl, hq⟩ := list_of n (fun i hi => h i (by omega))
    obtain ⟨x, hx⟩ := h n (by omega)
    refine ⟨L ++ [x], by simp [hl], fun i y hy => ?_⟩
    by_cases hi : i < n
    · rw [List.getElem?_append_left (by omega)] at hy
      exact hq i y hy
    · rw [List.getElem?_append_right (by omega)] at hy
      have : i = n := by
        by_cases e : i = n
        · exact e
        · rw [List.getElem?_eq_none (by simp; omega)] at hy
          cases hy
      subst this
      rw [hl, Nat.sub_self] at hy
      simp only [List.getElem?_cons_zero, Option.some.injEq] at hy
      subst hy
      exact hx
/-- the cells of a list of elements, one by one -/
theorem flat_cells {α : Type} {f : α → List Value} {sz : Nat} (hf : ∀ x, (f x).length = sz) (hsz : 0 < sz) {L : List α} {W : World} {b o : Nat} (h : ∀ (i : Nat) (x : α), L[i]? = some x → ∀ (j : Nat) (u : Value), (f x)[j]? = some u → W.cell? ⟨b, o + (i * sz + j), none⟩ = some u) :
    ∀ (j : Nat) (u : Value), (L.flatMap f)[j]? = some u → W.cell? ⟨b, o + j, none⟩ = some u := by
  intro j u hu
  have hl := (List.getElem?_eq_some_iff.1 hu).1
  rw [flat_len f sz hf] at hl
  have e : j = j / sz * sz + j % sz := by rw [Nat.mul_comm]; exact (Nat.div_add_mod j sz).symm
  have hm := Nat.mod_lt j hsz
  have hd : j / sz < L.length := Nat.div_lt_of_lt_mul (by rw [Nat.mul_comm]; exact hl)
  rw [e, flat_at f sz hf L _ _ hm, List.getElem?_eq_getElem hd] at hu
  rw [e]
  exact h _ _ (List.getElem?_eq_getElem hd) _ _ hu
section
variable {H : Type} {enc : TypeId × Value → H} {w : World} {base : Nat} {spare : Nat → Bool} {held : Bool}
set_option maxRecDepth 100000 in
theorem open_lcs {n : Nat} {v : Value} {y : DataW H × List MemPlace} (h : DataW.trod enc Tryd.prog w base spare held n 32 [v] = some y) : ∃ L : List Lc, LcV w v L ∧ ∀ l ∈ L, Lc.Fit l := by
  rcases open_slice_fields Tryd.underlying32 Tryd.underlying36 (by kernel_rfl) (by kernel_rfl) h with ⟨hc, _⟩ | ⟨a, len, cap, m, D, Pl, hc, _, hl, hm, hmm, _, hi⟩
  · simp only [List.cons.injEq, and_true] at hc
    subst hc
    exact ⟨[], LcV.nil w, fun l hl => by cases hl⟩
  · simp only [List.cons.injEq, and_true] at hc
    subst hc
    have hlm : len ≤ m := by subst hmm; split <;> omega
    obtain ⟨L, hL, hq⟩ := list_of (Q := fun i (l : Lc) => (w.cell? (a.add (i * 3 + 0)) = some (.int .i64 l.off) ∧ w.cell? (a.add (i * 3 + 1)) = some (.bool l.dst) ∧ w.cell? (a.add (i * 3 + 2)) = some (.string l.abbr)) ∧ Lc.Fit l) len (fun i him => by
      obtain ⟨ys, k, _, _, _, hf⟩ := hi i (by omega)
      obtain ⟨v0, y0, c0, _, t0⟩ := hf 0 _ rfl
      obtain ⟨v1, y1, c1, _, t1⟩ := hf 1 _ rfl
      obtain ⟨v2, y2, c2, _, t2⟩ := hf 2 _ rfl
      obtain ⟨x0, e0, _, z0⟩ := DataW.trod_int Tryd.underlying2 t0
      obtain ⟨x1, e1, _⟩ := DataW.trod_bool Tryd.underlying4 t1
      obtain ⟨x2, e2, _, z2⟩ := DataW.trod_string Tryd.underlying9 t2
      simp only [List.cons.injEq, and_true] at e0 e1 e2
      subst e0 e1 e2
      exact ⟨⟨x0, x1, x2⟩, ⟨c0, c1, c2⟩, z0, z2⟩)
    refine ⟨L, ⟨lc_len L, some a, cap, by rw [hL], by omega, hm, ?_⟩, fun l hl => ?_⟩
    · by_cases h0 : L.length = 0
      · exact .inl h0
      · right
        obtain ⟨⟨c00, _, _⟩, _⟩ := hq 0 _ (List.getElem?_eq_getElem (by omega))
        obtain ⟨b, o, spot⟩ := a
        have hspot : spot = none := by simpa [Addr.add] using World.cell?_spot c00
        subst hspot
        have key := flat_cells (f := Lc.cells) (sz := 3) (fun _ => rfl) (by omega) (L := L) (W := w) (b := b) (o := o) (fun i x hx j u hu => by
          obtain ⟨⟨q0, q1, q2⟩, _⟩ := hq i x hx
          rw [WideShapes.add_plain] at q0 q1 q2
          match j, hu with
          | 0, hu => simp only [Lc.cells, List.getElem?_cons_zero, Option.some.injEq] at hu; subst hu; exact q0
          | 1, hu => simp only [Lc.cells, List.getElem?_cons_succ, List.getElem?_cons_zero, Option.some.injEq] at hu; subst hu; exact q1
          | 2, hu => simp only [Lc.cells, List.getElem?_cons_succ, List.getElem?_cons_zero, Option.some.injEq] at hu; subst hu; exact q2
          | j + 3, hu => simp [Lc.cells] at hu)
        refine ⟨b, o, rfl, ?_, key⟩
        rw [WideShapes.add_plain] at c00
        exact block_lt_of_cell c00
    · obtain ⟨i, hi', e⟩ := List.getElem_of_mem hl
      exact (hq i l (by rw [List.getElem?_eq_getElem hi', e])).2
theorem slice_nil {t e : TypeId} {fuel : Nat} {v : Value} {x : DataW H × List MemPlace} (ht : Tryd.prog.underlying t = some (.slice e)) (h : DataW.trod enc Tryd.prog w base spare held fuel t [v] = some x) : ∀ n c, v = .slice none n c → c = 0 := by
  intro n c hc
  rcases open_slice ht h with ⟨h0, _⟩ | ⟨a, len, cap, m, k, D, Pl, h0, _⟩
  · simp only [List.cons.injEq, and_true] at h0
    rw [h0] at hc
    simp only [Value.slice.injEq] at hc
    exact hc.2.2.symm
  · simp only [List.cons.injEq, and_true] at h0
    rw [h0] at hc
    simp at hc
set_option maxRecDepth 100000 in
theorem slice_cells {t e : TypeId} {r : Reach} {b0 : Nat} {v : Value} {d : DataW H} {p : List MemPlace} (ht : Tryd.prog.underlying t = some (.slice e)) (hv : Value.okWide Tryd.prog w r b0 t v) (h : DataW.Trod enc Tryd.prog w base spare held t v d p) :
    ∃ fuel, DataW.trod enc Tryd.prog w base spare held fuel t [v] = some (d, p) := by
  obtain ⟨a, len, cap, rfl⟩ := okWide_slice ht hv
  obtain ⟨fuel, hf⟩ := h
  exact ⟨fuel, hf⟩
set_option maxRecDepth 100000 in
theorem open_lcs_arg {r : Reach} {b0 : Nat} {v : Value} {d : DataW H} {p : List MemPlace} (hv : Value.okWide Tryd.prog w r b0 32 v) (h : DataW.Trod enc Tryd.prog w base spare held 32 v d p) :
    ∃ L : List Lc, LcV w v L ∧ (∀ l ∈ L, Lc.Fit l) ∧ ∀ c, v = .slice none L.length c → c = 0 := by
  obtain ⟨fuel, hf⟩ := slice_cells Tryd.underlying32 hv h
  obtain ⟨L, hL, fL⟩ := open_lcs hf
  exact ⟨L, hL, fL, fun c hc => slice_nil Tryd.underlying32 hf _ c hc⟩
end
theorem loc_laid : laidOutB Tryd.prog = true := by kernel_rfl
theorem loc_row : (36 : TypeId) < Tryd.prog.types.size := of_decide_eq_true (by kernel_rfl)
theorem loc_wide : (match Tryd.prog.underlying 36 with | some (.array _ _) | some (.struct _) => true | _ => false) = true := by kernel_rfl
set_option maxRecDepth 1000000 in
theorem loc_keyed : Keyed Tryd.prog 36 := Keyed.of_law (deep_law_laid loc_laid (m := 2) (by omega) loc_row (by kernel_rfl) loc_wide)
theorem loc_cells : Tryd.prog.cellsOf 36 = 3 := by kernel_rfl
theorem str_cells1 : Tryd.prog.cellsOf 9 = 1 := by kernel_rfl
theorem bool_cells1 : Tryd.prog.cellsOf 4 = 1 := by kernel_rfl
theorem i64_cells1 : Tryd.prog.cellsOf 2 = 1 := by kernel_rfl
theorem loc_type : Tryd.prog.keyType 36 = true := by kernel_rfl
/-- the key of a local time -/
def lcKey (l : Lc) : Lit := .string (keyBytes [.int .i64 l.off, .bool l.dst, .string l.abbr.data.toList])
theorem lc_formed (l : Lc) : l.val.formed Tryd.prog 36 = true := by
  unfold Lc.val Value.formed
  rw [Tryd.underlying36, loc_cells]
  rfl
set_option maxRecDepth 1000000 in
theorem lcKey_is {l : Lc} (h : (Lit.int .i64 l.off).wf = true) (hs : l.abbr.size ≤ maxLen) : keyOf Tryd.prog 36 l.val = some (lcKey l) := by
  have h1 : Tryd.prog.keyLits (Tryd.prog.types.size + 1) 36 l.val.cells.toList = some [.int .i64 l.off, .bool l.dst, .string l.abbr.data.toList] := by
    obtain ⟨k, hk⟩ : ∃ k, Tryd.prog.types.size = k + 1 := ⟨Tryd.prog.types.size - 1, (Nat.succ_pred_eq_of_pos (Nat.lt_of_le_of_lt (Nat.zero_le _) loc_row)).symm⟩
    rw [hk]
    unfold Program.keyLits
    rw [Tryd.underlying36, loc_cells]
    simp [Lc.val, Value.cells, Program.keyLits, Tryd.underlying2, Tryd.underlying4, Tryd.underlying9, i64_cells1, bool_cells1, str_cells1, h, hs]
  unfold keyOf
  rw [Tryd.underlying36, loc_type, lc_formed, h1]
  rfl
theorem Lc.val_inj {a b : Lc} (h : a.val = b.val) : a = b := by
  obtain ⟨_, _, _⟩ := a
  obtain ⟨_, _, _⟩ := b
  simpa [Lc.val] using h
theorem lcKey_inj {a b : Lc} (ha : (Lit.int .i64 a.off).wf = true) (hsa : a.abbr.size ≤ maxLen) (hb : (Lit.int .i64 b.off).wf = true) (hsb : b.abbr.size ≤ maxLen) (h : lcKey a = lcKey b) : a = b := by
  have h1 := lcKey_is ha hsa
  have h2 := lcKey_is hb hsb
  rw [← h] at h2
  exact Lc.val_inj (loc_keyed.inj h1 h2)
theorem infoLc : (Tryd.prog.info? 36).map (fun i => (i.zero, i.size, i.bytes)) = some (some (.agg #[.int .i64 0, .bool false, .string ⟨#[]⟩]), 3, 32) := by kernel_rfl
theorem lcs_snoc (l : List Lc) (x : Lc) : (l ++ [x]).flatMap Lc.cells = l.flatMap Lc.cells ++ [.int .i64 x.off, .bool x.dst, .string x.abbr] := by simp [Lc.cells]
end Go.Proofs.YtkfgonbopgdmgaaDoor.Px
