/- Sources that are handed to a law, opened. -/
import Derived.Test.YtnffecoohkanhaaDoorM19
import Derived.Deep.Slices
import Derived.Deep.Fields
import Derived.ChangeSame
import Derived.Lib.SmallJoins
namespace Go.Proofs.YtnffecoohkanhaaDoor.Px
open Go.RowKit
open Go.Joins Go.ChangeShapes Go.WideShapes Go.Deep
open Go.Maps (Keyed)

section
variable {H : Type} {enc : TypeId × Value → H} {P : Program} {w : World} {base : Nat} {spare : Nat → Bool} {held : Bool}
theorem open_slice_fields {t e : TypeId} {fs : Array Field} {fuel : Nat} {cs : List Value} {x : DataW H × List MemPlace} (ht : P.underlying t = some (.slice e)) (he : P.underlying e = some (.struct fs))
    (hone : oneCellFields P fs = true) (hC : P.cellsOf e = fs.size) (h : DataW.trod enc P w base spare held fuel t cs = some x) :
    (cs = [.slice none 0 0] ∧ x = (.nil, [])) ∨
    ∃ (a : Addr) (len cap m : Nat) (D : Nat → DataW H) (Pl : Nat → List MemPlace), cs = [.slice (some a) len cap] ∧ base ≤ a.block ∧ len ≤ cap ∧ cap ≤ maxLen ∧ m = (if spare a.block then cap else len) ∧
      x = (.slice ((List.range len).map D) ((List.range (m - len)).map fun j => D (len + j)), MemPlace.row a (m * fs.size) ++ (List.range m).flatMap Pl) ∧
      ∀ i, i < m → ∃ (ys : List (DataW H × List MemPlace)) (n : Nat), D i = .agg (ys.map (·.1)) ∧ Pl i = ys.flatMap (·.2) ∧ ys.length = fs.size ∧
        ∀ (j : Nat) (f : Field), fs[j]? = some f → ∃ (v : Value) (y : DataW H × List MemPlace), w.cell? (a.add (i * fs.size + j)) = some v ∧ ys[j]? = some y ∧ DataW.trod enc P w base spare held n f.type [v] = some y := by
  rcases open_slice ht h with h0 | ⟨a, len, cap, m, n, D, Pl, hcs, hb, hl, hm, hmm, hx, hi⟩
  · exact .inl h0
  · refine .inr ⟨a, len, cap, m, D, Pl, hcs, hb, hl, hm, hmm, by rw [hC] at hx; exact hx, fun i him => ?_⟩
    obtain ⟨cs', hc, ht'⟩ := hi i him
    rw [hC] at hc
    obtain ⟨ys, n', hn', hy, hlen, hyl, hf⟩ := DataW.trod_struct he ht'
    obtain ⟨_, hcl, hat⟩ := World.cells?_some hc
    simp only [Prod.mk.injEq] at hy
    refine ⟨ys, n', hy.1, hy.2, hyl, fun j f hj => ?_⟩
    obtain ⟨ho, hk⟩ := hone_of hone j f hj
    have hjl : j < fs.size := (Array.getElem?_eq_some_iff.1 hj).1
    have hcell := hat j hjl
    have hv : cs'[j]? = some (cs'[j]'(by omega)) := List.getElem?_eq_getElem (by omega)
    have h1 := hf j f hj
    rw [ho, hk] at h1
    have hone' : (cs'.drop j).take 1 = [cs'[j]'(by omega)] := by
      rw [List.drop_eq_getElem_cons (by omega)]
      rfl
    rw [hone'] at h1
    have hys : ys[j]? = some (ys[j]'(by omega)) := List.getElem?_eq_getElem (by omega)
    refine ⟨_, _, ?_, hys, h1.trans hys⟩
    rw [← Go.Deep.add_add, hcell, hv]
end
/-- elements that are chosen one by one, as a list -/
theorem list_of {α : Type} {Q : Nat → α → Prop} : ∀ n : Nat, (∀ i, i < n → ∃ x, Q i x) → ∃ L : List α, L.length = n ∧ ∀ (i : Nat) (x : α), L[i]? = some x → Q i x
  | 0, _ => ⟨[], rfl, fun i x h => by simp at h⟩
  | n + 1, h => by
    obtain ⟨L, hl, hq⟩ := list_of n (fun i hi => h i (by omega))
    obtain ⟨x, hx⟩ := h n (by omega)
    refine ⟨L ++ [x], by simp [hl], fun i y hy => ?_⟩
    by_cases hi : i < n
    · rw [List.getElem?_append_left (by omega)] at hy
      exact hq i y hy
    · rw [List.getElem?_append_right (by omega)] at hy
      have : i = n := by
        by_cases e : i = n
        · exact e
        · rw [List.getElem?_eq_none (by simp; omega)] at hy
          cases hy
      subst this
      rw [hl, Nat.sub_self] at hy
      simp only [List.getElem?_cons_zero, Option.some.injEq] at hy
      subst hy
      exact hx
/-- the cells of a list of elements, one by one -/
theorem flat_cells {α : Type} {f : α → List Value} {sz : Nat} (hf : ∀ x, (f x).length = sz) (hsz : 0 < sz) {L : List α} {W : World} {b o : Nat} (h : ∀ (i : Nat) (x : α), L[i]? = some x → ∀ (j : Nat) (u : Value), (f x)[j]? = some u → W.cell? ⟨b, o + (i * sz + j), none⟩ = some u) :
    ∀ (j : Nat) (u : Value), (L.flatMap f)[j]? = some u → W.cell? ⟨b, o + j, none⟩ = some u := by
  intro j u hu
  have hl := (List.getElem?_eq_some_iff.1 hu).1
  rw [flat_len f sz hf] at hl
  have e : j = j / sz * sz + j % sz := by rw [Nat.mul_comm]; exact (Nat.div_add_mod j sz).symm
  have hm := Nat.mod_lt j hsz
  have hd : j / sz < L.length := Nat.div_lt_of_lt_mul (by rw [Nat.mul_comm]; exact hl)
  rw [e, flat_at f sz hf L _ _ hm, List.getElem?_eq_getElem hd] at hu
  rw [e]
  exact h _ _ (List.getElem?_eq_getElem hd) _ _ hu
section
variable {H : Type} {enc : TypeId × Value → H} {w : World} {base : Nat} {spare : Nat → Bool} {held : Bool}
set_option maxRecDepth 100000 in
theorem open_zones {n : Nat} {v : Value} {y : DataW H × List MemPlace} (h : DataW.trod enc Tryd.prog w base spare held n 23 [v] = some y) : ∃ L : List (Zo), ZoV w v L ∧ ∀ l ∈ L, l.1.length ≤ maxLen := by
  rcases open_slice_fields Tryd.underlying23 Tryd.underlying40 (by kernel_rfl) (by kernel_rfl) h with ⟨hc, _⟩ | ⟨a, len, cap, m, D, Pl, hc, _, hl, hm, hmm, _, hi⟩
  · simp only [List.cons.injEq, and_true] at hc
    subst hc
    exact ⟨[], SlV.nil w 2, fun l hl => by cases hl⟩
  · simp only [List.cons.injEq, and_true] at hc
    subst hc
    have hlm : len ≤ m := by subst hmm; split <;> omega
    obtain ⟨L, hL, hq⟩ := list_of (Q := fun i (l : Zo) => (∀ (j : Nat) (u : Value), (zcells l)[j]? = some u → w.cell? (a.add (i * 2 + j)) = some u) ∧ l.1.length ≤ maxLen) len (fun i him => by
      obtain ⟨ys, k, _, _, _, hf⟩ := hi i (by omega)
      obtain ⟨v0, y0, c0, _, t0⟩ := hf 0 _ rfl
      obtain ⟨v1, y1, c1, _, t1⟩ := hf 1 _ rfl
      obtain ⟨x0, e0, _, z0⟩ := DataW.trod_string Tryd.underlying9 t0
      simp only [List.cons.injEq, and_true] at e0
      subst e0
      obtain ⟨ea, en, ec, e1⟩ : ∃ ea en ec, v1 = .slice ea en ec := by
        rcases open_slice Tryd.underlying38 t1 with ⟨h0, _⟩ | ⟨a, len, cap, m, k, D, Pl, h0, _⟩
        · simp only [List.cons.injEq, and_true] at h0
          exact ⟨_, _, _, h0⟩
        · simp only [List.cons.injEq, and_true] at h0
          exact ⟨_, _, _, h0⟩
      subst e1
      refine ⟨(x0.data.toList, (ea, en, ec)), fun j u hu => ?_, z0⟩
      match j, hu with
      | 0, hu => simp only [zcells, List.getElem?_cons_zero, Option.some.injEq] at hu; subst hu; exact c0
      | 1, hu => simp only [zcells, List.getElem?_cons_succ, List.getElem?_cons_zero, Option.some.injEq] at hu; subst hu; exact c1
      | j + 2, hu => simp [zcells] at hu)
    refine ⟨L, ⟨flat_len zcells 2 (fun _ => rfl) L, some a, cap, by rw [hL], by omega, hm, ?_⟩, fun l hl => ?_⟩
    · by_cases h0 : L.length = 0
      · exact .inl h0
      · right
        obtain ⟨hc0, _⟩ := hq 0 _ (List.getElem?_eq_getElem (by omega))
        have c00 := hc0 0 _ rfl
        obtain ⟨b, o, spot⟩ := a
        have hspot : spot = none := by simpa [Addr.add] using World.cell?_spot c00
        subst hspot
        have key := flat_cells (f := zcells) (sz := 2) (fun _ => rfl) (by omega) (L := L) (W := w) (b := b) (o := o) (fun i x hx j u hu => by
          have q0 := (hq i x hx).1 j u hu
          rw [WideShapes.add_plain] at q0
          exact q0)
        refine ⟨b, o, rfl, ?_, key⟩
        rw [WideShapes.add_plain] at c00
        exact block_lt_of_cell c00
    · obtain ⟨i, hi', e⟩ := List.getElem_of_mem hl
      exact (hq i l (by rw [List.getElem?_eq_getElem hi', e])).2
set_option maxRecDepth 100000 in
theorem open_links {n : Nat} {v : Value} {y : DataW H × List MemPlace} (h : DataW.trod enc Tryd.prog w base spare held n 24 [v] = some y) : ∃ L : List (List UInt8 × List UInt8), LkV w v L ∧ ∀ l ∈ L, (l.1.length ≤ maxLen ∧ l.2.length ≤ maxLen) := by
  rcases open_slice_fields Tryd.underlying24 Tryd.underlying43 (by kernel_rfl) (by kernel_rfl) h with ⟨hc, _⟩ | ⟨a, len, cap, m, D, Pl, hc, _, hl, hm, hmm, _, hi⟩
  · simp only [List.cons.injEq, and_true] at hc
    subst hc
    exact ⟨[], SlV.nil w 2, fun l hl => by cases hl⟩
  · simp only [List.cons.injEq, and_true] at hc
    subst hc
    have hlm : len ≤ m := by subst hmm; split <;> omega
    obtain ⟨L, hL, hq⟩ := list_of (Q := fun i (l : List UInt8 × List UInt8) => (∀ (j : Nat) (u : Value), (kcells l)[j]? = some u → w.cell? (a.add (i * 2 + j)) = some u) ∧ (l.1.length ≤ maxLen ∧ l.2.length ≤ maxLen)) len (fun i him => by
      obtain ⟨ys, k, _, _, _, hf⟩ := hi i (by omega)
      obtain ⟨v0, y0, c0, _, t0⟩ := hf 0 _ rfl
      obtain ⟨v1, y1, c1, _, t1⟩ := hf 1 _ rfl
      obtain ⟨x0, e0, _, z0⟩ := DataW.trod_string Tryd.underlying9 t0
      obtain ⟨x1, e1, _, z1⟩ := DataW.trod_string Tryd.underlying9 t1
      simp only [List.cons.injEq, and_true] at e0 e1
      subst e0 e1
      refine ⟨(x1.data.toList, x0.data.toList), fun j u hu => ?_, z1, z0⟩
      match j, hu with
      | 0, hu => simp only [kcells, List.getElem?_cons_zero, Option.some.injEq] at hu; subst hu; exact c0
      | 1, hu => simp only [kcells, List.getElem?_cons_succ, List.getElem?_cons_zero, Option.some.injEq] at hu; subst hu; exact c1
      | j + 2, hu => simp [kcells] at hu)
    refine ⟨L, ⟨flat_len kcells 2 (fun _ => rfl) L, some a, cap, by rw [hL], by omega, hm, ?_⟩, fun l hl => ?_⟩
    · by_cases h0 : L.length = 0
      · exact .inl h0
      · right
        obtain ⟨hc0, _⟩ := hq 0 _ (List.getElem?_eq_getElem (by omega))
        have c00 := hc0 0 _ rfl
        obtain ⟨b, o, spot⟩ := a
        have hspot : spot = none := by simpa [Addr.add] using World.cell?_spot c00
        subst hspot
        have key := flat_cells (f := kcells) (sz := 2) (fun _ => rfl) (by omega) (L := L) (W := w) (b := b) (o := o) (fun i x hx j u hu => by
          have q0 := (hq i x hx).1 j u hu
          rw [WideShapes.add_plain] at q0
          exact q0)
        refine ⟨b, o, rfl, ?_, key⟩
        rw [WideShapes.add_plain] at c00
        exact block_lt_of_cell c00
    · obtain ⟨i, hi', e⟩ := List.getElem_of_mem hl
      exact (hq i l (by rw [List.getElem?_eq_getElem hi', e])).2
theorem slice_nil {t e : TypeId} {fuel : Nat} {v : Value} {x : DataW H × List MemPlace} (ht : Tryd.prog.underlying t = some (.slice e)) (h : DataW.trod enc Tryd.prog w base spare held fuel t [v] = some x) : ∀ n c, v = .slice none n c → c = 0 := by
  intro n c hc
  rcases open_slice ht h with ⟨h0, _⟩ | ⟨a, len, cap, m, k, D, Pl, h0, _⟩
  · simp only [List.cons.injEq, and_true] at h0
    rw [h0] at hc
    simp only [Value.slice.injEq] at hc
    exact hc.2.2.symm
  · simp only [List.cons.injEq, and_true] at h0
    rw [h0] at hc
    simp at hc
set_option maxRecDepth 100000 in
theorem open_source {r : Reach} {b0 : Nat} {v : Value} {d : DataW H} {p : List MemPlace} (hv : Value.okWide Tryd.prog w r b0 27 v) (h : DataW.Trod enc Tryd.prog w base spare held 27 v d p) :
    ∃ (rv zv lv sv : Value) (Z : List Zo) (L : List (List UInt8 × List UInt8)), v = .agg #[rv, zv, lv, sv] ∧ SrcV w zv lv Z L ∧ (∀ n c, zv = .slice none n c → c = 0) ∧ (∀ n c, lv = .slice none n c → c = 0) := by
  obtain ⟨v0, v1, v2, v3, y0, y1, y2, y3, n, rfl, _, _, h0, h1, h2, h3⟩ := open_agg4 Tryd.underlying27 (by kernel_rfl) (by kernel_rfl) hv h
  obtain ⟨Z, hZ, fZ⟩ := open_zones h1
  obtain ⟨L, hL, fL⟩ := open_links h2
  exact ⟨v0, v1, v2, v3, Z, L, rfl, ⟨hZ, hL, fZ, fL⟩, slice_nil Tryd.underlying23 h1, slice_nil Tryd.underlying24 h2⟩
end
end Go.Proofs.YtnffecoohkanhaaDoor.Px
