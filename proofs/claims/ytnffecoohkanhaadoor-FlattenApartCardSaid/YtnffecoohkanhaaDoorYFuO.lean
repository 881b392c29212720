/- Sources that are handed to a law, opened with all their types: rules, eras, shifts. -/
import Derived.Test.YtnffecoohkanhaaDoorYLnO
import Derived.Test.YtnffecoohkanhaaDoorM13
import Derived.ChangeArms
namespace Go.Proofs.YtnffecoohkanhaaDoor.Px
open Go.RowKit
open Go.Joins Go.ChangeShapes Go.WideShapes Go.Deep
open Lk

section
variable {H : Type} {enc : TypeId × Value → H} {w : World} {base : Nat} {spare : Nat → Bool} {held : Bool}
theorem f_int {n t : Nat} {c : Value} {y : DataW H × List MemPlace} (ht : Tryd.prog.underlying t = some (.int .i64)) (hc : Tryd.prog.cellsOf t = 1) {l : List Value} (hl : l.take 1 = [c]) (h : DataW.trod enc Tryd.prog w base spare held n t (l.take (Tryd.prog.cellsOf t)) = some y) : ∃ x : Int, c = .int .i64 x := by
  rw [hc, hl] at h
  obtain ⟨k, e1, _, _⟩ := DataW.trod_int ht h
  exact ⟨k, by simpa using e1⟩
theorem f_str {n t : Nat} {c : Value} {y : DataW H × List MemPlace} (ht : Tryd.prog.underlying t = some .string) (hc : Tryd.prog.cellsOf t = 1) {l : List Value} (hl : l.take 1 = [c]) (h : DataW.trod enc Tryd.prog w base spare held n t (l.take (Tryd.prog.cellsOf t)) = some y) : ∃ x : ByteArray, c = .string x ∧ x.size ≤ maxLen := by
  rw [hc, hl] at h
  obtain ⟨k, e1, _, e3⟩ := DataW.trod_string ht h
  exact ⟨k, by simpa using e1, e3⟩
theorem f_bool {n t : Nat} {c : Value} {y : DataW H × List MemPlace} (ht : Tryd.prog.underlying t = some .bool) (hc : Tryd.prog.cellsOf t = 1) {l : List Value} (hl : l.take 1 = [c]) (h : DataW.trod enc Tryd.prog w base spare held n t (l.take (Tryd.prog.cellsOf t)) = some y) : ∃ x : Bool, c = .bool x := by
  rw [hc, hl] at h
  obtain ⟨k, e1, _⟩ := DataW.trod_bool ht h
  exact ⟨k, by simpa using e1⟩
set_option maxRecDepth 100000 in
theorem open_day {n : Nat} {c0 c1 c2 : Value} {y : DataW H × List MemPlace} (h : DataW.trod enc Tryd.prog w base spare held n 32 [c0, c1, c2] = some y) : ∃ x0 x1 x2 : Int, c0 = .int .i64 x0 ∧ c1 = .int .i64 x1 ∧ c2 = .int .i64 x2 := by
  obtain ⟨xs, m, _, _, _, hn, hg⟩ := DataW.trod_struct Tryd.underlying32 h
  match xs, hn with
  | [y0, y1, y2], _ =>
    obtain ⟨x0, e0⟩ := f_int (t := 3) (c := c0) (l := [c0, c1, c2].drop 0) Tryd.underlying3 (by kernel_rfl) rfl (hg 0 _ rfl)
    obtain ⟨x1, e1⟩ := f_int (t := 3) (c := c1) (l := [c0, c1, c2].drop 1) Tryd.underlying3 (by kernel_rfl) rfl (hg 1 _ rfl)
    obtain ⟨x2, e2⟩ := f_int (t := 3) (c := c2) (l := [c0, c1, c2].drop 2) Tryd.underlying3 (by kernel_rfl) rfl (hg 2 _ rfl)
    exact ⟨x0, x1, x2, e0, e1, e2⟩
set_option maxRecDepth 100000 in
theorem open_clock {n : Nat} {c0 c1 : Value} {y : DataW H × List MemPlace} (h : DataW.trod enc Tryd.prog w base spare held n 34 [c0, c1] = some y) : ∃ x0 x1 : Int, c0 = .int .i64 x0 ∧ c1 = .int .i64 x1 := by
  obtain ⟨xs, m, _, _, _, hn, hg⟩ := DataW.trod_struct Tryd.underlying34 h
  match xs, hn with
  | [y0, y1], _ =>
    obtain ⟨x0, e0⟩ := f_int (t := 2) (c := c0) (l := [c0, c1].drop 0) Tryd.underlying2 (by kernel_rfl) rfl (hg 0 _ rfl)
    obtain ⟨x1, e1⟩ := f_int (t := 3) (c := c1) (l := [c0, c1].drop 1) Tryd.underlying3 (by kernel_rfl) rfl (hg 1 _ rfl)
    exact ⟨x0, x1, e0, e1⟩
set_option maxRecDepth 100000 in
theorem open_rule {n : Nat} {l : List Value} {y : DataW H × List MemPlace} (hl : l.length = 11) (h : DataW.trod enc Tryd.prog w base spare held n 36 l = some y) : ∃ d : RuQ, l = ruqC d ∧ True := by
  match l, hl with
  | [c0, c1, c2, c3, c4, c5, c6, c7, c8, c9, c10], _ =>
    obtain ⟨xs, m, _, _, _, hn, hg⟩ := DataW.trod_struct Tryd.underlying36 h
    match xs, hn with
    | [y0, y1, y2, y3, y4, y5, y6, y7], _ =>
      obtain ⟨x0, e0, _⟩ := f_str (t := 9) (c := c0) (l := [c0, c1, c2, c3, c4, c5, c6, c7, c8, c9, c10].drop 0) Tryd.underlying9 (by kernel_rfl) rfl (hg 0 _ rfl)
      obtain ⟨x1, e1⟩ := f_int (t := 3) (c := c1) (l := [c0, c1, c2, c3, c4, c5, c6, c7, c8, c9, c10].drop 1) Tryd.underlying3 (by kernel_rfl) rfl (hg 1 _ rfl)
      obtain ⟨x2, e2⟩ := f_int (t := 3) (c := c2) (l := [c0, c1, c2, c3, c4, c5, c6, c7, c8, c9, c10].drop 2) Tryd.underlying3 (by kernel_rfl) rfl (hg 2 _ rfl)
      obtain ⟨x3, e3⟩ := f_int (t := 3) (c := c3) (l := [c0, c1, c2, c3, c4, c5, c6, c7, c8, c9, c10].drop 3) Tryd.underlying3 (by kernel_rfl) rfl (hg 3 _ rfl)
      have hd : Tryd.prog.cellsOf 32 = 3 := by kernel_rfl
      have hk : Tryd.prog.cellsOf 34 = 2 := by kernel_rfl
      have g4 : DataW.trod enc Tryd.prog w base spare held m 32 [c4, c5, c6] = some y4 := by
        have : DataW.trod enc Tryd.prog w base spare held m 32 ([c4, c5, c6, c7, c8, c9, c10].take (Tryd.prog.cellsOf 32)) = some y4 := hg 4 _ rfl
        rwa [hd] at this
      have g5 : DataW.trod enc Tryd.prog w base spare held m 34 [c7, c8] = some y5 := by
        have : DataW.trod enc Tryd.prog w base spare held m 34 ([c7, c8, c9, c10].take (Tryd.prog.cellsOf 34)) = some y5 := hg 5 _ rfl
        rwa [hk] at this
      obtain ⟨x4, x5, x6, e4, e5, e6⟩ := open_day g4
      obtain ⟨x7, x8, e7, e8⟩ := open_clock g5
      obtain ⟨x9, e9⟩ := f_int (t := 2) (c := c9) (l := [c9, c10]) Tryd.underlying2 (by kernel_rfl) rfl (hg 6 _ rfl)
      obtain ⟨x10, e10, _⟩ := f_str (t := 9) (c := c10) (l := [c10]) Tryd.underlying9 (by kernel_rfl) rfl (hg 7 _ rfl)
      exact ⟨⟨x0, x1, x2, x3, x4, x5, x6, x7, x8, x9, x10⟩, by rw [e0, e1, e2, e3, e4, e5, e6, e7, e8, e9, e10]; rfl, trivial⟩
set_option maxRecDepth 100000 in
theorem open_until {n : Nat} {c0 c1 c2 c3 c4 c5 c6 c7 : Value} {y : DataW H × List MemPlace} (h : DataW.trod enc Tryd.prog w base spare held n 79 [c0, c1, c2, c3, c4, c5, c6, c7] = some y) :
    ∃ (b : Bool) (x1 x2 x3 x4 x5 x6 x7 : Int), c0 = .bool b ∧ c1 = .int .i64 x1 ∧ c2 = .int .i64 x2 ∧ c3 = .int .i64 x3 ∧ c4 = .int .i64 x4 ∧ c5 = .int .i64 x5 ∧ c6 = .int .i64 x6 ∧ c7 = .int .i64 x7 := by
  obtain ⟨xs, m, _, _, _, hn, hg⟩ := DataW.trod_struct Tryd.underlying79 h
  match xs, hn with
  | [y0, y1, y2, y3, y4], _ =>
    obtain ⟨x0, e0⟩ := f_bool (t := 4) (c := c0) (l := [c0, c1, c2, c3, c4, c5, c6, c7].drop 0) Tryd.underlying4 (by kernel_rfl) rfl (hg 0 _ rfl)
    obtain ⟨x1, e1⟩ := f_int (t := 3) (c := c1) (l := [c0, c1, c2, c3, c4, c5, c6, c7].drop 1) Tryd.underlying3 (by kernel_rfl) rfl (hg 1 _ rfl)
    obtain ⟨x2, e2⟩ := f_int (t := 3) (c := c2) (l := [c0, c1, c2, c3, c4, c5, c6, c7].drop 2) Tryd.underlying3 (by kernel_rfl) rfl (hg 2 _ rfl)
    have hd : Tryd.prog.cellsOf 32 = 3 := by kernel_rfl
    have hk : Tryd.prog.cellsOf 34 = 2 := by kernel_rfl
    have g3 : DataW.trod enc Tryd.prog w base spare held m 32 [c3, c4, c5] = some y3 := by
      have : DataW.trod enc Tryd.prog w base spare held m 32 ([c3, c4, c5, c6, c7].take (Tryd.prog.cellsOf 32)) = some y3 := hg 3 _ rfl
      rwa [hd] at this
    have g4 : DataW.trod enc Tryd.prog w base spare held m 34 [c6, c7] = some y4 := by
      have : DataW.trod enc Tryd.prog w base spare held m 34 ([c6, c7].take (Tryd.prog.cellsOf 34)) = some y4 := hg 4 _ rfl
      rwa [hk] at this
    obtain ⟨x3, x4, x5, e3, e4, e5⟩ := open_day g3
    obtain ⟨x6, x7, e6, e7⟩ := open_clock g4
    exact ⟨x0, x1, x2, x3, x4, x5, x6, x7, e0, e1, e2, e3, e4, e5, e6, e7⟩
set_option maxRecDepth 100000 in
theorem open_era {n : Nat} {l : List Value} {y : DataW H × List MemPlace} (hl : l.length = 13) (h : DataW.trod enc Tryd.prog w base spare held n 81 l = some y) : ∃ d : ErQ, l = erqC d ∧ True := by
  match l, hl with
  | [c0, c1, c2, c3, c4, c5, c6, c7, c8, c9, c10, c11, c12], _ =>
    obtain ⟨xs, m, _, _, _, hn, hg⟩ := DataW.trod_struct Tryd.underlying81 h
    match xs, hn with
    | [y0, y1, y2, y3, y4, y5], _ =>
      obtain ⟨x0, e0⟩ := f_int (t := 2) (c := c0) (l := [c0, c1, c2, c3, c4, c5, c6, c7, c8, c9, c10, c11, c12].drop 0) Tryd.underlying2 (by kernel_rfl) rfl (hg 0 _ rfl)
      obtain ⟨x1, e1⟩ := f_int (t := 3) (c := c1) (l := [c0, c1, c2, c3, c4, c5, c6, c7, c8, c9, c10, c11, c12].drop 1) Tryd.underlying3 (by kernel_rfl) rfl (hg 1 _ rfl)
      obtain ⟨x2, e2⟩ := f_int (t := 2) (c := c2) (l := [c0, c1, c2, c3, c4, c5, c6, c7, c8, c9, c10, c11, c12].drop 2) Tryd.underlying2 (by kernel_rfl) rfl (hg 2 _ rfl)
      obtain ⟨x3, e3, _⟩ := f_str (t := 9) (c := c3) (l := [c0, c1, c2, c3, c4, c5, c6, c7, c8, c9, c10, c11, c12].drop 3) Tryd.underlying9 (by kernel_rfl) rfl (hg 3 _ rfl)
      obtain ⟨x4, e4, _⟩ := f_str (t := 9) (c := c4) (l := [c0, c1, c2, c3, c4, c5, c6, c7, c8, c9, c10, c11, c12].drop 4) Tryd.underlying9 (by kernel_rfl) rfl (hg 4 _ rfl)
      have hu : Tryd.prog.cellsOf 79 = 8 := by kernel_rfl
      have g5 : DataW.trod enc Tryd.prog w base spare held m 79 [c5, c6, c7, c8, c9, c10, c11, c12] = some y5 := by
        have : DataW.trod enc Tryd.prog w base spare held m 79 ([c5, c6, c7, c8, c9, c10, c11, c12].take (Tryd.prog.cellsOf 79)) = some y5 := hg 5 _ rfl
        rwa [hu] at this
      obtain ⟨b, x6, x7, x8, x9, x10, x11, x12, e5, e6, e7, e8, e9, e10, e11, e12⟩ := open_until g5
      exact ⟨⟨x0, x1, x2, x3, x4, b, x6, x7, x8, x9, x10, x11, x12⟩, by rw [e0, e1, e2, e3, e4, e5, e6, e7, e8, e9, e10, e11, e12]; rfl, trivial⟩
/-- a slice of elements of several cells, opened -/
theorem open_flat {α : Type} (f : α → List Value) {sz : Nat} (hsz : 0 < sz) (hf : ∀ x, (f x).length = sz) {R : α → Prop} {t e : TypeId} (ht : Tryd.prog.underlying t = some (.slice e)) (hC : Tryd.prog.cellsOf e = sz)
    (hel : ∀ (n : Nat) (l : List Value) (y : DataW H × List MemPlace), l.length = sz → DataW.trod enc Tryd.prog w base spare held n e l = some y → ∃ d, l = f d ∧ R d) {n : Nat} {v : Value} {y : DataW H × List MemPlace}
    (h : DataW.trod enc Tryd.prog w base spare held n t [v] = some y) : ∃ L : List α, SlV w v sz L.length (L.flatMap f) ∧ ∀ l ∈ L, R l := by
  rcases open_slice ht h with ⟨hc, _⟩ | ⟨a, len, cap, m, k, D, Pl, hc, _, hl, hm, hmm, _, hi⟩
  · simp only [List.cons.injEq, and_true] at hc
    subst hc
    exact ⟨[], SlV.nil w sz, fun l hl => by cases hl⟩
  · simp only [List.cons.injEq, and_true] at hc
    subst hc
    have hlm : len ≤ m := by subst hmm; split <;> omega
    obtain ⟨L, hL, hq⟩ := list_of (Q := fun i (l : α) => (∀ (j : Nat) (u : Value), (f l)[j]? = some u → w.cell? (a.add (i * sz + j)) = some u) ∧ R l) len (fun i him => by
      obtain ⟨cs', hc, ht'⟩ := hi i (by omega)
      rw [hC] at hc
      obtain ⟨_, hcl, hat⟩ := World.cells?_some hc
      obtain ⟨d, hd, hr⟩ := hel k cs' _ hcl ht'
      refine ⟨d, fun j u hu => ?_, hr⟩
      rw [← hd] at hu
      have hj : j < cs'.length := (List.getElem?_eq_some_iff.1 hu).1
      have h1 := hat j (by omega)
      rw [Go.Deep.add_add] at h1
      rw [h1]
      exact hu)
    refine ⟨L, ⟨flat_len f sz hf L, some a, cap, by rw [hL], by omega, hm, ?_⟩, fun l hl => ?_⟩
    · by_cases h0 : L.length = 0
      · exact .inl h0
      · right
        obtain ⟨hc0, _⟩ := hq 0 _ (List.getElem?_eq_getElem (by omega))
        have hlt : 0 < (f (L[0]'(by omega))).length := by rw [hf]; exact hsz
        have c00 := hc0 0 _ (List.getElem?_eq_getElem hlt)
        obtain ⟨b, o, spot⟩ := a
        have hspot : spot = none := by simpa [Addr.add] using World.cell?_spot c00
        subst hspot
        have key := flat_cells (f := f) (sz := sz) hf hsz (L := L) (W := w) (b := b) (o := o) (fun i x hx j u hu => by
          have q0 := (hq i x hx).1 j u hu
          rw [WideShapes.add_plain] at q0
          exact q0)
        refine ⟨b, o, rfl, ?_, key⟩
        rw [WideShapes.add_plain] at c00
        exact block_lt_of_cell c00
    · obtain ⟨i, hi', e⟩ := List.getElem_of_mem hl
      exact (hq i l (by rw [List.getElem?_eq_getElem hi', e])).2
theorem open_rules {n : Nat} {v : Value} {y : DataW H × List MemPlace} (h : DataW.trod enc Tryd.prog w base spare held n 22 [v] = some y) : ∃ D : List RuQ, SlV w v 11 D.length (D.flatMap ruqC) := by
  obtain ⟨D, hD, _⟩ := open_flat ruqC (by omega) (fun _ => rfl) (R := fun _ => True) Tryd.underlying22 (by kernel_rfl) (fun n l y hl h => open_rule hl h) h
  exact ⟨D, hD⟩
theorem open_eras {n : Nat} {v : Value} {y : DataW H × List MemPlace} (h : DataW.trod enc Tryd.prog w base spare held n 38 [v] = some y) : ∃ D : List ErQ, SlV w v 13 D.length (D.flatMap erqC) := by
  obtain ⟨D, hD, _⟩ := open_flat erqC (by omega) (fun _ => rfl) (R := fun _ => True) Tryd.underlying38 (by kernel_rfl) (fun n l y hl h => open_era hl h) h
  exact ⟨D, hD⟩
theorem flat_svv : ∀ D : List (List UInt8), D.flatMap (fun x => [svv x]) = D.map svv
  | [] => rfl
  | a :: r => by rw [List.flatMap_cons, flat_svv r]; rfl
theorem open_shifts {n : Nat} {v : Value} {y : DataW H × List MemPlace} (h : DataW.trod enc Tryd.prog w base spare held n 25 [v] = some y) : ∃ D : List (List UInt8), SlV w v 1 D.length (D.map svv) := by
  obtain ⟨D, hD, _⟩ := open_flat (sz := 1) (fun x : List UInt8 => [svv x]) Nat.one_pos (fun _ => rfl) (R := fun _ => True) Tryd.underlying25 (by kernel_rfl) (fun n l y hl h => by
    match l, hl with
    | [c], _ =>
      obtain ⟨x, e, _, _⟩ := DataW.trod_string Tryd.underlying9 h
      exact ⟨x.data.toList, e, trivial⟩) h
  refine ⟨D, ?_⟩
  rwa [flat_svv] at hD
/-- the eras of a zone, typed -/
def ZoT (w : World) (o : Zo) : Prop := o.1.length ≤ maxLen ∧ (∀ n c, (.slice o.2.1 o.2.2.1 o.2.2.2 : Value) = .slice none n c → c = 0) ∧ ∃ E : List ErQ, o.2.2.1 = E.length ∧ SlV w (.slice o.2.1 E.length o.2.2.2) 13 E.length (E.flatMap erqC)
set_option maxRecDepth 100000 in
theorem open_zonesT {n : Nat} {v : Value} {y : DataW H × List MemPlace} (h : DataW.trod enc Tryd.prog w base spare held n 23 [v] = some y) : ∃ L : List Zo, ZoV w v L ∧ ∀ l ∈ L, ZoT w l := by
  refine open_flat zcells (by omega) (fun _ => rfl) Tryd.underlying23 (by kernel_rfl) (fun n l y hl h => ?_) h
  match l, hl with
  | [c0, c1], _ =>
    obtain ⟨xs, m, _, _, _, hn, hg⟩ := DataW.trod_struct Tryd.underlying40 h
    match xs, hn with
    | [y0, y1], _ =>
      obtain ⟨x0, e0, z0⟩ := f_str (t := 9) (c := c0) (l := [c0, c1].drop 0) Tryd.underlying9 (by kernel_rfl) rfl (hg 0 _ rfl)
      have g1 : DataW.trod enc Tryd.prog w base spare held m 38 [c1] = some y1 := by
        have hk : Tryd.prog.cellsOf 38 = 1 := by kernel_rfl
        have : DataW.trod enc Tryd.prog w base spare held m 38 ([c1].take (Tryd.prog.cellsOf 38)) = some y1 := hg 1 _ rfl
        rwa [hk] at this
      obtain ⟨E, hE⟩ := open_eras g1
      have hnil := slice_nil Tryd.underlying38 g1
      obtain ⟨a, c, e1, _, _⟩ := hE.slA
      subst e0 e1
      exact ⟨(x0.data.toList, (a, E.length, c)), rfl, z0, hnil, E, rfl, hE⟩
/-- a source with its types -/
structure SrcT (w : World) (rv zv lv sv : Value) (D : List RuQ) (Q : List Zo) (Ls : List (List UInt8 × List UInt8)) (Sh : List (List UInt8)) : Prop where
  ru : SlV w rv 11 D.length (D.flatMap ruqC)
  src : SrcV w zv lv Q Ls
  sh : SlV w sv 1 Sh.length (Sh.map svv)
  er : ∀ o ∈ Q, ZoT w o
  rn : ∀ n c, rv = .slice none n c → c = 0
  zn : ∀ n c, zv = .slice none n c → c = 0
  kn : ∀ n c, lv = .slice none n c → c = 0
  hn : ∀ n c, sv = .slice none n c → c = 0
set_option maxRecDepth 100000 in
theorem open_sourceT {r : Reach} {b0 : Nat} {v : Value} {d : DataW H} {p : List MemPlace} (hv : Value.okWide Tryd.prog w r b0 27 v) (h : DataW.Trod enc Tryd.prog w base spare held 27 v d p) :
    ∃ (rv zv lv sv : Value) (D : List RuQ) (Q : List Zo) (Ls : List (List UInt8 × List UInt8)) (Sh : List (List UInt8)), v = .agg #[rv, zv, lv, sv] ∧ SrcT w rv zv lv sv D Q Ls Sh := by
  obtain ⟨v0, v1, v2, v3, y0, y1, y2, y3, n, rfl, _, _, h0, h1, h2, h3⟩ := open_agg4 Tryd.underlying27 (by kernel_rfl) (by kernel_rfl) hv h
  obtain ⟨D, hD⟩ := open_rules h0
  obtain ⟨Q, hQ, fQ⟩ := open_zonesT h1
  obtain ⟨L, hL, fL⟩ := open_links h2
  obtain ⟨S, hS⟩ := open_shifts h3
  exact ⟨v0, v1, v2, v3, D, Q, L, S, rfl, hD, ⟨hQ, hL, fun z hz => (fQ z hz).1, fL⟩, hS, fQ, slice_nil Tryd.underlying22 h0, slice_nil Tryd.underlying23 h1, slice_nil Tryd.underlying24 h2, slice_nil Tryd.underlying25 h3⟩
end
end Go.Proofs.YtnffecoohkanhaaDoor.Px
