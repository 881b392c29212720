/- Drafts of chapter 15 that are handed to a law, opened. The law LinksWrong of chapter 15, walked: what is wrong is found where it is. -/
import Derived.Test.YtnffecoohkanhaaDoorYFLdA
import Derived.Deep.Matrix
import Derived.Test.YtnffecoohkanhaaDoorM5
namespace Go.Proofs.YtnffecoohkanhaaDoor.Px
open Go.RowKit
open Go.Joins Go.ChangeShapes Go.WideShapes Go.Deep

theorem wf_u8 {x : Int} (h : (Lit.int IntKind.u8 x).wf = true) : 0 ≤ x ∧ x ≤ 255 := by
  unfold Lit.wf at h
  rw [Bool.and_eq_true, decide_eq_true_eq, decide_eq_true_eq] at h
  exact h
theorem u8s_of {W : World} {a : Option Addr} {len cap : Nat} {zs : List Int} (hl : len ≤ cap) (hm : cap ≤ maxLen) (hz : len ≤ zs.length) (hw : ∀ n ∈ zs, (Lit.int .u8 n).wf = true)
    (hc : ∀ a', a = some a' → ∀ c, c < len → W.cell? (a'.add c) = some (.int .u8 (zs.getD c 0))) (hn : a = none → len = 0) : ∃ To : List Nat, SlV W (.slice a len cap) 1 To.length (To.map u8v) ∧ ∀ b ∈ To, b < 256 := by
  have hlen : ((zs.take len).map Int.toNat).length = len := by rw [List.length_map, List.length_take]; omega
  refine ⟨(zs.take len).map Int.toNat, ⟨by simp, a, cap, by rw [hlen], by rw [hlen]; exact hl, hm, ?_⟩, fun b hb => ?_⟩
  · by_cases h0 : len = 0
    · left; rw [hlen]; exact h0
    right
    cases a with
    | none => exact absurd (hn rfl) (by omega)
    | some a' =>
      have h00 := hc a' rfl 0 (by omega)
      obtain ⟨b, off, spot⟩ := a'
      have hspot : spot = none := by simpa [Addr.add] using World.cell?_spot h00
      subst hspot
      refine ⟨b, off, rfl, ?_, fun j u hu => ?_⟩
      · rw [WideShapes.add_plain] at h00
        exact block_lt_of_cell h00
      · have hj : j < len := by
          have := (List.getElem?_eq_some_iff.1 hu).1
          rw [List.length_map, hlen] at this
          exact this
        have h1 := hc _ rfl j hj
        rw [WideShapes.add_plain] at h1
        rw [h1, ← hu, List.getElem?_map, List.getElem?_map, List.getElem?_take, if_pos hj, List.getElem?_eq_getElem (by omega)]
        have hmem : zs[j]'(by omega) ∈ zs := List.getElem_mem _
        have hb := wf_u8 (hw _ hmem)
        simp only [Option.map_some, u8v, List.getD, List.getElem?_eq_getElem (show j < zs.length by omega), Option.getD_some]
        rw [Int.toNat_of_nonneg hb.1]
  · obtain ⟨x, hx, rfl⟩ := List.mem_map.1 hb
    have := wf_u8 (hw _ (List.mem_of_mem_take hx))
    omega
section
variable {H : Type} {enc : TypeId × Value → H} {w : World} {base : Nat} {held : Bool}
set_option maxRecDepth 100000 in
theorem open_draft {r : Reach} {b0 : Nat} {v : Value} {d : DataW H} {p : List MemPlace} (hv : Value.okWide Tryd.prog w r b0 56 v) (h : DataW.Trod enc Tryd.prog w base (fun _ => true) held 56 v d p) :
    ∃ (z l t : Nat) (tv : Value) (To : List Nat), v = .agg #[.int .u8 (z : Int), .int .u8 (l : Int), tv, .int .u8 (t : Int)] ∧ SlV w tv 1 To.length (To.map u8v) ∧ z < 256 ∧ l < 256 ∧ t < 256 ∧ ∀ b ∈ To, b < 256 := by
  obtain ⟨v0, v1, v2, v3, y0, y1, y2, y3, n, rfl, _, _, h0, h1, h2, h3⟩ := open_agg4 Tryd.underlying56 (by kernel_rfl) (by kernel_rfl) hv h
  obtain ⟨x0, e0, _, z0⟩ := DataW.trod_int Tryd.underlying5 h0
  obtain ⟨x1, e1, _, z1⟩ := DataW.trod_int Tryd.underlying5 h1
  obtain ⟨x3, e3, _, z3⟩ := DataW.trod_int Tryd.underlying5 h3
  simp only [List.cons.injEq, and_true] at e0 e1 e3
  subst e0 e1 e3
  have w0 := wf_u8 z0
  have w1 := wf_u8 z1
  have w3 := wf_u8 z3
  have key : ∃ To : List Nat, SlV w v2 1 To.length (To.map u8v) ∧ ∀ b ∈ To, b < 256 := by
    rcases open_ints Tryd.underlying52 Tryd.underlying5 (by kernel_rfl) h2 with ⟨hcs, _⟩ | ⟨a, len, cap, zs, hcs, _, hl, hm, hz, _, hcell, hws⟩
    · simp only [List.cons.injEq, and_true] at hcs
      subst hcs
      exact ⟨[], SlV.nil w 1, fun b hb => by cases hb⟩
    · simp only [List.cons.injEq, and_true] at hcs
      subst hcs
      have hz' : len ≤ zs.length := by rw [hz, if_pos rfl]; exact hl
      exact u8s_of hl hm hz' hws (fun a' e c hc => by cases e; exact hcell c (by omega)) (fun e => by cases e)
  obtain ⟨To, hS, hT⟩ := key
  refine ⟨x0.toNat, x1.toNat, x3.toNat, v2, To, ?_, hS, by omega, by omega, by omega, hT⟩
  rw [Int.toNat_of_nonneg w0.1, Int.toNat_of_nonneg w1.1, Int.toNat_of_nonneg w3.1]
end
end Go.Proofs.YtnffecoohkanhaaDoor.Px
namespace Go.Proofs.YtnffecoohkanhaaDoor.Px
open Go.RowKit
open Go.Maps (Keyed)
open Lk Ld

theorem z_small4 : ((List.range 6).all fun j => decide ((zName j).length ≤ 100)) = true := by kernel_rfl
theorem l_small4 : ((List.range 12).all fun j => decide ((lName j).length ≤ 100)) = true := by kernel_rfl
theorem zName_len {j : Nat} (h : j < 6) : (zName j).length ≤ 100 := of_decide_eq_true (List.all_eq_true.1 z_small4 j (List.mem_range.2 h))
theorem lName_len {j : Nat} (h : j < 12) : (lName j).length ≤ 100 := of_decide_eq_true (List.all_eq_true.1 l_small4 j (List.mem_range.2 h))
theorem z_small {n t : Nat} (hn : n ≤ 6) : ∀ x ∈ zN n t, x.length ≤ 100 := fun x hx => by
  obtain ⟨j, hj, rfl⟩ := zN_mem.1 hx
  exact zName_len (by omega)
theorem l_small {n m k : Nat} {To : List Nat} (hn0 : 0 < n) (hn : n ≤ 6) (hm : m ≤ 12) : ∀ p ∈ rot k (lkN n m To), p.1.length ≤ 100 ∧ p.2.length ≤ 100 := fun p hp => by
  obtain ⟨i, hi, rfl⟩ := List.mem_map.1 ((rot_mem _ _ _).1 hp)
  have hi := List.mem_range.1 hi
  refine ⟨lName_len (by omega), ?_⟩
  dsimp only
  unfold tOf
  have h1 := Nat.mod_lt (bOf To i) (show n + i > 0 by omega)
  have h2 := Nat.mod_lt (bOf To i) hn0
  split
  · exact lName_len (by omega)
  · exact zName_len (by omega)
theorem src_own {B nz nl : Nat} {Y : World} {zv lv : Value} {Zn : List (List UInt8)} {L : List (List UInt8 × List UInt8)} (hz : Y.ownsRow B 40 2 zv nz ((zos Zn).flatMap zcells)) (hl : Y.ownsRow B 43 2 lv nl (L.flatMap kcells))
    (ez : Zn.length = nz) (el : L.length = nl) (bz : ∀ x ∈ Zn, x.length ≤ 100) (bl : ∀ p ∈ L, p.1.length ≤ 100 ∧ p.2.length ≤ 100) : SrcV Y zv lv (zos Zn) L := by
  subst el
  refine ⟨?_, SlV.of_own hl, fun z hz => ?_, fun p hp => ?_⟩
  · have h := SlV.of_own hz
    unfold ZoV
    rw [show (zos Zn).length = nz by unfold zos; rw [List.length_map, ez]]
    exact h
  · obtain ⟨x, hx, rfl⟩ := List.mem_map.1 hz
    have := bz x hx
    unfold maxLen
    show x.length ≤ _
    omega
  · have := bl p hp
    unfold maxLen
    omega
theorem zos_set : ∀ (l : List (List UInt8)) (i : Nat) (x : List UInt8), ((zos l).flatMap zcells).set (i * 2) (.string (bs x)) = (zos (l.set i x)).flatMap zcells
  | [], _, _ => rfl
  | _ :: _, 0, _ => rfl
  | y :: r, i + 1, x => by
    have h := zos_set r i x
    show (Value.string (bs y) :: Value.slice none 0 0 :: (zos r).flatMap zcells).set ((i + 1) * 2) _ = Value.string (bs y) :: Value.slice none 0 0 :: (zos (r.set i x)).flatMap zcells
    rw [← h, show (i + 1) * 2 = i * 2 + 1 + 1 by omega]
    rfl
theorem lks_set : ∀ (l : List (List UInt8 × List UInt8)) (i : Nat) (x : List UInt8), i < l.length → (l.flatMap kcells).set (i * 2) (.string (bs x)) = (l.set i ((l.getD i ([], [])).1, x)).flatMap kcells
  | [], _, _, h => by cases h
  | _ :: _, 0, _, _ => rfl
  | y :: r, i + 1, x, h => by
    have h := lks_set r i x (Nat.lt_of_succ_lt_succ h)
    show (Value.string (bs y.2) :: Value.string (bs y.1) :: r.flatMap kcells).set ((i + 1) * 2) _ = Value.string (bs y.2) :: Value.string (bs y.1) :: (r.set i ((r.getD i ([], [])).1, x)).flatMap kcells
    rw [← h, show (i + 1) * 2 = i * 2 + 1 + 1 by omega]
    rfl
theorem zo_get {l : List (List UInt8)} {i : Nat} (h : i < l.length) : ((zos l).flatMap zcells)[i * 2]? = some (.string (bs (l.getD i []))) := by
  have e : (zos l)[i]? = some (zo1 (l.getD i [])) := by unfold zos; rw [List.getElem?_map, getD_at h]; rfl
  exact (zo_at (zos l) e).1
theorem lk_get {l : List (List UInt8 × List UInt8)} {i : Nat} (h : i < l.length) : (l.flatMap kcells)[i * 2]? = some (.string (bs (l.getD i ([], [])).2)) ∧ (l.flatMap kcells)[i * 2 + 1]? = some (.string (bs (l.getD i ([], [])).1)) := by
  have e : l[i]? = some (l.getD i ([], [])) := by rw [List.getD, List.getElem?_eq_getElem h]; rfl
  exact lk_at l e
theorem getD_mem {l : List (List UInt8)} {i : Nat} (h : i < l.length) : l.getD i [] ∈ l := List.mem_of_getElem? (getD_at h)
theorem getP_mem {l : List (List UInt8 × List UInt8)} {i : Nat} (h : i < l.length) : l.getD i ([], []) ∈ l := by
  have e : l[i]? = some (l.getD i ([], [])) := by rw [List.getD, List.getElem?_eq_getElem h]; rfl
  exact List.mem_of_getElem? e
theorem big_set {l : List (List UInt8)} {i : Nat} {x : List UInt8} (h : ∀ y ∈ l, y.length ≤ 100) (hx : x.length ≤ 100) : ∀ y ∈ l.set i x, y.length ≤ 100 := fun y hy => by
  rcases List.mem_or_eq_of_mem_set hy with hy | rfl
  · exact h y hy
  · exact hx
theorem big_snoc {l : List (List UInt8)} {x : List UInt8} (h : ∀ y ∈ l, y.length ≤ 100) (hx : x.length ≤ 100) : ∀ y ∈ l ++ [x], y.length ≤ 100 := fun y hy => by
  rcases List.mem_append.1 hy with hy | hy
  · exact h y hy
  · rw [List.mem_singleton.1 hy]; exact hx
theorem bigP_set {l : List (List UInt8 × List UInt8)} {i : Nat} {x : List UInt8 × List UInt8} (h : ∀ p ∈ l, p.1.length ≤ 100 ∧ p.2.length ≤ 100) (hx : x.1.length ≤ 100 ∧ x.2.length ≤ 100) : ∀ p ∈ l.set i x, p.1.length ≤ 100 ∧ p.2.length ≤ 100 := fun y hy => by
  rcases List.mem_or_eq_of_mem_set hy with hy | rfl
  · exact h y hy
  · exact hx
theorem bigP_snoc {l : List (List UInt8 × List UInt8)} {x : List UInt8 × List UInt8} (h : ∀ p ∈ l, p.1.length ≤ 100 ∧ p.2.length ≤ 100) (hx : x.1.length ≤ 100 ∧ x.2.length ≤ 100) : ∀ p ∈ l ++ [x], p.1.length ≤ 100 ∧ p.2.length ≤ 100 := fun y hy => by
  rcases List.mem_append.1 hy with hy | hy
  · exact h y hy
  · rw [List.mem_singleton.1 hy]; exact hx
theorem bad_cell {b : Nat} {Y : World} (h : Y.heap[b]? = some (.cells #[.string ⟨#[]⟩, .string ⟨#[47]⟩, .string ⟨#[65, 47]⟩, .string ⟨#[46, 65]⟩, .string ⟨#[45]⟩, .string ⟨#[65, 32, 66]⟩] 9 (0, 0))) {j : Nat} (hj : j < 6) : Y.cell? ⟨b, j, none⟩ = some (.string (bs (badL j))) := by
  rw [cells_at h]
  match j, hj with
  | 0, _ => rfl
  | 1, _ => rfl
  | 2, _ => rfl
  | 3, _ => rfl
  | 4, _ => rfl
  | 5, _ => rfl
end Go.Proofs.YtnffecoohkanhaaDoor.Px
