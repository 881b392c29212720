/- Drafts of chapter 15 that are handed to a law, opened. -/
import Derived.Test.YtdeompnaojiajaaDoorLdA
import Derived.Deep.Matrix
namespace Go.Proofs.YtdeompnaojiajaaDoor.Px
open Go.RowKit
open Go.Joins Go.ChangeShapes Go.WideShapes Go.Deep

theorem wf_u8 {x : Int} (h : (Lit.int IntKind.u8 x).wf = true) : 0 ≤ x ∧ x ≤ 255 := by
  unfold Lit.wf at h
  rw [Bool.and_eq_true, decide_eq_true_eq, decide_eq_true_eq] at h
  exact h
theorem u8s_of {W : World} {a : Option Addr} {len cap : Nat} {zs : List Int} (hl : len ≤ cap) (hm : cap ≤ maxLen) (hz : len ≤ zs.length) (hw : ∀ n ∈ zs, (Lit.int .u8 n).wf = true)
    (hc : ∀ a', a = some a' → ∀ c, c < len → W.cell? (a'.add c) = some (.int .u8 (zs.getD c 0))) (hn : a = none → len = 0) : ∃ To : List Nat, SlV W (.slice a len cap) 1 To.length (To.map u8v) ∧ ∀ b ∈ To, b < 256 := by
  have hlen : ((zs.take len).map Int.toNat).length = len := by rw [List.length_map, List.length_take]; omega
  refine ⟨(zs.take len).map Int.toNat, ⟨by simp, a, cap, by rw [hlen], by rw [hlen]; exact hl, hm, ?_⟩, fun b hb => ?_⟩
  · by_cases h0 : len = 0
    · left; rw [hlen]; exact h0
    right
    cases a with
    | none => exact absurd (hn rfl) (by omega)
    | some a' =>
      have h00 := hc a' rfl 0 (by omega)
      obtain ⟨b, off, spot⟩ := a'
      have hspot : spot = none := by simpa [Addr.add] using World.cell?_spot h00
      subst hspot
      refine ⟨b, off, rfl, ?_, fun j u hu => ?_⟩
      · rw [WideShapes.add_plain] at h00
        exact block_lt_of_cell h00
      · have hj : j < len := by
          have := (List.getElem?_eq_some_iff.1 hu).1
          rw [List.length_map, hlen] at this
          exact this
        have h1 := hc _ rfl j hj
        rw [WideShapes.add_plain] at h1
        rw [h1, ← hu, List.getElem?_map, List.getElem?_map, List.getElem?_take, if_pos hj, List.getElem?_eq_getElem (by omega)]
        have hmem : zs[j]'(by omega) ∈ zs := List.getElem_mem _
        have hb := wf_u8 (hw _ hmem)
        simp only [Option.map_some, u8v, List.getD, List.getElem?_eq_getElem (show j < zs.length by omega), Option.getD_some]
        rw [Int.toNat_of_nonneg hb.1]
  · obtain ⟨x, hx, rfl⟩ := List.mem_map.1 hb
    have := wf_u8 (hw _ (List.mem_of_mem_take hx))
    omega
section
variable {H : Type} {enc : TypeId × Value → H} {w : World} {base : Nat} {held : Bool}
set_option maxRecDepth 100000 in
theorem open_draft {r : Reach} {b0 : Nat} {v : Value} {d : DataW H} {p : List MemPlace} (hv : Value.okWide Tryd.prog w r b0 50 v) (h : DataW.Trod enc Tryd.prog w base (fun _ => true) held 50 v d p) :
    ∃ (z l t : Nat) (tv : Value) (To : List Nat), v = .agg #[.int .u8 (z : Int), .int .u8 (l : Int), tv, .int .u8 (t : Int)] ∧ SlV w tv 1 To.length (To.map u8v) ∧ z < 256 ∧ l < 256 ∧ t < 256 ∧ ∀ b ∈ To, b < 256 := by
  obtain ⟨v0, v1, v2, v3, y0, y1, y2, y3, n, rfl, _, _, h0, h1, h2, h3⟩ := open_agg4 Tryd.underlying50 (by kernel_rfl) (by kernel_rfl) hv h
  obtain ⟨x0, e0, _, z0⟩ := DataW.trod_int Tryd.underlying5 h0
  obtain ⟨x1, e1, _, z1⟩ := DataW.trod_int Tryd.underlying5 h1
  obtain ⟨x3, e3, _, z3⟩ := DataW.trod_int Tryd.underlying5 h3
  simp only [List.cons.injEq, and_true] at e0 e1 e3
  subst e0 e1 e3
  have w0 := wf_u8 z0
  have w1 := wf_u8 z1
  have w3 := wf_u8 z3
  have key : ∃ To : List Nat, SlV w v2 1 To.length (To.map u8v) ∧ ∀ b ∈ To, b < 256 := by
    rcases open_ints Tryd.underlying48 Tryd.underlying5 (by kernel_rfl) h2 with ⟨hcs, _⟩ | ⟨a, len, cap, zs, hcs, _, hl, hm, hz, _, hcell, hws⟩
    · simp only [List.cons.injEq, and_true] at hcs
      subst hcs
      exact ⟨[], SlV.nil w 1, fun b hb => by cases hb⟩
    · simp only [List.cons.injEq, and_true] at hcs
      subst hcs
      have hz' : len ≤ zs.length := by rw [hz, if_pos rfl]; exact hl
      exact u8s_of hl hm hz' hws (fun a' e c hc => by cases e; exact hcell c (by omega)) (fun e => by cases e)
  obtain ⟨To, hS, hT⟩ := key
  refine ⟨x0.toNat, x1.toNat, x3.toNat, v2, To, ?_, hS, by omega, by omega, by omega, hT⟩
  rw [Int.toNat_of_nonneg w0.1, Int.toNat_of_nonneg w1.1, Int.toNat_of_nonneg w3.1]
end
end Go.Proofs.YtdeompnaojiajaaDoor.Px
