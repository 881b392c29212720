/- Links and Sort at plain sources: what comes of them is a source of names again. -/
import Derived.Test.YtnffecoohkanhaaGreatDoorYFuR
import Derived.Test.YtnffecoohkanhaaGreatDoorM7
namespace Go.Proofs.YtnffecoohkanhaaGreatDoor.Px
open Go.RowKit
open Go.Maps (Keyed)
open Lk Ld St

def SlQ4 (v : Value) (nz nl : Nat) : Prop := ∃ ra rc za zc la lc sa sc, v = .agg #[.slice ra 0 rc, .slice za nz zc, .slice la nl lc, .slice sa 0 sc]
theorem own_hln4 {W : World} {B : Nat} {e : TypeId} {sz n : Nat} {v : Value} {xs : List Value} (h : W.ownsRow B e sz v n xs) : ∀ c, v = .slice none n c → c = 0 := by
  intro c hc
  rcases own_cells h with ⟨h0, hv⟩ | ⟨g, cap, hv, _⟩
  · rw [hv] at hc
    simp only [Value.slice.injEq] at hc
    exact hc.2.2.symm
  · rw [hv] at hc
    simp at hc
set_option maxRecDepth 100000 in
theorem links35_s (zv lv : Value) (zs : List (List UInt8)) (P : List (List UInt8 × List UInt8)) (W : World) (hs : SrcV W zv lv (zos zs) P) (hln : ∀ c, lv = .slice none P.length c → c = 0) (h1 : P.length ≤ 1000) (h2 : zs.length ≤ 1000) (hck : checkL zs P zoneOk = ((0, 0), 0)) :
    Calls Tryz.prog 5 #[.agg #[.slice none 0 0, zv, lv, .slice none 0 0]] W fun e w' => ∃ (rv2 zv2 lv2 sv2 : Value) (Q2 : List Zo), e = .returned (.tuple #[.agg #[rv2, zv2, lv2, sv2], .int .i64 0]) ∧ SlQ4 (.agg #[rv2, zv2, lv2, sv2]) zs.length P.length ∧ znames Q2 = zs ∧
      SrcV w' zv2 lv2 Q2 (flatL zs P) ∧ Below W.heap.size W w' := by
  have hzl : (zos zs).length = zs.length := by unfold zos; rw [List.length_map]
  have hzn : ∀ x ∈ zs, x.length ≤ maxLen := fun x hx => hs.zn (zo1 x) (List.mem_map.2 ⟨x, hx, rfl⟩)
  refine (links35_ok (.slice none 0 0) zv lv (.slice none 0 0) 0 0 [] [] (zs.map zq1) (zos zs) P W (SlV.nil W 11) hs.zo hs.lk (SlV.nil W 1) (fun u hu => by cases hu) (fun u hu => by cases hu) (fun c h => by simp only [Value.slice.injEq] at h; exact h.2.2.symm) hln (fun c h => by simp only [Value.slice.injEq] at h; exact h.2.2.symm)
    (by rw [hzl, List.length_map]) (zq1_ok W zs) (by omega) (by omega) (by omega) (by rw [List.length_map]; omega) hs (by rw [zos_names]; exact hck) (by rw [hzl]; omega)).mono ?_
  rintro e w' ⟨rv2, zv2, lv2, sv2, E, rfl, hE, hn, hk⟩
  rw [zos_names] at hk
  have hlen : (E.map Prod.snd).length = (zs.map zq1).length := by rw [← hE, List.length_map, List.length_map]
  have hnm := names_of_copy hE hn
  have r3 := SlV.of_own (hk.row 3 rfl)
  have r2 := SlV.of_own (hk.row 2 rfl)
  have r1 := SlV.of_own (hk.row 1 rfl)
  have r0 := SlV.of_own (hk.row 0 rfl)
  obtain ⟨ra, rc, e3, _, _⟩ := r3.slA
  obtain ⟨sa, sc, e2, _, _⟩ := r2.slA
  obtain ⟨za, zc, e1, _, _⟩ := r1.slA
  obtain ⟨la, lc, e0, _, _⟩ := r0.slA
  dsimp only at e3 e2 e1 e0
  rw [List.length_map] at e1
  refine ⟨rv2, zv2, lv2, sv2, E.map Prod.snd, rfl, ⟨ra, rc, za, zc, la, lc, sa, sc, by rw [e3, e2, e1, e0]⟩, hnm, ⟨?_, ?_, fun o ho => ?_, fun p hp => ?_⟩, hk.below⟩
  · unfold ZoV
    rw [hlen]
    exact r1
  · unfold LkV
    rw [flatL_len]
    exact r0
  · exact hzn o.1 (by rw [← hnm]; exact List.mem_map.2 ⟨o, ho, rfl⟩)
  · obtain ⟨q, hq, rfl⟩ := List.mem_map.1 hp
    refine ⟨(hs.ln q hq).1, ?_⟩
    show (zs.getD (findL zs P q.1).1 []).length ≤ maxLen
    rw [List.getD]
    cases hg : zs[(findL zs P q.1).1]? with
    | none => show (0 : Nat) ≤ _; omega
    | some x => exact hzn x (List.mem_of_getElem? hg)
set_option maxRecDepth 100000 in
theorem sort35_s (zv lv : Value) (zs : List (List UInt8)) (P : List (List UInt8 × List UInt8)) (W : World) (hs : SrcV W zv lv (zos zs) P) (hln : ∀ c, lv = .slice none P.length c → c = 0) (h1 : P.length < 20) (h2 : zs.length < 20) :
    Calls Tryz.prog 6 #[.agg #[.slice none 0 0, zv, lv, .slice none 0 0]] W fun e w' => ∃ (rv2 zv2 lv2 sv2 : Value) (CZ : List Zo) (CL : List (List UInt8 × List UInt8)), e = .returned (.agg #[rv2, zv2, lv2, sv2]) ∧ SlQ4 (.agg #[rv2, zv2, lv2, sv2]) zs.length P.length ∧ (znames CZ).Perm zs ∧ Stb (rkN P) P CL ∧
      SrcV w' zv2 lv2 CZ CL ∧ Below W.heap.size W w' := by
  have hzl : (zos zs).length = zs.length := by unfold zos; rw [List.length_map]
  have hzn : ∀ x ∈ zs, x.length ≤ maxLen := fun x hx => hs.zn (zo1 x) (List.mem_map.2 ⟨x, hx, rfl⟩)
  refine (sort35_any (.slice none 0 0) zv lv (.slice none 0 0) 0 0 [] [] (zs.map zq1) (zos zs) P W (SlV.nil W 11) hs.zo hs.lk (SlV.nil W 1) (fun u hu => by cases hu) (fun u hu => by cases hu) (fun c h => by simp only [Value.slice.injEq] at h; exact h.2.2.symm) hln (fun c h => by simp only [Value.slice.injEq] at h; exact h.2.2.symm)
    (by rw [hzl, List.length_map]) (zq1_ok W zs) (by omega) (by omega) (by omega) (by rw [List.length_map]; omega) (by rw [List.length_map]; omega) h1).mono ?_
  rintro e w' ⟨rv2, zv2, lv2, sv2, E, CZ, CL, rfl, hE, hn, hz, hl, hk⟩
  have hlen : CZ.length = (zs.map zq1).length := by rw [hz.len, ← hE, List.length_map, List.length_map]
  have hnm := names_of_copy hE hn
  have hpm : (znames CZ).Perm zs := by rw [← hnm]; exact (stb_to_perm hz).map Prod.fst
  have r3 := SlV.of_own (hk.row 3 rfl)
  have r2 := SlV.of_own (hk.row 2 rfl)
  have r1 := SlV.of_own (hk.row 1 rfl)
  have r0 := SlV.of_own (hk.row 0 rfl)
  obtain ⟨ra, rc, e3, _, _⟩ := r3.slA
  obtain ⟨sa, sc, e2, _, _⟩ := r2.slA
  obtain ⟨za, zc, e1, _, _⟩ := r1.slA
  obtain ⟨la, lc, e0, _, _⟩ := r0.slA
  dsimp only at e3 e2 e1 e0
  rw [List.length_map] at e1
  refine ⟨rv2, zv2, lv2, sv2, CZ, CL, rfl, ⟨ra, rc, za, zc, la, lc, sa, sc, by rw [e3, e2, e1, e0]⟩, hpm, hl, ⟨?_, ?_, fun o ho => ?_, fun p hp => hs.ln p ((hl.mem p).1 hp)⟩, hk.below⟩
  · unfold ZoV
    rw [hlen]
    exact r1
  · unfold LkV
    rw [hl.len]
    exact r0
  · exact hzn o.1 (hpm.mem_iff.1 (List.mem_map.2 ⟨o, ho, rfl⟩))
/-- a zone of a source that a name stands for -/
theorem zone_cell {W : World} {a : Option Addr} {n c : Nat} {Q : List Zo} (h : ZoV W (.slice a n c) Q) (hn : Q.length = n) {z : List UInt8} (hz : z ∈ znames Q) : ∃ b o, a = some ⟨b, o, none⟩ ∧ b < W.heap.size ∧ (znames Q).idxOf z < n ∧ W.cell? ⟨b, o + (znames Q).idxOf z * 2, none⟩ = some (.string (bs z)) := by
  have hi := List.idxOf_lt_length_of_mem hz
  rw [znames_len, hn] at hi
  obtain ⟨b, o, c', e, _, _, hb, hc⟩ := SlV.allA h (by omega)
  simp only [Value.slice.injEq] at e
  obtain ⟨p, hp⟩ : ∃ p, Q[(znames Q).idxOf z]? = some p := ⟨_, List.getElem?_eq_getElem (by omega)⟩
  have h1 := hc _ _ (zo_at Q hp).1
  have h2 := znames_at hp
  have h3 := getD_idx hz
  rw [List.getD, h2] at h3
  have h3 : p.1 = z := h3
  rw [h3] at h1
  exact ⟨b, o, e.1, hb, hi, h1⟩
end Go.Proofs.YtnffecoohkanhaaGreatDoor.Px
