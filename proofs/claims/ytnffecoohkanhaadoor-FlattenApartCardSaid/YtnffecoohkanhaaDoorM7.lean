/- flatten.Links at sources without rules, eras and shifts. The examples of chapter 35: what is sorted, and flattened, plain. The sources of the examples of chapter 35, made of literals. -/
import Derived.Test.YtnffecoohkanhaaDoorYFtJ
import Derived.Test.YtnffecoohkanhaaDoorM6
namespace Go.Proofs.YtnffecoohkanhaaDoor.Px
open Go.RowKit
open Go.Maps (Keyed)
open Lk Ld

def zq1 (x : List UInt8) : Zq := ⟨x, 0, []⟩
theorem zq1_ok (W : World) (zs : List (List UInt8)) : ∀ (i : Nat) (z : Zq) (o : Zo), (zs.map zq1)[i]? = some z → (zos zs)[i]? = some o → ZqOk W z o := by
  intro i z o h1 h2
  unfold zos at h2
  rw [List.getElem?_map] at h1 h2
  cases hz : zs[i]? with
  | none => rw [hz] at h1; cases h1
  | some x =>
    rw [hz] at h1 h2
    simp only [Option.map_some, Option.some.injEq] at h1 h2
    subst h1 h2
    exact ⟨rfl, SlV.nil W 13, (fun c h => by unfold zo1 at h; simp only [Value.slice.injEq] at h; exact h.2.2.symm), (fun u hu => by cases hu), by show 0 ≤ 1000000; omega⟩
/-- the eras of the zones that were copied are none -/
theorem eras_none {L : List (Nat × Obj)} {R : List Rw} {W X : World} {E : List (Zq × Zo)} {zs : List (List UInt8)} (h : Kp L (R ++ E.reverse.map eraR) W X) (hE : E.map Prod.fst = zs.map zq1) : ∀ o ∈ E.map Prod.snd, o.2.2.1 = 0 := by
  intro o ho
  obtain ⟨p, hp, rfl⟩ := List.mem_map.1 ho
  have hm : p.1.m = 0 := by
    have h1 : p.1 ∈ zs.map zq1 := by rw [← hE]; exact List.mem_map.2 ⟨p, hp, rfl⟩
    obtain ⟨x, _, e⟩ := List.mem_map.1 h1
    rw [← e]
    rfl
  have hr := h.own (eraR p) (List.mem_append_right _ (List.mem_map.2 ⟨p, List.mem_reverse.2 hp, rfl⟩))
  obtain ⟨a, c, e⟩ := own_slice hr
  unfold eraR at e
  simp only [Value.slice.injEq] at e
  rw [e.2.1]
  exact hm
theorem names_of_copy {E : List (Zq × Zo)} {zs : List (List UInt8)} (hE : E.map Prod.fst = zs.map zq1) (hn : ∀ p ∈ E, p.2.1 = p.1.nm) : (E.map Prod.snd).map Prod.fst = zs := by
  have h : (E.map Prod.fst).map Zq.nm = zs := by
    rw [hE, List.map_map]
    exact (List.map_congr_left (fun x _ => rfl)).trans (List.map_id zs)
  rw [← h, List.map_map, List.map_map]
  exact List.map_congr_left fun p hp => hn p hp
theorem some_of {W : World} {v : Value} {L : List (List UInt8 × List UInt8)} (h : LkV W v L) (h0 : 0 < L.length) : ∀ c, v = .slice none L.length c → c = 0 := by
  intro c hc
  obtain ⟨b, o, c1, e, _⟩ := SlV.allA h h0
  rw [e] at hc
  simp at hc
set_option maxRecDepth 100000 in
theorem links35_src (zv lv : Value) (zs : List (List UInt8)) (P : List (List UInt8 × List UInt8)) (W : World) (hs : SrcV W zv lv (zos zs) P) (h0 : 0 < P.length) (h1 : P.length ≤ 1000) (h2 : zs.length ≤ 1000) (hck : checkL zs P zoneOk = ((0, 0), 0)) :
    Calls Tryd.prog 14 #[.agg #[.slice none 0 0, zv, lv, .slice none 0 0]] W fun e w' => ∃ (rv2 zv2 lv2 sv2 : Value) (Q2 : List Zo), e = .returned (.tuple #[.agg #[rv2, zv2, lv2, sv2], .int .i64 0]) ∧ znames Q2 = zs ∧ (∀ o ∈ Q2, o.2.2.1 = 0) ∧
      SlV w' rv2 11 0 [] ∧ ZoV w' zv2 Q2 ∧ LkV w' lv2 (flatL zs P) ∧ SlV w' sv2 1 0 [] ∧ Below W.heap.size W w' := by
  have hzl : (zos zs).length = zs.length := by unfold zos; rw [List.length_map]
  refine (links35_ok (.slice none 0 0) zv lv (.slice none 0 0) 0 0 [] [] (zs.map zq1) (zos zs) P W (SlV.nil W 11) hs.zo hs.lk (SlV.nil W 1) (fun u hu => by cases hu) (fun u hu => by cases hu) (fun c h => by simp only [Value.slice.injEq] at h; exact h.2.2.symm) (some_of hs.lk h0) (fun c h => by simp only [Value.slice.injEq] at h; exact h.2.2.symm)
    (by rw [hzl, List.length_map]) (zq1_ok W zs) (by omega) (by omega) (by omega) (by rw [List.length_map]; omega) hs (by rw [zos_names]; exact hck) (by rw [hzl]; omega)).mono ?_
  rintro e w' ⟨rv2, zv2, lv2, sv2, E, rfl, hE, hn, hk⟩
  rw [zos_names] at hk
  have hlen : (E.map Prod.snd).length = (zs.map zq1).length := by rw [← hE, List.length_map, List.length_map]
  refine ⟨rv2, zv2, lv2, sv2, E.map Prod.snd, rfl, names_of_copy hE hn, eras_none (R := [_, _, _, _]) hk hE, SlV.of_own (hk.row 3 rfl), ?_, ?_, SlV.of_own (hk.row 2 rfl), hk.below⟩
  · have h := SlV.of_own (hk.row 1 rfl)
    unfold ZoV
    rw [hlen]
    exact h
  · have h := SlV.of_own (hk.row 0 rfl)
    unfold LkV
    rw [flatL_len]
    exact h
set_option maxRecDepth 100000 in
theorem sort35_src (zv lv : Value) (zs : List (List UInt8)) (P : List (List UInt8 × List UInt8)) (W : World) (hs : SrcV W zv lv (zos zs) P) (hln : ∀ c, lv = .slice none P.length c → c = 0) (h1 : P.length < 20) (h2 : zs.length < 20) :
    Calls Tryd.prog 17 #[.agg #[.slice none 0 0, zv, lv, .slice none 0 0]] W fun e w' => ∃ (rv2 zv2 lv2 sv2 : Value) (Q2 CZ : List Zo) (CL : List (List UInt8 × List UInt8)), e = .returned (.agg #[rv2, zv2, lv2, sv2]) ∧ znames Q2 = zs ∧ (∀ o ∈ Q2, o.2.2.1 = 0) ∧ St.Stb (rkN Q2) Q2 CZ ∧ St.Stb (rkN P) P CL ∧
      SlV w' rv2 11 0 [] ∧ ZoV w' zv2 CZ ∧ LkV w' lv2 CL ∧ SlV w' sv2 1 0 [] ∧ Below W.heap.size W w' := by
  have hzl : (zos zs).length = zs.length := by unfold zos; rw [List.length_map]
  refine (sort35_any (.slice none 0 0) zv lv (.slice none 0 0) 0 0 [] [] (zs.map zq1) (zos zs) P W (SlV.nil W 11) hs.zo hs.lk (SlV.nil W 1) (fun u hu => by cases hu) (fun u hu => by cases hu) (fun c h => by simp only [Value.slice.injEq] at h; exact h.2.2.symm) hln (fun c h => by simp only [Value.slice.injEq] at h; exact h.2.2.symm)
    (by rw [hzl, List.length_map]) (zq1_ok W zs) (by omega) (by omega) (by omega) (by rw [List.length_map]; omega) (by rw [List.length_map]; omega) h1).mono ?_
  rintro e w' ⟨rv2, zv2, lv2, sv2, E, CZ, CL, rfl, hE, hn, hz, hl, hk⟩
  have hlen : CZ.length = (zs.map zq1).length := by rw [hz.len, ← hE, List.length_map, List.length_map]
  refine ⟨rv2, zv2, lv2, sv2, E.map Prod.snd, CZ, CL, rfl, names_of_copy hE hn, eras_none (R := [_, _, _, _]) hk hE, hz, hl, SlV.of_own (hk.row 3 rfl), ?_, ?_, SlV.of_own (hk.row 2 rfl), hk.below⟩
  · have h := SlV.of_own (hk.row 1 rfl)
    unfold ZoV
    rw [hlen]
    exact h
  · have h := SlV.of_own (hk.row 0 rfl)
    unfold LkV
    rw [hl.len]
    exact h
end Go.Proofs.YtnffecoohkanhaaDoor.Px
namespace Go.Proofs.YtnffecoohkanhaaDoor.Px
open Lk Ld St

/-- a list whose elements have ranks of their own, in their order -/
theorem stb_perm {α : Type} {k : α → Int} {D C : List α} (hp : C.Perm D) (hs : C.Pairwise (fun x y => k x < k y)) : Stb k D C := by
  refine ⟨hs.imp (fun h => by omega), fun r => ?_⟩
  have h1 : (C.filter fun x => decide (k x = r)).Perm (D.filter fun x => decide (k x = r)) := hp.filter _
  have hlen : (C.filter fun x => decide (k x = r)).length ≤ 1 := by
    have hf : (C.filter fun x => decide (k x = r)).Pairwise (fun x y => k x < k y) := hs.sublist List.filter_sublist
    cases hc : (C.filter fun x => decide (k x = r)) with
    | nil => simp
    | cons a t =>
      cases t with
      | nil => simp
      | cons b t =>
        exfalso
        rw [hc] at hf
        have h3 := (List.pairwise_cons.1 hf).1 b (List.mem_cons_self ..)
        have ha : a ∈ C.filter fun x => decide (k x = r) := by rw [hc]; exact List.mem_cons_self ..
        have hb : b ∈ C.filter fun x => decide (k x = r) := by rw [hc]; exact List.mem_cons_of_mem _ (List.mem_cons_self ..)
        have e1 := of_decide_eq_true (List.mem_filter.1 ha).2
        have e2 := of_decide_eq_true (List.mem_filter.1 hb).2
        omega
  cases hc : (C.filter fun x => decide (k x = r)) with
  | nil =>
    rw [hc] at h1
    rw [List.perm_nil.1 h1.symm]
  | cons a t =>
    rw [hc] at hlen h1
    have ht : t = [] := List.length_eq_zero_iff.1 (by rw [List.length_cons] at hlen; omega)
    subst ht
    rw [List.perm_singleton.1 h1.symm]
def exP : List (List UInt8 × List UInt8) := [([68], [65]), ([69], [68]), ([67], [66])]
def exZ : List (List UInt8) := [[66], [65]]
theorem ex_check : checkL exZ exP zoneOk = ((0, 0), 0) := by kernel_rfl
theorem ex_flat : flatL exZ exP = [([68], [65]), ([69], [65]), ([67], [66])] := by kernel_rfl
theorem ex_loop : (checkL exZ [([68], [65]), ([69], [69]), ([67], [66])] zoneOk).2 = 11 := by kernel_rfl
theorem ex_none : (checkL exZ [([68], [65]), ([69], [88]), ([67], [66])] zoneOk).2 = 9 := by kernel_rfl
theorem ex_sorted {C : List (List UInt8 × List UInt8)} (h : Stb (rkN exP) exP C) : C = [([67], [66]), ([68], [65]), ([69], [68])] := by
  refine h.unique (stb_perm ?_ ?_)
  · unfold exP
    exact ((List.Perm.swap _ _ _).trans (List.Perm.cons _ (List.Perm.swap _ _ _))).symm.symm.trans (by decide)
  · have e1 : rkN exP ([67], [66]) = 0 := by kernel_rfl
    have e2 : rkN exP ([68], [65]) = 1 := by kernel_rfl
    have e3 : rkN exP ([69], [68]) = 2 := by kernel_rfl
    simp [e1, e2, e3]
theorem ex_zones {Q C : List Zo} (hn : znames Q = exZ) (h : Stb (rkN Q) Q C) : znames C = [[65], [66]] ∧ ∀ o ∈ C, o ∈ Q := by
  have hm : ∀ o ∈ C, o ∈ Q := fun o ho => (h.mem o).1 ho
  unfold znames exZ at hn
  match Q, hn with
  | [(a, x), (b, y)], hn =>
    simp only [List.map_cons, List.map_nil, List.cons.injEq, and_true] at hn
    obtain ⟨rfl, rfl⟩ := hn
    have hC : C = [([65], y), ([66], x)] := by
      refine h.unique (stb_perm (List.Perm.swap _ _ _) ?_)
      have e1 : rkN [([66], x), ([65], y)] ([65], y) = 0 := by unfold rkN; rfl
      have e2 : rkN [([66], x), ([65], y)] ([66], x) = 1 := by unfold rkN; rfl
      simp [e1, e2]
    exact ⟨by rw [hC]; rfl, hm⟩
/-- zones of one name stay as they are -/
theorem ex_two {Q C : List Zo} (hn : ∀ o ∈ Q, o.1 = [65]) (h : Stb (rkN Q) Q C) : C = Q := by
  refine h.unique (Stb.self ?_)
  rw [List.pairwise_iff_getElem]
  intro i j hi hj _
  have e1 := hn _ (List.getElem_mem hi)
  have e2 := hn _ (List.getElem_mem hj)
  unfold rkN
  rw [e1, e2]
  exact Int.le_refl _
end Go.Proofs.YtnffecoohkanhaaDoor.Px
namespace Go.Proofs.YtnffecoohkanhaaDoor.Px
open Go.RowKit
open Go.Maps (Keyed)
open Lk

theorem slv_lit (l : List (List UInt8)) (X : World) (hl : l.length ≤ 1000) : SlV (X.alloc (.cells (l.map svv).toArray 9)) (.slice (some ⟨X.heap.size, 0, none⟩) l.length l.length) 1 l.length (l.map svv) := by
  have h := SlV.of_block (W := X.alloc (.cells (l.map svv).toArray 9)) (sz := 1) (heap_new X (.cells (l.map svv).toArray 9)) (Nat.le_refl l.length) (by unfold maxLen; omega) (by simp)
  rw [Nat.mul_one, List.take_of_length_le (by simp)] at h
  exact h
theorem of_lit (zs : List (List UInt8)) (P : List (List UInt8 × List UInt8)) (X : World) (hz : zs.length ≤ 100) (hl : P.length ≤ 100) (hzn : ∀ z ∈ zs, z.length ≤ 100) (hln : ∀ p ∈ P, p.1.length ≤ 100 ∧ p.2.length ≤ 100) :
    Calls Tryd.prog 27 #[.slice (some ⟨X.heap.size, 0, none⟩) zs.length zs.length, .slice (some ⟨X.heap.size + 1, 0, none⟩) (flatP P).length (flatP P).length] ((X.alloc (.cells (zs.map svv).toArray 9)).alloc (.cells ((flatP P).map svv).toArray 9)) fun e w' => ∃ zv lv, e = .returned (.agg #[.slice none 0 0, zv, lv, .slice none 0 0]) ∧ SrcV w' zv lv (zos zs) P ∧ Below X.heap.size X w' := by
  have h1 := slv_lit zs X (by omega)
  have h2 := slv_lit (flatP P) (X.alloc (.cells (zs.map svv).toArray 9)) (by rw [flatP_len]; omega)
  rw [World.size_alloc] at h2
  refine (of_any zs P _ _ _ (h1.keep ((Below.refl _ _).alloc (Nat.le_refl _) _)) h2 (by omega) (by omega) (fun z h => by have := hzn z h; unfold maxLen; omega) (fun p h => by have := hln p h; unfold maxLen; omega)).mono ?_
  rintro e w' ⟨zv, lv, he, hs, hb⟩
  refine ⟨zv, lv, he, hs, (((Below.refl _ X).alloc (Nat.le_refl _) _).alloc (by rw [World.size_alloc]; omega) _).trans (hb.mono (by rw [World.size_alloc, World.size_alloc]; omega))⟩
theorem of35_ex (X : World) : Calls Tryd.prog 27 #[.slice (some ⟨X.heap.size, 0, none⟩) 2 2, .slice (some ⟨X.heap.size + 1, 0, none⟩) 6 6] ((X.alloc (.cells #[.string ⟨#[66]⟩, .string ⟨#[65]⟩] 9)).alloc (.cells #[.string ⟨#[68]⟩, .string ⟨#[65]⟩, .string ⟨#[69]⟩, .string ⟨#[68]⟩, .string ⟨#[67]⟩, .string ⟨#[66]⟩] 9)) fun e w' => ∃ zv lv, e = .returned (.agg #[.slice none 0 0, zv, lv, .slice none 0 0]) ∧ SrcV w' zv lv (zos [[66], [65]]) [([68], [65]), ([69], [68]), ([67], [66])] ∧ Below X.heap.size X w' :=
  of_lit [[66], [65]] [([68], [65]), ([69], [68]), ([67], [66])] X (by decide) (by decide) (by decide) (by decide)
theorem of35_loop (X : World) : Calls Tryd.prog 27 #[.slice (some ⟨X.heap.size, 0, none⟩) 2 2, .slice (some ⟨X.heap.size + 1, 0, none⟩) 6 6] ((X.alloc (.cells #[.string ⟨#[66]⟩, .string ⟨#[65]⟩] 9)).alloc (.cells #[.string ⟨#[68]⟩, .string ⟨#[65]⟩, .string ⟨#[69]⟩, .string ⟨#[69]⟩, .string ⟨#[67]⟩, .string ⟨#[66]⟩] 9)) fun e w' => ∃ zv lv, e = .returned (.agg #[.slice none 0 0, zv, lv, .slice none 0 0]) ∧ SrcV w' zv lv (zos [[66], [65]]) [([68], [65]), ([69], [69]), ([67], [66])] ∧ Below X.heap.size X w' :=
  of_lit [[66], [65]] [([68], [65]), ([69], [69]), ([67], [66])] X (by decide) (by decide) (by decide) (by decide)
theorem of35_none (X : World) : Calls Tryd.prog 27 #[.slice (some ⟨X.heap.size, 0, none⟩) 2 2, .slice (some ⟨X.heap.size + 1, 0, none⟩) 6 6] ((X.alloc (.cells #[.string ⟨#[66]⟩, .string ⟨#[65]⟩] 9)).alloc (.cells #[.string ⟨#[68]⟩, .string ⟨#[65]⟩, .string ⟨#[69]⟩, .string ⟨#[88]⟩, .string ⟨#[67]⟩, .string ⟨#[66]⟩] 9)) fun e w' => ∃ zv lv, e = .returned (.agg #[.slice none 0 0, zv, lv, .slice none 0 0]) ∧ SrcV w' zv lv (zos [[66], [65]]) [([68], [65]), ([69], [88]), ([67], [66])] ∧ Below X.heap.size X w' :=
  of_lit [[66], [65]] [([68], [65]), ([69], [88]), ([67], [66])] X (by decide) (by decide) (by decide) (by decide)
theorem of35_flat (X : World) : Calls Tryd.prog 27 #[.slice (some ⟨X.heap.size, 0, none⟩) 2 2, .slice (some ⟨X.heap.size + 1, 0, none⟩) 6 6] ((X.alloc (.cells #[.string ⟨#[66]⟩, .string ⟨#[65]⟩] 9)).alloc (.cells #[.string ⟨#[68]⟩, .string ⟨#[65]⟩, .string ⟨#[69]⟩, .string ⟨#[65]⟩, .string ⟨#[67]⟩, .string ⟨#[66]⟩] 9)) fun e w' => ∃ zv lv, e = .returned (.agg #[.slice none 0 0, zv, lv, .slice none 0 0]) ∧ SrcV w' zv lv (zos [[66], [65]]) [([68], [65]), ([69], [65]), ([67], [66])] ∧ Below X.heap.size X w' :=
  of_lit [[66], [65]] [([68], [65]), ([69], [65]), ([67], [66])] X (by decide) (by decide) (by decide) (by decide)
theorem of35_sorted (X : World) : Calls Tryd.prog 27 #[.slice (some ⟨X.heap.size, 0, none⟩) 2 2, .slice (some ⟨X.heap.size + 1, 0, none⟩) 6 6] ((X.alloc (.cells #[.string ⟨#[65]⟩, .string ⟨#[66]⟩] 9)).alloc (.cells #[.string ⟨#[67]⟩, .string ⟨#[66]⟩, .string ⟨#[68]⟩, .string ⟨#[65]⟩, .string ⟨#[69]⟩, .string ⟨#[68]⟩] 9)) fun e w' => ∃ zv lv, e = .returned (.agg #[.slice none 0 0, zv, lv, .slice none 0 0]) ∧ SrcV w' zv lv (zos [[65], [66]]) [([67], [66]), ([68], [65]), ([69], [68])] ∧ Below X.heap.size X w' :=
  of_lit [[65], [66]] [([67], [66]), ([68], [65]), ([69], [68])] X (by decide) (by decide) (by decide) (by decide)
set_option maxRecDepth 100000 in
theorem links35_bad (zv lv : Value) (zs : List (List UInt8)) (P : List (List UInt8 × List UInt8)) (W : World) (hs : SrcV W zv lv (zos zs) P) (h0 : 0 < P.length) (h1 : P.length ≤ 1000) (h2 : zs.length ≤ 1000) (er : Int) (he : (checkL zs P zoneOk).2 = er) (her : er ≠ 0) :
    Calls Tryd.prog 14 #[.agg #[.slice none 0 0, zv, lv, .slice none 0 0]] W fun e w' => e = .returned (.tuple #[.agg #[.slice none 0 0, .slice none 0 0, .slice none 0 0, .slice none 0 0], .int .i64 er]) ∧ Below W.heap.size W w' := by
  have hzl : (zos zs).length = zs.length := by unfold zos; rw [List.length_map]
  exact links35_no (.slice none 0 0) zv lv (.slice none 0 0) 0 0 [] [] (zs.map zq1) (zos zs) P W (SlV.nil W 11) hs.zo hs.lk (SlV.nil W 1) (fun u hu => by cases hu) (fun u hu => by cases hu) (fun c h => by simp only [Value.slice.injEq] at h; exact h.2.2.symm) (some_of hs.lk h0) (fun c h => by simp only [Value.slice.injEq] at h; exact h.2.2.symm)
    (by rw [hzl, List.length_map]) (zq1_ok W zs) (by omega) (by omega) (by omega) (by rw [List.length_map]; omega) hs er (by rw [zos_names]; exact he) her (by rw [hzl]; omega)
end Go.Proofs.YtnffecoohkanhaaDoor.Px
