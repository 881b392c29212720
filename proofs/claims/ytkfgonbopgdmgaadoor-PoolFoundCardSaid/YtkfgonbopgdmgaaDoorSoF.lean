/- The library's stable sort at strings: merging in general. -/
import Derived.Test.YtkfgonbopgdmgaaDoorSoE
namespace Go.Proofs.YtkfgonbopgdmgaaDoor.Px
open Go.RowKit
open St Po

/-- what merging two sorted rows gives -/
def SymPost (L : List (Nat × Obj)) (R : List Rw) (g n cap : Nat) (P A B Q : List (List UInt8)) (W : World) (e : Ending) (w' : World) : Prop :=
  e = .returned (.tuple #[]) ∧ ∃ C, Stb rk (A ++ B) C ∧ Kp L (rowS g n cap (P ++ C ++ Q) :: R) W w'
theorem stb_nil_left {B : List (List UInt8)} (h : B.Pairwise (fun x y => rk x ≤ rk y)) : Stb rk ([] ++ B) ([] ++ B) := Stb.self h
set_option maxHeartbeats 32000000 in
set_option maxRecDepth 100000 in
theorem symGen_any (P A B Q : List (List UInt8)) (g n cap a m b : Nat) (L : List (Nat × Obj)) (R : List Rw) (W w : World) (h : Kp L (rowS g n cap (P ++ A ++ B ++ Q) :: R) W w)
    (ha : P.length = a) (hm : a + A.length = m) (hb : m + B.length = b) (hA2 : 2 ≤ A.length) (hB2 : 2 ≤ B.length) (hsA : A.Pairwise (fun x y => rk x ≤ rk y)) (hsB : B.Pairwise (fun x y => rk x ≤ rk y)) (hn : (P ++ A ++ B ++ Q).length = n) (hb' : n ≤ 1000000000)
    (ih : ∀ (P' A' B' Q' : List (List UInt8)) (a' m' b' : Nat) (w' : World), A'.length + B'.length < A.length + B.length → Kp L (rowS g n cap (P' ++ A' ++ B' ++ Q') :: R) W w' → P'.length = a' → a' + A'.length = m' → m' + B'.length = b' → 0 < A'.length → 0 < B'.length → A'.Pairwise (fun x y => rk x ≤ rk y) → B'.Pairwise (fun x y => rk x ≤ rk y) → (P' ++ A' ++ B' ++ Q').length = n →
      Calls Tryd.prog 90 #[.slice (some ⟨g, 0, none⟩) n cap, .int .i64 (a' : Int), .int .i64 (m' : Int), .int .i64 (b' : Int), cmpV] w' (SymPost L R g n cap P' A' B' Q' W)) :
    Calls Tryd.prog 90 #[.slice (some ⟨g, 0, none⟩) n cap, .int .i64 (a : Int), .int .i64 (m : Int), .int .i64 (b : Int), cmpV] w (SymPost L R g n cap P A B Q W) := by
  have HK := Lib.hid h
  have hl : a + A.length + B.length + Q.length = n := by rw [← hn]; simp only [List.length_append]; omega
  have CC := Lib.hid (fun x y w => cmp_any x y w)
  unfold cmpV at ih ⊢
  have IH := Lib.hid ih
  obtain ⟨al, hal⟩ : ∃ k, A.length = k := ⟨_, rfl⟩
  obtain ⟨bl, hbl⟩ : ∃ k, B.length = k := ⟨_, rfl⟩
  have w0 : IntKind.i64.wrap ((m : Int) - (a : Int)) = (al : Int) := by rw [IntWalk.i64_in _ (by omega)]; omega
  have hne : ¬ (al : Int) = 1 := by omega
  have hneb : ((al : Int) == 1) = false := by simp; omega
  have w9 : IntKind.i64.wrap ((b : Int) - (m : Int)) = (bl : Int) := by rw [IntWalk.i64_in _ (by omega)]; omega
  have hne2 : ¬ (bl : Int) = 1 := by omega
  have hneb2 : ((bl : Int) == 1) = false := by simp; omega
  obtain ⟨mid, hmid⟩ : ∃ k, (a + b) / 2 = k := ⟨_, rfl⟩
  have v1 : IntKind.i64.wrap ((a : Int) + (b : Int)) = (a : Int) + (b : Int) := IntWalk.i64_in _ (by omega)
  have v2 : ((a : Int) + (b : Int)) / 2 = (mid : Int) := by omega
  obtain ⟨nm, hnm⟩ : ∃ k, mid + m = k := ⟨_, rfl⟩
  have v3 : IntKind.i64.wrap ((mid : Int) + (m : Int)) = (nm : Int) := by rw [IntWalk.i64_in _ (by omega)]; omega
  obtain ⟨pp, hpp⟩ : ∃ k, nm - 1 = k := ⟨_, rfl⟩
  have v4 : IntKind.i64.wrap ((nm : Int) - 1) = (pp : Int) := by rw [IntWalk.i64_in _ (by omega)]; omega
  obtain ⟨nb, hnb⟩ : ∃ k, nm - b = k := ⟨_, rfl⟩
  have hamb : a + 2 ≤ m ∧ m + 2 ≤ b ∧ b ≤ n := by omega
  have HG := Lib.hid (And.intro hamb (And.intro hmid (And.intro hnm (And.intro hpp hnb))))
  have HL := Lib.hid (And.intro ha (And.intro hm (And.intro hb (And.intro hal hbl))))
  have HSA := Lib.hid hsA
  have HSB := Lib.hid hsB
  have HN := Lib.hid hn
  have hbnds : a ≤ 1000000000 ∧ m ≤ 1000000000 ∧ b ≤ 1000000000 ∧ mid ≤ 1000000000 ∧ nm ≤ 2000000000 ∧ pp ≤ 2000000000 := by omega
  obtain ⟨bd1, bd2, bd3, bd4, bd5, bd6⟩ := hbnds
  have CA := Lib.hid (fun (c : Nat) (z : List UInt8) (hc : A[c]? = some z) => show ((P ++ A ++ B ++ Q).map sv)[a + c]? = some (sv z) by
    have hlt : c < A.length := (List.getElem?_eq_some_iff.1 hc).1
    have e : (P ++ A ++ B ++ Q)[a + c]? = some z := by
      rw [List.append_assoc, List.append_assoc, List.getElem?_append_right (by omega), List.getElem?_append_left (by omega), show a + c - P.length = c by omega, hc]
    rw [List.getElem?_map, e]
    rfl)
  have CB := Lib.hid (fun (c : Nat) (z : List UInt8) (hc : B[c]? = some z) => show ((P ++ A ++ B ++ Q).map sv)[m + c]? = some (sv z) by
    have hlt : c < B.length := (List.getElem?_eq_some_iff.1 hc).1
    have e : (P ++ A ++ B ++ Q)[m + c]? = some z := by
      rw [List.append_assoc, List.getElem?_append_right (by simp; omega), List.getElem?_append_left (by simp; omega), List.length_append, show m + c - (P.length + A.length) = c by omega, hc]
    rw [List.getElem?_map, e]
    rfl)
  -- where the search begins and ends
  obtain ⟨st0, r0, hst⟩ : ∃ st0 r0 : Nat, (mid < m ∧ st0 = nb ∧ r0 = mid) ∨ (¬ mid < m ∧ st0 = a ∧ r0 = m) := by
    by_cases q : mid < m
    · exact ⟨nb, mid, .inl ⟨q, rfl, rfl⟩⟩
    · exact ⟨a, m, .inr ⟨q, rfl, rfl⟩⟩
  have hrng : a ≤ st0 ∧ st0 ≤ r0 ∧ r0 ≤ m ∧ r0 ≤ mid ∧ (∀ c, st0 ≤ c → c < r0 → m ≤ pp - c ∧ pp - c < b ∧ c ≤ pp) := by
    refine ⟨by omega, by omega, by omega, by omega, fun c h1 h2 => by omega⟩
  have HST := Lib.hid hst
  have HR := Lib.hid hrng
  clear h ha hm hb hsA hsB hn hl ih hal hbl hmid hnm hpp hnb hamb hA2 hB2 hrng hst
  go_enter Tryd.func90, Tryd.ntmps90
  go_upto_if 140 with fail
  go_cut [20, 21] (fun v20 v21 wx => v20 = .int .i64 (st0 : Int) ∧ v21 = .int .i64 (r0 : Int) ∧ wx = w)
  case first => as_aux_lemma =>
    rcases HST.out with ⟨q, e1, e2⟩ | ⟨q, e1, e2⟩
    · have q1 : (mid : Int) < (m : Int) := by omega
      have w7 : IntKind.i64.wrap ((nm : Int) - (b : Int)) = (nb : Int) := by have := HG.out; rw [IntWalk.i64_in _ (by omega)]; omega
      subst e1 e2
      go_wp2_with fail
      go_meet
      exact ⟨rfl, rfl, rfl⟩
    · have q1 : ¬ (mid : Int) < (m : Int) := by omega
      subst e1 e2
      go_wp2_with fail
      go_meet
      exact ⟨rfl, rfl, rfl⟩
  case rest => as_aux_lemma =>
    obtain ⟨rfl, rfl, rfl⟩ := hcut
    go_wp2_with fail
    go_loopw [20, 21, 23] (fun v20 v21 _ wr => ∃ i j : Nat, v20 = .int .i64 (i : Int) ∧ v21 = .int .i64 (j : Int) ∧ st0 ≤ i ∧ i ≤ j ∧ j ≤ r0 ∧ (i = st0 ∨ ∃ x y, A[i - 1 - a]? = some x ∧ B[nm - i - m]? = some y ∧ rk x ≤ rk y) ∧ (j = r0 ∨ ∃ x y, A[j - a]? = some x ∧ B[pp - j - m]? = some y ∧ rk y < rk x) ∧ Kp L (rowS g n cap (P ++ A ++ B ++ Q) :: R) W wr) (fun v20 v21 _ _ => (intOf v21).toNat - (intOf v20).toNat)
    case atStart => exact ⟨st0, r0, rfl, rfl, Nat.le_refl _, HR.out.2.1, Nat.le_refl _, .inl rfl, .inl rfl, HK.out⟩
    case round => as_aux_lemma =>
      obtain ⟨i, j, rfl, rfl, hsi, hij, hjr, h1, h2, hK⟩ := hrel
      clear HK
      have HKK := Lib.hid hK
      have H1 := Lib.hid h1
      have H2 := Lib.hid h2
      clear hK h1 h2
      have hjb : j ≤ m := by have := HR.out.2.2.1; omega
      by_cases hlt : i < j
      · have j1 : (i : Int) < (j : Int) := by omega
        obtain ⟨c, hc⟩ : ∃ c, (i + j) / 2 = c := ⟨_, rfl⟩
        have w1 : IntKind.i64.wrap ((i : Int) + (j : Int)) = (i : Int) + (j : Int) := IntWalk.i64_in _ (by omega)
        have w2 : ((i : Int) + (j : Int)) / 2 = (c : Int) := by omega
        have hci : i ≤ c ∧ c < j := by omega
        obtain ⟨hci, hcj⟩ := hci
        obtain ⟨hp1, hp2, hp3⟩ := HR.out.2.2.2.2 c (by omega) (by omega)
        obtain ⟨pc, hpc⟩ : ∃ k, pp - c = k := ⟨_, rfl⟩
        have w3 : IntKind.i64.wrap ((pp : Int) - (c : Int)) = (pc : Int) := by rw [IntWalk.i64_in _ (by omega)]; omega
        have hbn := HG.out.1.2.2
        have has := HR.out.1
        have b1 : (c : Int) < (n : Int) := by omega
        have b2 : (pc : Int) < (n : Int) := by omega
        obtain ⟨x, hx⟩ : ∃ y, A[c - a]? = some y := ⟨_, List.getElem?_eq_getElem (by have := HL.out.2.1; omega)⟩
        obtain ⟨y, hy⟩ : ∃ y, B[pc - m]? = some y := ⟨_, List.getElem?_eq_getElem (by have := HL.out.2.2.1; omega)⟩
        have c1 : wr.cell? ⟨g, c, none⟩ = some (sv x) := own_cell (HKK.out.row 0 rfl) (by have := CA.out (c - a) x hx; rwa [show a + (c - a) = c by omega] at this)
        have c2 : wr.cell? ⟨g, pc, none⟩ = some (sv y) := own_cell (HKK.out.row 0 rfl) (by have := CB.out (pc - m) y hy; rwa [show m + (pc - m) = pc by omega] at this)
        unfold sv at c1 c2
        obtain ⟨r, hr⟩ : ∃ r, cfL y x = r := ⟨_, rfl⟩
        have CX := Lib.hid (fun w => CC.out y x w)
        rw [hr] at CX
        have hneg := cfL_neg y x
        rw [hr] at hneg
        obtain ⟨sx, hsx⟩ : ∃ s, bs x = s := ⟨_, rfl⟩
        obtain ⟨sy, hsy⟩ : ∃ s, bs y = s := ⟨_, rfl⟩
        rw [hsx] at c1 CX
        rw [hsy] at c2 CX
        have HX := Lib.hid hx
        have HY := Lib.hid hy
        have HPc := Lib.hid (And.intro hpc (And.intro hc (And.intro hp1 hp2)))
        have hib : i ≤ 1000000000 ∧ j ≤ 1000000000 ∧ c ≤ 1000000000 := by omega
        obtain ⟨hib, hjb2, hcb⟩ := hib
        clear hsx hsy hr hx hy hc hpc hp1 hp2 hbn
        by_cases hyx : rk y < rk x
        · have hv : r < 0 := hneg.2 hyx
          have hd : decide (r < 0) = true := decide_eq_true hv
          clear hneg
          go_upto_region 35 with fail
          go_quiet ((go_at_call 43; exact Calls.quiet_of_same (CX.out _)))
          go_wp2_with fail
          go_roundw
          case rel => exact ⟨i, c, rfl, rfl, hsi, hci, by omega, H1.out, .inr ⟨x, y, HX.out, by rw [HPc.out.1]; exact HY.out, hyx⟩, HKK.out.call (below_drewN (Below.refl _ wr) nq) rfl rfl rfl rfl⟩
          case measure => simp [intOf]; omega
        · have hv : ¬ r < 0 := fun q => hyx (hneg.1 q)
          have hd : decide (r < 0) = false := decide_eq_false hv
          clear hneg
          go_upto_region 35 with fail
          go_quiet ((go_at_call 43; exact Calls.quiet_of_same (CX.out _)))
          go_wp2_with fail
          go_roundw
          case rel => exact ⟨c + 1, j, by simp, rfl, by omega, by omega, hjr, .inr ⟨x, y, by rw [show c + 1 - 1 - a = c - a by omega]; exact HX.out, by have := HG.out; have := HPc.out.1; rw [show nm - (c + 1) - m = pc - m by omega]; exact HY.out, by omega⟩, H2.out, HKK.out.call (below_drewN (Below.refl _ wr) nq) rfl rfl rfl rfl⟩
          case measure => simp [intOf]; omega
      · obtain rfl : i = j := by omega
        have j1 : ¬ (i : Int) < (i : Int) := by omega
        obtain ⟨en, hen⟩ : ∃ k, nm - i = k := ⟨_, rfl⟩
        have hfin : (i - a = 0 ∨ B.length ≤ mid - i ∨ ∃ x y, A[i - a - 1]? = some x ∧ B[mid - i]? = some y ∧ rk x ≤ rk y) ∧ (mid - i = 0 ∨ A.length ≤ i - a ∨ ∃ x y, A[i - a]? = some x ∧ B[mid - i - 1]? = some y ∧ rk y < rk x) := by
          have g1 := HG.out
          have g2 := HL.out
          have g3 := HR.out
          refine ⟨?_, ?_⟩
          · rcases H1.out with e | ⟨x, y, e1, e2, e3⟩
            · rcases HST.out with ⟨q, q1, q2⟩ | ⟨q, q1, q2⟩
              · exact .inr (.inl (by omega))
              · exact .inl (by omega)
            · exact .inr (.inr ⟨x, y, by rw [show i - a - 1 = i - 1 - a by omega]; exact e1, by rw [show mid - i = nm - i - m by omega]; exact e2, e3⟩)
          · rcases H2.out with e | ⟨x, y, e1, e2, e3⟩
            · rcases HST.out with ⟨q, q1, q2⟩ | ⟨q, q1, q2⟩
              · exact .inl (by omega)
              · exact .inr (.inl (by omega))
            · exact .inr (.inr ⟨x, y, e1, by rw [show mid - i - 1 = pp - i - m by omega]; exact e2, e3⟩)
        have HFin := Lib.hid hfin
        clear hfin
        have hspl := fun C1 C2 => stb_split (k := rk) (C1 := C1) (C2 := C2) HSA.out HSB.out HFin.out.1 HFin.out.2
        have g1 := HG.out
        have g2 := HL.out
        have g3 := HR.out
        have hmi : mid - i ≤ B.length := by
          rcases HST.out with ⟨q, q1, q2⟩ | ⟨q, q1, q2⟩
          · omega
          · omega
        have hsz : (A.take (i - a)).length = i - a ∧ (A.drop (i - a)).length = m - i ∧ (B.take (mid - i)).length = mid - i ∧ (B.drop (mid - i)).length = b - en ∧ a ≤ i ∧ i ≤ mid ∧ m + (mid - i) = en ∧ en ≤ b ∧ mid ≤ en := by
          rw [List.length_take, List.length_drop, List.length_take, List.length_drop]
          omega
        have sA := List.pairwise_append.1 (List.take_append_drop (i - a) A ▸ HSA.out)
        have sB := List.pairwise_append.1 (List.take_append_drop (mid - i) B ▸ HSB.out)
        have eA := List.take_append_drop (i - a) A
        have eB := List.take_append_drop (mid - i) B
        obtain ⟨A1, hA1⟩ : ∃ l, A.take (i - a) = l := ⟨_, rfl⟩
        obtain ⟨A2, hA2⟩ : ∃ l, A.drop (i - a) = l := ⟨_, rfl⟩
        obtain ⟨B1, hB1⟩ : ∃ l, B.take (mid - i) = l := ⟨_, rfl⟩
        obtain ⟨B2, hB2⟩ : ∃ l, B.drop (mid - i) = l := ⟨_, rfl⟩
        rw [hA1, hA2] at eA
        rw [hB1, hB2] at eB
        rw [hA1, hA2, hB1, hB2] at hspl hsz
        have sA1 := sA.1
        have sA2 := sA.2.1
        have sB1 := sB.1
        have sB2 := sB.2.1
        rw [hA1] at sA1
        rw [hA2] at sA2
        rw [hB1] at sB1
        rw [hB2] at sB2
        have HSpl := Lib.hid hspl
        have HSz := Lib.hid hsz
        have HSo := Lib.hid (And.intro sA1 (And.intro sA2 (And.intro sB1 sB2)))
        have hk1 := HKK.out
        rw [← eA, ← eB] at hk1
        have hn1 := HN.out
        rw [← eA, ← eB] at hn1
        have HN1 := Lib.hid hn1
        have HK1 := Lib.hid (show Kp L (rowS g n cap (P ++ A1 ++ A2 ++ (B1 ++ B2) ++ Q) :: R) W wr by simpa using hk1)
        have HAB := Lib.hid (show A.length + B.length = b - a by omega)
        have x1 : i ≤ mid ∧ a ≤ i ∧ en ≤ b ∧ mid ≤ en ∧ m + (mid - i) = en := by omega
        obtain ⟨x1, x2, x3, x4, x5⟩ := x1
        have v5 : IntKind.i64.wrap ((nm : Int) - (i : Int)) = (en : Int) := by rw [IntWalk.i64_in _ (by omega)]; omega
        have HEn := Lib.hid hen
        clear hen hspl hmi g1 g2 g3 hsz sA sB eA eB hA1 hA2 hB1 hB2 sA1 sA2 sB1 sB2 hk1 hn1 H1 H2 HKK
        go_upto_region 39 with fail
        go_cut [185] (fun v wx => v = .bool (decide (i < m ∧ m < en)) ∧ Kp L (rowS g n cap (P ++ A1 ++ A2 ++ (B1 ++ B2) ++ Q) :: R) W wx)
        case first => as_aux_lemma =>
          by_cases y1 : i < m
          · have z1 : (i : Int) < (m : Int) := by omega
            by_cases y2 : m < en
            · have z2 : (m : Int) < (en : Int) := by omega
              have HQ := Lib.hid (decide_eq_true (And.intro y1 y2))
              clear y1 y2
              go_wp2_with fail
              go_meet
              exact ⟨by rw [HQ.out], HK1.out⟩
            · have z2 : ¬ (m : Int) < (en : Int) := by omega
              have HQ := Lib.hid (decide_eq_false (p := i < m ∧ m < en) (fun q => y2 q.2))
              clear y1 y2
              go_wp2_with fail
              go_meet
              exact ⟨by rw [HQ.out], HK1.out⟩
          · have z1 : ¬ (i : Int) < (m : Int) := by omega
            have HQ := Lib.hid (decide_eq_false (p := i < m ∧ m < en) (fun q => y1 q.1))
            clear y1
            go_wp2_with fail
            go_meet
            exact ⟨by rw [HQ.out], HK1.out⟩
        case rest => as_aux_lemma =>
          obtain ⟨rfl, hk⟩ := hcut
          have HK2 := Lib.hid hk
          clear hk HK1
          obtain ⟨q, hq⟩ : ∃ q, decide (i < m ∧ m < en) = q := ⟨_, rfl⟩
          have HQ := Lib.hid hq
          rw [hq]
          clear hq
          go_upto_if 185 with fail
          go_cut [191] (fun _ wx => Kp L (rowS g n cap (P ++ A1 ++ B1 ++ (A2 ++ B2 ++ Q)) :: R) W wx)
          case first => as_aux_lemma =>
            cases q
            · have hq := of_decide_eq_false HQ.out
              have hz := HSz.out
              have he : P ++ A1 ++ A2 ++ (B1 ++ B2) ++ Q = P ++ A1 ++ B1 ++ (A2 ++ B2 ++ Q) := by
                by_cases y1 : i < m
                · have : B1 = [] := List.length_eq_zero_iff.1 (by omega)
                  rw [this]; simp
                · have : A2 = [] := List.length_eq_zero_iff.1 (by omega)
                  rw [this]; simp
              have hk := HK2.out
              rw [he] at hk
              have HK3 := Lib.hid hk
              clear hk he hz hq
              go_wp2_with fail
              go_meet
              exact HK3.out
            · have hq := of_decide_eq_true HQ.out
              have HQ2 := Lib.hid hq
              clear hq
              go_wp2_with fail
              refine (rotate_any (P ++ A1) A2 B1 (B2 ++ Q) _ g n cap i m en L R W _ (by have := HK2.out; simpa using this) (by have := HSz.out; have := HL.out.1; rw [List.length_append]; omega) (by have := HSz.out; have := HQ2.out; omega) (by have := HSz.out; omega) (by have := HSz.out; have := HQ2.out; omega) (by have := HSz.out; have := HQ2.out; omega) (by have := HN1.out; simpa using this) hb').mono ?_
              rintro e V7 ⟨rfl, hk⟩
              have HK3 := Lib.hid (show Kp L (rowS g n cap (P ++ A1 ++ B1 ++ (A2 ++ B2 ++ Q)) :: R) W V7 by simpa using hk)
              clear hk
              go_wp2_with fail
              go_meet
              exact HK3.out
          case rest => as_aux_lemma =>
            have HK3 := Lib.hid hcut
            clear hcut HK2 HQ
            go_upto_region 41 with fail
            go_cut [199] (fun v wx => v = .bool (decide (a < i ∧ i < mid)) ∧ Kp L (rowS g n cap (P ++ A1 ++ B1 ++ (A2 ++ B2 ++ Q)) :: R) W wx)
            case first => as_aux_lemma =>
              by_cases y1 : a < i
              · have z1 : (a : Int) < (i : Int) := by omega
                by_cases y2 : i < mid
                · have z2 : (i : Int) < (mid : Int) := by omega
                  have HQ := Lib.hid (decide_eq_true (And.intro y1 y2))
                  clear y1 y2
                  go_wp2_with fail
                  go_meet
                  exact ⟨by rw [HQ.out], HK3.out⟩
                · have z2 : ¬ (i : Int) < (mid : Int) := by omega
                  have HQ := Lib.hid (decide_eq_false (p := a < i ∧ i < mid) (fun q => y2 q.2))
                  clear y1 y2
                  go_wp2_with fail
                  go_meet
                  exact ⟨by rw [HQ.out], HK3.out⟩
              · have z1 : ¬ (a : Int) < (i : Int) := by omega
                have HQ := Lib.hid (decide_eq_false (p := a < i ∧ i < mid) (fun q => y1 q.1))
                clear y1
                go_wp2_with fail
                go_meet
                exact ⟨by rw [HQ.out], HK3.out⟩
            case rest => as_aux_lemma =>
              obtain ⟨rfl, hk⟩ := hcut
              have HK4 := Lib.hid hk
              clear hk HK3
              obtain ⟨q2, hq⟩ : ∃ q, decide (a < i ∧ i < mid) = q := ⟨_, rfl⟩
              have HQ := Lib.hid hq
              rw [hq]
              clear hq
              go_upto_if 199 with fail
              go_cut [205] (fun _ wx => ∃ C1, Stb rk (A1 ++ B1) C1 ∧ Kp L (rowS g n cap (P ++ C1 ++ A2 ++ B2 ++ Q) :: R) W wx)
              case first => as_aux_lemma =>
                cases q2
                · have hq := of_decide_eq_false HQ.out
                  have hz := HSz.out
                  have hso := HSo.out
                  have hst : Stb rk (A1 ++ B1) (A1 ++ B1) := by
                    by_cases y1 : a < i
                    · have : B1 = [] := List.length_eq_zero_iff.1 (by omega)
                      rw [this, List.append_nil]; exact Stb.self hso.1
                    · have : A1 = [] := List.length_eq_zero_iff.1 (by omega)
                      rw [this, List.nil_append]; exact Stb.self hso.2.2.1
                  have HS1 := Lib.hid hst
                  clear hst hso hz hq
                  go_wp2_with fail
                  go_meet
                  exact ⟨A1 ++ B1, HS1.out, by have := HK4.out; simpa using this⟩
                · have hq := of_decide_eq_true HQ.out
                  have HQ2 := Lib.hid hq
                  clear hq
                  go_wp2_with fail
                  refine (IH.out P A1 B1 (A2 ++ B2 ++ Q) a i mid _ (by have := HSz.out; have := HAB.out; have := HG.out; omega) HK4.out HL.out.1 (by have := HSz.out; omega) (by have := HSz.out; omega) (by have := HSz.out; have := HQ2.out; omega) (by have := HSz.out; have := HQ2.out; omega) HSo.out.1 HSo.out.2.2.1 (by have := HN1.out; simp only [List.length_append] at this ⊢; omega)).mono ?_
                  rintro e V7 ⟨rfl, C1, hs1, hk⟩
                  have HS1 := Lib.hid hs1
                  have HK5 := Lib.hid hk
                  clear hs1 hk
                  go_wp2_with fail
                  go_meet
                  exact ⟨C1, HS1.out, by have := HK5.out; simpa using this⟩
              case rest => as_aux_lemma =>
                obtain ⟨C1, hs1, hk⟩ := hcut
                have HS1 := Lib.hid hs1
                have HK5 := Lib.hid hk
                have HC1 := Lib.hid hs1.len
                clear hs1 hk HK4 HQ
                go_upto_region 43 with fail
                go_cut [213] (fun v wx => v = .bool (decide (mid < en ∧ en < b)) ∧ Kp L (rowS g n cap (P ++ C1 ++ A2 ++ B2 ++ Q) :: R) W wx)
                case first => as_aux_lemma =>
                  by_cases y1 : mid < en
                  · have z1 : (mid : Int) < (en : Int) := by omega
                    by_cases y2 : en < b
                    · have z2 : (en : Int) < (b : Int) := by omega
                      have HQ := Lib.hid (decide_eq_true (And.intro y1 y2))
                      clear y1 y2
                      go_wp2_with fail
                      go_meet
                      exact ⟨by rw [HQ.out], HK5.out⟩
                    · have z2 : ¬ (en : Int) < (b : Int) := by omega
                      have HQ := Lib.hid (decide_eq_false (p := mid < en ∧ en < b) (fun q => y2 q.2))
                      clear y1 y2
                      go_wp2_with fail
                      go_meet
                      exact ⟨by rw [HQ.out], HK5.out⟩
                  · have z1 : ¬ (mid : Int) < (en : Int) := by omega
                    have HQ := Lib.hid (decide_eq_false (p := mid < en ∧ en < b) (fun q => y1 q.1))
                    clear y1
                    go_wp2_with fail
                    go_meet
                    exact ⟨by rw [HQ.out], HK5.out⟩
                case rest => as_aux_lemma =>
                  obtain ⟨rfl, hk⟩ := hcut
                  have HK6 := Lib.hid hk
                  clear hk HK5
                  obtain ⟨q3, hq⟩ : ∃ q, decide (mid < en ∧ en < b) = q := ⟨_, rfl⟩
                  have HQ := Lib.hid hq
                  rw [hq]
                  clear hq
                  cases q3
                  · have hq := of_decide_eq_false HQ.out
                    have hz := HSz.out
                    have hso := HSo.out
                    have hg := HEn.out
                    have hst : Stb rk (A2 ++ B2) (A2 ++ B2) := by
                      by_cases y1 : mid < en
                      · have : B2 = [] := List.length_eq_zero_iff.1 (by omega)
                        rw [this, List.append_nil]; exact Stb.self hso.2.1
                      · have : A2 = [] := List.length_eq_zero_iff.1 (by omega)
                        rw [this, List.nil_append]; exact Stb.self hso.2.2.2
                    have HS2 := Lib.hid hst
                    clear hst hso hz hq hg
                    go_wp2
                    go_end0
                    exact ⟨rfl, C1 ++ (A2 ++ B2), HSpl.out C1 _ HS1.out HS2.out, by have := HK6.out; simpa using this⟩
                  · have hq := of_decide_eq_true HQ.out
                    have HQ2 := Lib.hid hq
                    clear hq
                    go_wp2_with fail
                    refine (IH.out (P ++ C1) A2 B2 Q mid en b _ (by have := HSz.out; have := HAB.out; have := HG.out; omega) (by have := HK6.out; simpa using this) (by have := HSz.out; have := HC1.out; have := HL.out.1; rw [List.length_append] at *; omega) (by have := HSz.out; have := HEn.out; have := HG.out; omega) (by have := HSz.out; omega) (by have := HSz.out; have := HQ2.out; omega) (by have := HSz.out; have := HQ2.out; omega) HSo.out.2.1 HSo.out.2.2.2 (by have h1 := HN1.out; have h2 := HC1.out; simp only [List.length_append] at h1 h2 ⊢; omega)).mono ?_
                    rintro e V7 ⟨rfl, C2, hs2, hk⟩
                    have HS2 := Lib.hid hs2
                    have HK7 := Lib.hid hk
                    clear hs2 hk
                    go_wp2
                    go_end0
                    exact ⟨rfl, C1 ++ C2, HSpl.out C1 C2 HS1.out HS2.out, by have := HK7.out; simpa using this⟩
end Go.Proofs.YtkfgonbopgdmgaaDoor.Px
