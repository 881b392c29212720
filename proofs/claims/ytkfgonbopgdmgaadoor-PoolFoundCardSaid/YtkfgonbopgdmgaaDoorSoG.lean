/- The library's stable sort at strings: symMerge, and the whole sort. -/
import Derived.Test.YtkfgonbopgdmgaaDoorSoF
namespace Go.Proofs.YtkfgonbopgdmgaaDoor.Px
open Go.RowKit
open St Po

theorem symMerge_any (g n cap : Nat) (L : List (Nat × Obj)) (R : List Rw) (W : World) (hb' : n ≤ 1000000000) : ∀ (N : Nat) (P A B Q : List (List UInt8)) (a m b : Nat) (w : World), A.length + B.length = N → Kp L (rowS g n cap (P ++ A ++ B ++ Q) :: R) W w →
    P.length = a → a + A.length = m → m + B.length = b → 0 < A.length → 0 < B.length → A.Pairwise (fun x y => rk x ≤ rk y) → B.Pairwise (fun x y => rk x ≤ rk y) → (P ++ A ++ B ++ Q).length = n →
    Calls Tryd.prog 90 #[.slice (some ⟨g, 0, none⟩) n cap, .int .i64 (a : Int), .int .i64 (m : Int), .int .i64 (b : Int), cmpV] w (SymPost L R g n cap P A B Q W) := by
  intro N
  induction N using Nat.strongRecOn with
  | _ N ih =>
    intro P A B Q a m b w hN hk ha hm hb hA hB sA sB hn
    by_cases h1 : A.length = 1
    · obtain ⟨x, rfl⟩ := List.length_eq_one_iff.1 h1
      exact symFirst_any P B Q x g n cap a m b L R W w hk ha (by simpa using hm) hb sB hn hb'
    · by_cases h2 : B.length = 1
      · obtain ⟨y, rfl⟩ := List.length_eq_one_iff.1 h2
        exact symLast_any P A Q y g n cap a m b L R W w hk ha hm (by simpa using hb) (by omega) sA hn hb'
      · exact symGen_any P A B Q g n cap a m b L R W w hk ha hm hb (by omega) (by omega) sA sB hn hb' (fun P' A' B' Q' a' m' b' w' hlt hk' ha' hm' hbb hA' hB' sA' sB' hn' => ih (A'.length + B'.length) (by omega) P' A' B' Q' a' m' b' w' rfl hk' ha' hm' hbb hA' hB' sA' sB' hn')
set_option maxHeartbeats 16000000 in
set_option maxRecDepth 100000 in
theorem stable_any (D : List (List UInt8)) (g n cap : Nat) (L : List (Nat × Obj)) (R : List Rw) (W w : World) (h : Kp L (rowS g n cap D :: R) W w) (hn : D.length = n) (hb' : n ≤ 500000000) :
    Calls Tryd.prog 82 #[.slice (some ⟨g, 0, none⟩) n cap, .int .i64 (n : Int), cmpV] w fun e w' => e = .returned (.tuple #[]) ∧ ∃ C, Stb rk D C ∧ Kp L (rowS g n cap C :: R) W w' := by
  have HK := Lib.hid h
  have HN := Lib.hid hn
  have CI := Lib.hid (fun (P E Q : List (List UInt8)) (a b : Nat) (w : World) h ha hb hn => insertion_any P E Q g n cap a b L R W w h ha hb hn (by omega))
  have CM := Lib.hid (fun (P A B Q : List (List UInt8)) (a m b : Nat) (w : World) hk ha hm hb hA hB sA sB hn => symMerge_any g n cap L R W (by omega) (A.length + B.length) P A B Q a m b w rfl hk ha hm hb hA hB sA sB hn)
  unfold cmpV at CI CM ⊢
  unfold SymPost at CM
  clear h hn
  go_enter Tryd.func82, Tryd.ntmps82
  go_wp2_with fail
  go_loopw [7, 8] (fun v7 v8 wr => ∃ (D1 C1 E : List (List UInt8)) (a b : Nat), v7 = .int .i64 (a : Int) ∧ v8 = .int .i64 (b : Int) ∧ b = a + 20 ∧ D = D1 ++ E ∧ D1.length = a ∧ Fu rk 20 D1 C1 ∧ Kp L (rowS g n cap (C1 ++ E) :: R) W wr) (fun v7 _ _ => n - (intOf v7).toNat)
  case atStart => exact ⟨[], [], D, 0, 20, rfl, rfl, rfl, rfl, rfl, Fu.none, HK.out⟩
  case round => as_aux_lemma =>
    obtain ⟨D1, C1, E, a, b, rfl, rfl, hab, hD, hD1, hF, hK⟩ := hrel
    clear HK
    have hlen : D1.length + E.length = n := by have := HN.out; rw [hD, List.length_append] at this; exact this
    have hCl := hF.len
    have HF := Lib.hid hF
    have HKK := Lib.hid hK
    have HD := Lib.hid hD
    have HL := Lib.hid (And.intro hab (And.intro hD1 (And.intro hlen hCl)))
    have hbb : a ≤ n ∧ b ≤ n + 20 := by omega
    obtain ⟨ha1, hb1⟩ := hbb
    clear hF hK hD hab hD1 hlen hCl
    by_cases hbn : b ≤ n
    · have j1 : (b : Int) ≤ (n : Int) := by omega
      have j1' : ¬ (n : Int) < (b : Int) := by omega
      obtain ⟨b2, hb2⟩ : ∃ k, b + 20 = k := ⟨_, rfl⟩
      have w1 : IntKind.i64.wrap ((b : Int) + 20) = (b2 : Int) := by rw [IntWalk.i64_in _ (by omega)]; omega
      have HB := Lib.hid hb2
      clear hb2
      go_wp2_with fail
      refine (CI.out C1 (E.take 20) (E.drop 20) a b _ (by rw [List.append_assoc, List.take_append_drop]; exact HKK.out) (by have := HL.out; omega) (by rw [List.length_take]; have := HL.out; omega) (by rw [List.append_assoc, List.take_append_drop, List.length_append]; have := HL.out; omega)).mono ?_
      rintro e V7 ⟨rfl, C, hs, hk⟩
      have HS := Lib.hid hs
      have HK7 := Lib.hid hk
      clear hs hk
      go_wp2_with fail
      go_roundw
      case rel =>
        have hl := HL.out
        have hb2 := HB.out
        refine ⟨D1 ++ E.take 20, C1 ++ C, E.drop 20, b, b2, rfl, rfl, by omega, by rw [List.append_assoc, List.take_append_drop]; exact HD.out, by rw [List.length_append, List.length_take]; omega, Fu.snoc D1 C1 _ C HF.out (by rw [List.length_take]; omega) HS.out, HK7.out⟩
      case measure => have := HL.out; simp [intOf]; omega
    · have j1 : ¬ (b : Int) ≤ (n : Int) := by omega
      have j1' : (n : Int) < (b : Int) := by omega
      go_wp2_with fail
      refine (CI.out C1 E [] a n _ (by rw [List.append_nil]; exact HKK.out) (by have := HL.out; omega) (by have := HL.out; omega) (by rw [List.append_nil, List.length_append]; have := HL.out; omega)).mono ?_
      rintro e V7 ⟨rfl, C, hs, hk⟩
      have hbl : Bl rk 20 D (C1 ++ C) := by
        rw [HD.out]
        exact HF.out.bl (Bl.last E C (by have := HL.out; omega) hs)
      have HBl := Lib.hid hbl
      have HK7 := Lib.hid (show Kp L (rowS g n cap (C1 ++ C) :: R) W V7 by simpa using hk)
      clear hs hk hbl HKK HF HD HL j1 j1' ha1 hb1 hbn
      go_wp2_with fail
      go_loopw [6, 7, 8, 9] (fun v6 _ _ _ wr => ∃ (s : Nat) (C : List (List UInt8)), v6 = .int .i64 (s : Int) ∧ 0 < s ∧ s ≤ 1000000000 ∧ Bl rk s D C ∧ Kp L (rowS g n cap C :: R) W wr) (fun v6 _ _ _ _ => n - (intOf v6).toNat)
      case atStart => exact ⟨20, C1 ++ C, rfl, by omega, by omega, HBl.out, HK7.out⟩
      case round => as_aux_lemma =>
        obtain ⟨s, C, rfl, hs0, hsb, hB, hK⟩ := hrel
        clear HBl HK7
        have HB := Lib.hid hB
        have HKK := Lib.hid hK
        clear hB hK
        by_cases hsn : s < n
        · have j1 : (s : Int) < (n : Int) := by omega
          obtain ⟨ss, hss⟩ : ∃ k, 2 * s = k := ⟨_, rfl⟩
          have w1 : IntKind.i64.wrap (2 * (s : Int)) = (ss : Int) := by rw [IntWalk.i64_in _ (by omega)]; omega
          have w2 : IntKind.i64.wrap ((s : Int) * 2) = (ss : Int) := by rw [IntWalk.i64_in _ (by omega)]; omega
          have HSS := Lib.hid hss
          have hssb : ss ≤ 1000000000 := by omega
          clear hss
          go_wp2_with fail
          go_loopw [7, 8] (fun v7 v8 wr => ∃ (D1 C1 D2 C2 : List (List UInt8)) (a b : Nat), v7 = .int .i64 (a : Int) ∧ v8 = .int .i64 (b : Int) ∧ b = a + ss ∧ D = D1 ++ D2 ∧ D1.length = a ∧ Fu rk ss D1 C1 ∧ Bl rk s D2 C2 ∧ Kp L (rowS g n cap (C1 ++ C2) :: R) W wr) (fun v7 _ _ => n - (intOf v7).toNat)
          case atStart => exact ⟨[], [], D, C, 0, ss, rfl, rfl, by omega, rfl, rfl, Fu.none, HB.out, HKK.out⟩
          case round => as_aux_lemma =>
            obtain ⟨D1, C1, D2, C2, a, b, rfl, rfl, hab, hD, hD1, hF, hB2, hK⟩ := hrel
            clear HB HKK
            have hlen : D1.length + D2.length = n := by have := HN.out; rw [hD, List.length_append] at this; exact this
            have hCl := hF.len
            have hCl2 := hB2.len
            have HF := Lib.hid hF
            have HB2 := Lib.hid hB2
            have HKK := Lib.hid hK
            have HD := Lib.hid hD
            have HL := Lib.hid (And.intro hab (And.intro hD1 (And.intro hlen (And.intro hCl hCl2))))
            have hbb : a ≤ n ∧ b ≤ n + 1000000000 := by omega
            obtain ⟨ha1, hb1⟩ := hbb
            obtain ⟨am, ham⟩ : ∃ k, a + s = k := ⟨_, rfl⟩
            have w3 : IntKind.i64.wrap ((a : Int) + (s : Int)) = (am : Int) := by rw [IntWalk.i64_in _ (by omega)]; omega
            have HAm := Lib.hid ham
            clear hF hB2 hK hD hab hD1 hlen hCl hCl2 ham
            by_cases hbn : b ≤ n
            · have j2 : (b : Int) ≤ (n : Int) := by omega
              have j2' : ¬ (n : Int) < (b : Int) := by omega
              obtain ⟨b2, hb2⟩ : ∃ k, b + ss = k := ⟨_, rfl⟩
              have w4 : IntKind.i64.wrap ((b : Int) + (ss : Int)) = (b2 : Int) := by rw [IntWalk.i64_in _ (by omega)]; omega
              have HBb := Lib.hid hb2
              obtain ⟨X1, Y1, X2, Y2, X3, Y3, rfl, rfl, hX1, hX2, hs1, hs2, hB3⟩ := HB2.out.two hs0 (by have := HL.out; have := HSS.out; omega)
              have l1 := hs1.len
              have l2 := hs2.len
              have HX := Lib.hid (And.intro hX1 (And.intro hX2 (And.intro l1 l2)))
              have HS1 := Lib.hid hs1
              have HS2 := Lib.hid hs2
              have HB3 := Lib.hid hB3
              have HZ := Lib.hid hs0
              clear hb2 hX1 hX2 l1 l2 hs1 hs2 hB3
              go_wp2_with fail
              refine (CM.out C1 Y1 Y2 Y3 a am b _ (by have := HKK.out; simpa using this) (by have := HL.out; omega) (by have := HX.out; have := HAm.out; omega) (by have := HX.out; have := HAm.out; have := HL.out; have := HSS.out; omega) (by have := HX.out; have := HZ.out; omega) (by have := HX.out; have := HZ.out; omega) HS1.out.sorted HS2.out.sorted (by have h1 := HL.out; simp only [List.length_append] at h1 ⊢; omega)).mono ?_
              rintro e V7 ⟨rfl, C, hs, hk⟩
              have HS := Lib.hid hs
              have HK7 := Lib.hid hk
              clear hs hk
              go_wp2_with fail
              go_roundw
              case rel =>
                have hl := HL.out
                have hx := HX.out
                have hb2 := HBb.out
                have hss := HSS.out
                refine ⟨D1 ++ (X1 ++ X2), C1 ++ C, X3, Y3, b, b2, rfl, rfl, by omega, by rw [HD.out]; simp, by simp only [List.length_append]; omega, Fu.snoc D1 C1 _ C HF.out (by rw [List.length_append]; omega) (HS1.out.app HS2.out HS.out), HB3.out, by have := HK7.out; simpa using this⟩
              case measure => have := HL.out; have := HSS.out; have := HZ.out; simp [intOf]; omega
            · have j2 : ¬ (b : Int) ≤ (n : Int) := by omega
              have j2' : (n : Int) < (b : Int) := by omega
              have HZ := Lib.hid hs0
              by_cases hmn : am < n
              · have j3 : (am : Int) < (n : Int) := by omega
                obtain ⟨X1, Y1, X2, Y2, rfl, rfl, hX1, hs1, hs2⟩ := HB2.out.rest (by have := HL.out; have := HAm.out; omega) (by have := HL.out; have := HSS.out; omega)
                have l1 := hs1.len
                have l2 := hs2.len
                have HX := Lib.hid (And.intro hX1 (And.intro l1 l2))
                have HS1 := Lib.hid hs1
                have HS2 := Lib.hid hs2
                clear hX1 l1 l2 hs1 hs2
                go_wp2_with fail
                refine (CM.out C1 Y1 Y2 [] a am n _ (by have := HKK.out; simpa using this) (by have := HL.out; omega) (by have := HX.out; have := HAm.out; omega) (by have h1 := HL.out; have h2 := HX.out; have := HAm.out; simp only [List.length_append] at h1; omega) (by have := HX.out; have := HZ.out; omega) (by have h1 := HL.out; have h2 := HX.out; have := HAm.out; simp only [List.length_append] at h1; omega) HS1.out.sorted HS2.out.sorted (by have h1 := HL.out; simp only [List.length_append, List.length_nil] at h1 ⊢; omega)).mono ?_
                rintro e V7 ⟨rfl, C, hs, hk⟩
                have HS := Lib.hid hs
                have HK7 := Lib.hid hk
                clear hs hk
                go_wp2_with fail
                go_roundw
                case rel =>
                  have hl := HL.out
                  have hss := HSS.out
                  have hz := HZ.out
                  refine ⟨ss, C1 ++ C, rfl, by omega, hssb, by rw [HD.out]; exact HF.out.bl (Bl.last _ C (by simp only [List.length_append] at hl ⊢; omega) (HS1.out.app HS2.out HS.out)), by have := HK7.out; simpa using this⟩
                case measure => have := HSS.out; have := HZ.out; simp [intOf]; omega
              · have j3 : ¬ (am : Int) < (n : Int) := by omega
                go_wp2_with fail
                go_roundw
                case rel =>
                  have hl := HL.out
                  have hss := HSS.out
                  have hz := HZ.out
                  have ham := HAm.out
                  exact ⟨ss, C1 ++ C2, rfl, by omega, hssb, by rw [HD.out]; exact HF.out.bl (Bl.last _ C2 (by omega) (HB2.out.one (by omega))), HKK.out⟩
                case measure => have := HSS.out; have := HZ.out; simp [intOf]; omega
        · have j1 : ¬ (s : Int) < (n : Int) := by omega
          go_wp2
          go_end0
          exact ⟨rfl, C, HB.out.one (by have := HN.out; omega), HKK.out⟩
end Go.Proofs.YtkfgonbopgdmgaaDoor.Px
