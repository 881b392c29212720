/- The function analemmaref37.Check: which TZs are right. -/
import Derived.Test.YtgllbagmmpicaaaGreatDoorPxK
namespace Go.Proofs.YtgllbagmmpicaaaGreatDoor.Px
open Go.RowKit
open Civ

theorem name_empty : nameOk [] = false := by kernel_rfl
set_option maxHeartbeats 4000000 in
set_option maxRecDepth 100000 in
theorem ref_check_cells (a c : ByteArray) (b d k1 d1 m1 w1 s1 k2 d2 m2 w2 s2 : Int) (ha : a.size ≤ 1000000) (hc : c.size ≤ 1000000) (r : Bool)
    (hr : (nameOk a.data.toList && offB b && (noneQ c d k1 d1 m1 w1 s1 k2 d2 m2 w2 s2 || (nameOk c.data.toList && offB d && Dt.ok ⟨k1, d1, m1, w1, s1⟩ && Dt.ok ⟨k2, d2, m2, w2, s2⟩))) = r) (w : World) :
    Calls Tryz.prog 16 #[.agg #[.string a, .int .i64 b, .string c, .int .i64 d, .int .i64 k1, .int .i64 d1, .int .i64 m1, .int .i64 w1, .int .i64 s1, .int .i64 k2, .int .i64 d2, .int .i64 m2, .int .i64 w2, .int .i64 s2]] w fun e w' => e = .returned (.int .i64 (codeE r)) ∧ Below w.heap.size w w' := by
  have CN := Lib.hid (ref_name a ha)
  have CM := Lib.hid (ref_name c hc)
  have CO := Lib.hid (roff b (offB b) rfl)
  have CP := Lib.hid (roff d (offB d) rfl)
  have CD := Lib.hid (ref_date_any ⟨k1, d1, m1, w1, s1⟩)
  have CE := Lib.hid (ref_date_any ⟨k2, d2, m2, w2, s2⟩)
  have HNQ := Lib.hid (show noneQ c d k1 d1 m1 w1 s1 k2 d2 m2 w2 s2 = (c.toList.isEmpty && decide (d = 0) && decide (k1 = 0) && decide (d1 = 0) && decide (m1 = 0) && decide (w1 = 0) && decide (s1 = 0) && decide (k2 = 0) && decide (d2 = 0) && decide (m2 = 0) && decide (w2 = 0) && decide (s2 = 0)) from rfl)
  have HC0 := Lib.hid (fun h : c.toList.isEmpty = true => show nameOk c.data.toList = false by rw [ByteArray.toList_eq, List.isEmpty_iff] at h; rw [h]; exact name_empty)
  unfold NamePost at CN CM
  obtain ⟨b1, h1⟩ : ∃ x, nameOk a.data.toList = x := ⟨_, rfl⟩
  obtain ⟨b2, h2⟩ : ∃ x, offB b = x := ⟨_, rfl⟩
  obtain ⟨b3, h3⟩ : ∃ x, noneQ c d k1 d1 m1 w1 s1 k2 d2 m2 w2 s2 = x := ⟨_, rfl⟩
  obtain ⟨b4, h4⟩ : ∃ x, nameOk c.data.toList = x := ⟨_, rfl⟩
  obtain ⟨b5, h5⟩ : ∃ x, offB d = x := ⟨_, rfl⟩
  obtain ⟨b6, h6⟩ : ∃ x, Dt.ok ⟨k1, d1, m1, w1, s1⟩ = x := ⟨_, rfl⟩
  obtain ⟨b7, h7⟩ : ∃ x, Dt.ok ⟨k2, d2, m2, w2, s2⟩ = x := ⟨_, rfl⟩
  rw [h1] at CN hr
  rw [h2] at CO hr
  rw [h3] at HNQ hr
  rw [h4] at CM hr HC0
  rw [h5] at CP hr
  rw [h6] at CD hr
  rw [h7] at CE hr
  subst hr
  clear h1 h2 h3 h4 h5 h6 h7
  have HA := Lib.hid ((Below.refl _ w).alloc (Nat.le_refl _) (.cells #[.string a, .int .i64 b, .string c, .int .i64 d, .int .i64 k1, .int .i64 d1, .int .i64 m1, .int .i64 w1, .int .i64 s1, .int .i64 k2, .int .i64 d2, .int .i64 m2, .int .i64 w2, .int .i64 s2] 25))
  have HR := Lib.hid (rowAt_alloc w #[.string a, .int .i64 b, .string c, .int .i64 d, .int .i64 k1, .int .i64 d1, .int .i64 m1, .int .i64 w1, .int .i64 s1, .int .i64 k2, .int .i64 d2, .int .i64 m2, .int .i64 w2, .int .i64 s2] 25)
  go_enter Tryz.func16, Tryz.ntmps16
  go_wp2_with fail
  refine (CN.out _).mono ?_
  rintro e w' ⟨q1, rfl, _, rfl⟩
  go_wp2_with fail
  refine (CM.out _).mono ?_
  rintro e w' ⟨q2, rfl, _, rfl⟩
  cases b1
  · go_wp2_with fail
    go_ret
    exact ⟨rfl, HA.out⟩
  · go_wp2_with fail
    refine (CO.out _).mono ?_
    rintro e w' ⟨rfl, rfl⟩
    cases b2
    · go_wp2_with fail
      go_ret
      exact ⟨rfl, HA.out⟩
    · by_cases he : c.toList.isEmpty = true
      · have hb4 := HC0.out he
        subst hb4
        have HE := Lib.hid he
        go_upto_region 7 with fail
        go_cut [0, 46] (fun _ s wx => s = .bool (!b3) ∧ Below w.heap.size w wx)
        case first =>
          go_wp2_with fail
          all_goals (go_meet; refine ⟨congrArg Value.bool ?_, ((Below.refl _ _).alloc (Nat.le_refl _) _).alloc (by simp) _⟩; rw [HNQ.out, HE.out]; simp [*])
        case rest =>
          obtain ⟨rfl, hb⟩ := hcut
          have HB := Lib.hid hb
          clear hb he
          cases b3
          · go_wp2_with fail
            go_ret
            exact ⟨rfl, HB.out⟩
          · go_wp2_with fail
            go_ret
            exact ⟨rfl, HB.out⟩
      · have he' : c.toList.isEmpty = false := by simpa using he
        have hb3 : b3 = false := by rw [HNQ.out, he']; rfl
        subst hb3
        clear HNQ he HC0
        have hv : ∀ V, Below ((w.alloc (.cells #[.string a, .int .i64 b, .string c, .int .i64 d, .int .i64 k1, .int .i64 d1, .int .i64 m1, .int .i64 w1, .int .i64 s1, .int .i64 k2, .int .i64 d2, .int .i64 m2, .int .i64 w2, .int .i64 s2] 25)).alloc (.cells #[.int .i64 0, .int .i64 0, .int .i64 0, .int .i64 0, .int .i64 0] 23)).heap.size ((w.alloc (.cells #[.string a, .int .i64 b, .string c, .int .i64 d, .int .i64 k1, .int .i64 d1, .int .i64 m1, .int .i64 w1, .int .i64 s1, .int .i64 k2, .int .i64 d2, .int .i64 m2, .int .i64 w2, .int .i64 s2] 25)).alloc (.cells #[.int .i64 0, .int .i64 0, .int .i64 0, .int .i64 0, .int .i64 0] 23)) V → Below w.heap.size w V ∧ RowAt V w.heap.size #[.string a, .int .i64 b, .string c, .int .i64 d, .int .i64 k1, .int .i64 d1, .int .i64 m1, .int .i64 w1, .int .i64 s1, .int .i64 k2, .int .i64 d2, .int .i64 m2, .int .i64 w2, .int .i64 s2] :=
          fun V hb => ⟨(HA.out.alloc (by simp) _).trans (hb.mono (by simp; omega)), (HR.out.keep ((Below.refl _ _).alloc (Nat.le_refl _) _)).keep hb⟩
        have HV := Lib.hid hv
        clear hv
        have HB0 := Lib.hid (HA.out.alloc (by simp) (.cells #[.int .i64 0, .int .i64 0, .int .i64 0, .int .i64 0, .int .i64 0] 23))
        cases b4
        · go_wp2_with fail
          go_ret
          exact ⟨rfl, HB0.out⟩
        · go_wp2_with fail
          refine (CP.out _).mono ?_
          rintro e w' ⟨rfl, rfl⟩
          cases b5
          · go_wp2_with fail
            go_ret
            exact ⟨rfl, HB0.out⟩
          · go_wp2_with fail
            refine (CD.out _).mono ?_
            rintro e V ⟨rfl, hb⟩
            obtain ⟨hb1, hb2⟩ := HV.out V hb
            have HB1 := Lib.hid hb1
            have HB2 := Lib.hid hb2
            obtain ⟨c0, c1, c2, c3, c4, c5, c6, c7, c8, c9, c10, c11, c12, c13⟩ := hb2.pos
            clear hb hb1 hb2
            cases b6
            · go_wp2_with fail
              go_ret
              exact ⟨rfl, HB1.out⟩
            · go_wp2_with fail
              refine (CE.out _).mono ?_
              rintro e X ⟨rfl, hb⟩
              have HX := Lib.hid (HB1.out.trans (hb.mono HB1.out.size))
              clear hb
              cases b7
              · go_wp2_with fail
                go_ret
                exact ⟨rfl, HX.out⟩
              · go_wp2_with fail
                go_ret
                exact ⟨rfl, HX.out⟩
theorem ref_check (p : Pos) (ha : p.std.size ≤ 1000000) (hc : p.dst.size ≤ 1000000) (w : World) :
    Calls Tryz.prog 16 #[p.val] w fun e w' => e = .returned (.int .i64 (codeE p.ok)) ∧ Below w.heap.size w w' := by
  obtain ⟨a, b, c, d, ⟨k1, d1, m1, w1, s1⟩, ⟨k2, d2, m2, w2, s2⟩⟩ := p
  exact ref_check_cells a c b d k1 d1 m1 w1 s1 k2 d2 m2 w2 s2 ha hc _ rfl w
end Go.Proofs.YtgllbagmmpicaaaGreatDoor.Px
