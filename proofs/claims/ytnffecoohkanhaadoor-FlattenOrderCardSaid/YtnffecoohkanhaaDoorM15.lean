/- The drafts of rule sets (chapter 17): two rules for the same years. The drafts of rule sets (chapter 17): the rules of a set. -/
import Derived.Test.YtnffecoohkanhaaDoorM14
import Derived.Deep.DeepCutAuto
namespace Go.Proofs.YtnffecoohkanhaaDoor.Px
open Go.RowKit
open Lk

/-- a block of its own behind a frame -/
theorem kp_new {L : List (Nat × Obj)} {W X Y : World} (h : Kp L [] W X) (hB : Below X.heap.size X Y) {b : Nat} {cs : Array Value} {T : TypeId} (hN : X.heap.size ≤ b) (hb : Y.heap[b]? = some (.cells cs T (0, 0))) : Kp ((b, .cells cs T (0, 0)) :: L) [] W Y := by
  have k := h.keep hB
  have hw := h.below.size
  refine ⟨⟨k.below, fun j b' o hj => ?_, fun p hp => ?_, List.pairwise_cons.2 ⟨fun p hp => ?_, k.known.desc⟩⟩, (fun r hr => by cases hr), (fun r hr => by cases hr), List.Pairwise.nil⟩
  · cases j with
    | zero =>
      simp only [List.getElem?_cons_zero, Option.some.injEq, Prod.mk.injEq] at hj
      obtain ⟨rfl, rfl⟩ := hj
      exact hb
    | succ j => exact k.at j (by simpa using hj)
  · rcases List.mem_cons.1 hp with rfl | hp
    · show W.heap.size ≤ b
      omega
    · exact k.known.own p hp
  · obtain ⟨j, hj⟩ := List.getElem?_of_mem hp
    have := h.lt j (b := p.1) (o := p.2) hj
    show p.1 ≠ b
    omega
/-- eleven cells written one behind the other -/
theorem kp_rule {L : List (Nat × Obj)} {W X : World} {b : Nat} {T : TypeId} {a0 a1 a2 a3 a4 a5 a6 a7 a8 a9 a10 : Value} (u0 u1 u2 u3 u4 u5 u6 u7 u8 u9 u10 : Value) (h : Kp ((b, .cells #[a0, a1, a2, a3, a4, a5, a6, a7, a8, a9, a10] T (0, 0)) :: L) [] W X) : Kp ((b, .cells #[u0, u1, u2, u3, u4, u5, u6, u7, u8, u9, u10] T (0, 0)) :: L) [] W (((((((((((X.setCell ⟨b, 0, none⟩ u0).setCell ⟨b, 1, none⟩ u1).setCell ⟨b, 2, none⟩ u2).setCell ⟨b, 3, none⟩ u3).setCell ⟨b, 4, none⟩ u4).setCell ⟨b, 5, none⟩ u5).setCell ⟨b, 6, none⟩ u6).setCell ⟨b, 7, none⟩ u7).setCell ⟨b, 8, none⟩ u8).setCell ⟨b, 9, none⟩ u9).setCell ⟨b, 10, none⟩ u10) := by
  have k0 : Kp ((b, .cells #[u0, a1, a2, a3, a4, a5, a6, a7, a8, a9, a10] T (0, 0)) :: L) [] W _ := h.set 0 rfl 0 u0 rfl
  have k1 : Kp ((b, .cells #[u0, u1, a2, a3, a4, a5, a6, a7, a8, a9, a10] T (0, 0)) :: L) [] W _ := k0.set 0 rfl 1 u1 rfl
  have k2 : Kp ((b, .cells #[u0, u1, u2, a3, a4, a5, a6, a7, a8, a9, a10] T (0, 0)) :: L) [] W _ := k1.set 0 rfl 2 u2 rfl
  have k3 : Kp ((b, .cells #[u0, u1, u2, u3, a4, a5, a6, a7, a8, a9, a10] T (0, 0)) :: L) [] W _ := k2.set 0 rfl 3 u3 rfl
  have k4 : Kp ((b, .cells #[u0, u1, u2, u3, u4, a5, a6, a7, a8, a9, a10] T (0, 0)) :: L) [] W _ := k3.set 0 rfl 4 u4 rfl
  have k5 : Kp ((b, .cells #[u0, u1, u2, u3, u4, u5, a6, a7, a8, a9, a10] T (0, 0)) :: L) [] W _ := k4.set 0 rfl 5 u5 rfl
  have k6 : Kp ((b, .cells #[u0, u1, u2, u3, u4, u5, u6, a7, a8, a9, a10] T (0, 0)) :: L) [] W _ := k5.set 0 rfl 6 u6 rfl
  have k7 : Kp ((b, .cells #[u0, u1, u2, u3, u4, u5, u6, u7, a8, a9, a10] T (0, 0)) :: L) [] W _ := k6.set 0 rfl 7 u7 rfl
  have k8 : Kp ((b, .cells #[u0, u1, u2, u3, u4, u5, u6, u7, u8, a9, a10] T (0, 0)) :: L) [] W _ := k7.set 0 rfl 8 u8 rfl
  have k9 : Kp ((b, .cells #[u0, u1, u2, u3, u4, u5, u6, u7, u8, u9, a10] T (0, 0)) :: L) [] W _ := k8.set 0 rfl 9 u9 rfl
  have k10 : Kp ((b, .cells #[u0, u1, u2, u3, u4, u5, u6, u7, u8, u9, u10] T (0, 0)) :: L) [] W _ := k9.set 0 rfl 10 u10 rfl
  exact k10
set_option maxHeartbeats 4000000 in
set_option maxRecDepth 100000 in
theorem pair17_any (L : List Nat) (dv : Value) (i fr tt sv : Int) (W : World) (h : D17 W dv L) (hx0 : 0 ≤ i) (hx1 : i ≤ 800) :
    Calls Tryd.prog 64 #[dv, .int .i64 i, .int .i64 fr, .int .i64 tt, .int .i64 sv] W fun e w' => (∃ (v : Value) (x y : RuQ), e = .returned v ∧ SlV w' v 11 2 ([x, y].flatMap ruqC)) ∧ Below W.heap.size W w' := by
  have hent : ∀ args w, (callFunc 76 args).run Tryd.prog w = .ok (.enter 76 args) w := enters_of Tryd.func76 (by kernel_rfl) rfl
  have CA := Lib.hid (fun (y m : Int) (Y : World) (hB : Below W.heap.size W Y) (h0 : 0 ≤ y) (h1 : y ≤ 1000) (h2 : 0 < m) (h3 : m ≤ 1000) => at17_any L dv y m Y (h.keep hB) h0 h1 h2 h3)
  have CC := Lib.hid (fun (y : Int) (Y : World) (hB : Below W.heap.size W Y) (h0 : 0 ≤ y) (h1 : y ≤ 900) => clock17_any L dv y Y (h.keep hB) h0 h1)
  have CD := Lib.hid (fun (y : Int) (Y : World) (hB : Below W.heap.size W Y) (hc : Y.cell? ⟨W.heap.size, 0, none⟩ = some dv) (h0 : 0 ≤ y) (h1 : y ≤ 900) => pairDay_any L dv y W.heap.size Y (h.keep hB) hc h0 h1)
  obtain ⟨da, dn, dc, rfl⟩ : ∃ a n c, dv = .slice a n c := by obtain ⟨a, c, e, _, _⟩ := h.sl.slA; exact ⟨_, _, _, e⟩
  have K0 := Lib.hid ((Kp.start W).allocAt W.heap.size rfl (.cells #[.slice da dn dc] 90))
  obtain ⟨i1, hi1⟩ : ∃ y, i + 1 = y := ⟨_, rfl⟩
  have hiw1 : IntKind.i64.wrap i1 = i1 := IntWalk.i64_in _ (by omega)
  obtain ⟨i2, hi2⟩ : ∃ y, i + 2 = y := ⟨_, rfl⟩
  have hiw2 : IntKind.i64.wrap i2 = i2 := IntWalk.i64_in _ (by omega)
  obtain ⟨i3, hi3⟩ : ∃ y, i + 3 = y := ⟨_, rfl⟩
  have hiw3 : IntKind.i64.wrap i3 = i3 := IntWalk.i64_in _ (by omega)
  obtain ⟨i6, hi6⟩ : ∃ y, i + 6 = y := ⟨_, rfl⟩
  have hiw6 : IntKind.i64.wrap i6 = i6 := IntWalk.i64_in _ (by omega)
  obtain ⟨i8, hi8⟩ : ∃ y, i + 8 = y := ⟨_, rfl⟩
  have hiw8 : IntKind.i64.wrap i8 = i8 := IntWalk.i64_in _ (by omega)
  obtain ⟨i9, hi9⟩ : ∃ y, i + 9 = y := ⟨_, rfl⟩
  have hiw9 : IntKind.i64.wrap i9 = i9 := IntWalk.i64_in _ (by omega)
  obtain ⟨i12, hi12⟩ : ∃ y, i + 12 = y := ⟨_, rfl⟩
  have hiw12 : IntKind.i64.wrap i12 = i12 := IntWalk.i64_in _ (by omega)
  obtain ⟨i14, hi14⟩ : ∃ y, i + 14 = y := ⟨_, rfl⟩
  have hiw14 : IntKind.i64.wrap i14 = i14 := IntWalk.i64_in _ (by omega)
  clear h
  go_enter Tryd.func64, Tryd.ntmps64
  go_upto_region 2 with fail
  obtain ⟨X, hX⟩ : ∃ X, W.alloc (.cells #[.slice da dn dc] 90) = X := ⟨_, rfl⟩
  rw [hX] at K0
  rw [hX]
  clear hX
  obtain ⟨p0, hp0⟩ : ∃ p, W.heap.size = p := ⟨_, rfl⟩
  rw [hp0] at K0 CD
  have HP := Lib.hid hp0
  simp only [hp0]
  have HB1 := Lib.hid K0.out.below
  have HS1 := Lib.hid HB1.out.size
  rw [hp0] at HB1 HS1 CA CC
  clear hp0
  have KC := Lib.hid (fun (Y : World) (hB : Below X.heap.size X Y) => cells_at ((K0.out.keep hB).at 0 rfl) 0)
  refine Py.wp_region_steps_tail 24 (by kernel_rfl) (by kernel_rfl) (by kernel_rfl) (krS X.heap.size [.eq (.int .i64 fr), .eq (.int .i64 tt), .eq (.slice da dn dc), .eq (.int .i64 i), .rng 3, .rng 5, .eq (.func (.func 76) #[] #[.pointer (some ⟨p0, 0, none⟩)]), .eq (.int .i64 i), .eq (.int .i64 i3), .day, .eq (.slice da dn dc), .eq (.int .i64 i), .eq (.int .i64 i6), .clk, .eq (.int .i64 sv), .strs [⟨#[83]⟩, ⟨#[68]⟩, ⟨#[68, 84]⟩], .eq (.slice da dn dc), .eq (.int .i64 i), .eq (.int .i64 i8), .rng 3, .sptr, .str, .rule] 15 12) (by kernel_rfl) (fun d w w' v h hB => krS_keep h hB) ?steps ?hend
  case steps =>
      refine Py.steps_cons 15 rfl ?_ ?_
      · intro T D' w hB0 hold hdep K hK0
        have hK := Lib.hid hK0
        have h2 : T[2]?.getD undef = .int .i64 fr := hold 2 rfl
        clear hold hdep hK0
        go_simp
        exact hK.out _ _ (Below.refl _ _) rfl
      refine Py.steps_cons 16 rfl ?_ ?_
      · intro T D' w hB0 hold hdep K hK0
        have hK := Lib.hid hK0
        have h3 : T[3]?.getD undef = .int .i64 tt := hold 3 rfl
        clear hold hdep hK0
        go_simp
        exact hK.out _ _ (Below.refl _ _) rfl
      refine Py.steps_cons 17 rfl ?_ ?_
      · intro T D' w hB0 hold hdep K hK0
        have hK := Lib.hid hK0
        have h5 : T[5]?.getD undef = .pointer (some ⟨p0, 0, none⟩) := hold 5 rfl
        clear hold hdep hK0
        have c0 := KC.out _ hB0
        go_simp
        exact hK.out _ _ (Below.refl _ _) rfl
      refine Py.steps_cons 18 rfl ?_ ?_
      · intro T D' w hB0 hold hdep K hK0
        have hK := Lib.hid hK0
        have h1 : T[1]?.getD undef = .int .i64 i := hold 1 rfl
        clear hold hdep hK0
        go_simp
        exact hK.out _ _ (Below.refl _ _) rfl
      refine Py.steps_cons 19 rfl ?_ ?_
      · intro T D' w hB0 hold hdep K hK0
        have hK := Lib.hid hK0
        have q17 : T[17]?.getD undef = .slice da dn dc := Py.dep hdep 2 (by kernel_rfl) rfl rfl
        have q18 : T[18]?.getD undef = .int .i64 i := Py.dep hdep 3 (by kernel_rfl) rfl rfl
        clear hold hdep hK0
        go_simp
        refine (CA.out i 3 w (HB1.out.trans (hB0.mono HS1.out)) (by omega) (by omega) (by omega) (by omega)).mono ?_
        rintro _ V ⟨⟨r, r0, r1, rfl⟩, rfl⟩
        exact hK.out _ _ (Below.refl _ _) ⟨r, r0, r1, rfl⟩
      refine Py.steps_cons 20 rfl ?_ ?_
      · intro T D' w hB0 hold hdep K hK0
        have hK := Lib.hid hK0
        have q19 : Kr.S (.rng 3) w (T[19]?.getD undef) := Py.dep hdep 4 (by kernel_rfl) rfl rfl
        clear hold hdep hK0
        obtain ⟨r, r0, r1, e19⟩ := q19
        have hw := IntWalk.i64_in (2 + r) (by omega)
        go_simp
        exact hK.out _ _ (Below.refl _ _) ⟨_, by omega, by omega, rfl⟩
      refine Py.steps_cons 21 rfl ?_ ?_
      · intro T D' w hB0 hold hdep K hK0
        have hK := Lib.hid hK0
        have h11 : T[11]?.getD undef = .func (.func 76) #[] #[.pointer (some ⟨p0, 0, none⟩)] := hold 11 rfl
        clear hold hdep hK0
        go_simp
        exact hK.out _ _ (Below.refl _ _) rfl
      refine Py.steps_cons 22 rfl ?_ ?_
      · intro T D' w hB0 hold hdep K hK0
        have hK := Lib.hid hK0
        have h1 : T[1]?.getD undef = .int .i64 i := hold 1 rfl
        clear hold hdep hK0
        go_simp
        exact hK.out _ _ (Below.refl _ _) rfl
      refine Py.steps_cons 23 rfl ?_ ?_
      · intro T D' w hB0 hold hdep K hK0
        have hK := Lib.hid hK0
        have q22 : T[22]?.getD undef = .int .i64 i := Py.dep hdep 7 (by kernel_rfl) rfl rfl
        clear hold hdep hK0
        go_simp
        exact hK.out _ _ (Below.refl _ _) rfl
      refine Py.steps_cons 24 rfl ?_ ?_
      · intro T D' w hB0 hold hdep K hK0
        have hK := Lib.hid hK0
        have q21 : T[21]?.getD undef = .func (.func 76) #[] #[.pointer (some ⟨p0, 0, none⟩)] := Py.dep hdep 6 (by kernel_rfl) rfl rfl
        have q23 : T[23]?.getD undef = .int .i64 i3 := Py.dep hdep 8 (by kernel_rfl) rfl rfl
        clear hold hdep hK0
        go_simp
        try go_at_call 76
        refine (CD.out i3 w (HB1.out.trans (hB0.mono HS1.out)) (KC.out _ hB0) (by omega) (by omega)).mono ?_
        rintro _ V ⟨⟨p, q, r, rfl⟩, hb⟩
        exact hK.out _ _ hb ⟨p, q, r, rfl⟩
      refine Py.steps_cons 25 rfl ?_ ?_
      · intro T D' w hB0 hold hdep K hK0
        have hK := Lib.hid hK0
        have h5 : T[5]?.getD undef = .pointer (some ⟨p0, 0, none⟩) := hold 5 rfl
        clear hold hdep hK0
        have c0 := KC.out _ hB0
        go_simp
        exact hK.out _ _ (Below.refl _ _) rfl
      refine Py.steps_cons 26 rfl ?_ ?_
      · intro T D' w hB0 hold hdep K hK0
        have hK := Lib.hid hK0
        have h1 : T[1]?.getD undef = .int .i64 i := hold 1 rfl
        clear hold hdep hK0
        go_simp
        exact hK.out _ _ (Below.refl _ _) rfl
      refine Py.steps_cons 27 rfl ?_ ?_
      · intro T D' w hB0 hold hdep K hK0
        have hK := Lib.hid hK0
        have q26 : T[26]?.getD undef = .int .i64 i := Py.dep hdep 11 (by kernel_rfl) rfl rfl
        clear hold hdep hK0
        go_simp
        exact hK.out _ _ (Below.refl _ _) rfl
      refine Py.steps_cons 28 rfl ?_ ?_
      · intro T D' w hB0 hold hdep K hK0
        have hK := Lib.hid hK0
        have q25 : T[25]?.getD undef = .slice da dn dc := Py.dep hdep 10 (by kernel_rfl) rfl rfl
        have q27 : T[27]?.getD undef = .int .i64 i6 := Py.dep hdep 12 (by kernel_rfl) rfl rfl
        clear hold hdep hK0
        go_simp
        refine (CC.out i6 w (HB1.out.trans (hB0.mono HS1.out)) (by omega) (by omega)).mono ?_
        rintro _ V ⟨⟨p, q, rfl⟩, hb⟩
        exact hK.out _ _ hb ⟨p, q, rfl⟩
      refine Py.steps_cons 29 rfl ?_ ?_
      · intro T D' w hB0 hold hdep K hK0
        have hK := Lib.hid hK0
        have h4 : T[4]?.getD undef = .int .i64 sv := hold 4 rfl
        clear hold hdep hK0
        go_simp
        exact hK.out _ _ (Below.refl _ _) rfl
      refine Py.steps_cons 30 rfl ?_ ?_
      · intro T D' w hB0 hold hdep K hK0
        have hK := Lib.hid hK0
        clear hold hdep hK0
        go_simp
        exact hK.out _ _ ((Below.refl _ w).alloc (Nat.le_refl _) _) ⟨_, rfl, ((Kp.start w).alloc _).at 0 rfl⟩
      refine Py.steps_cons 31 rfl ?_ ?_
      · intro T D' w hB0 hold hdep K hK0
        have hK := Lib.hid hK0
        have h5 : T[5]?.getD undef = .pointer (some ⟨p0, 0, none⟩) := hold 5 rfl
        clear hold hdep hK0
        have c0 := KC.out _ hB0
        go_simp
        exact hK.out _ _ (Below.refl _ _) rfl
      refine Py.steps_cons 32 rfl ?_ ?_
      · intro T D' w hB0 hold hdep K hK0
        have hK := Lib.hid hK0
        have h1 : T[1]?.getD undef = .int .i64 i := hold 1 rfl
        clear hold hdep hK0
        go_simp
        exact hK.out _ _ (Below.refl _ _) rfl
      refine Py.steps_cons 33 rfl ?_ ?_
      · intro T D' w hB0 hold hdep K hK0
        have hK := Lib.hid hK0
        have q32 : T[32]?.getD undef = .int .i64 i := Py.dep hdep 17 (by kernel_rfl) rfl rfl
        clear hold hdep hK0
        go_simp
        exact hK.out _ _ (Below.refl _ _) rfl
      refine Py.steps_cons 34 rfl ?_ ?_
      · intro T D' w hB0 hold hdep K hK0
        have hK := Lib.hid hK0
        have q31 : T[31]?.getD undef = .slice da dn dc := Py.dep hdep 16 (by kernel_rfl) rfl rfl
        have q33 : T[33]?.getD undef = .int .i64 i8 := Py.dep hdep 18 (by kernel_rfl) rfl rfl
        clear hold hdep hK0
        go_simp
        refine (CA.out i8 3 w (HB1.out.trans (hB0.mono HS1.out)) (by omega) (by omega) (by omega) (by omega)).mono ?_
        rintro _ V ⟨⟨r, r0, r1, rfl⟩, rfl⟩
        exact hK.out _ _ (Below.refl _ _) ⟨r, r0, r1, rfl⟩
      refine Py.steps_cons 35 rfl ?_ ?_
      · intro T D' w hB0 hold hdep K hK0
        have hK := Lib.hid hK0
        have q30 : Kr.S (.strs [⟨#[83]⟩, ⟨#[68]⟩, ⟨#[68, 84]⟩]) w (T[30]?.getD undef) := Py.dep hdep 15 (by kernel_rfl) rfl rfl
        have q34 : Kr.S (.rng 3) w (T[34]?.getD undef) := Py.dep hdep 19 (by kernel_rfl) rfl rfl
        clear hold hdep hK0
        obtain ⟨bd, e30, hb⟩ := q30
        replace e30 : T[30]?.getD undef = .slice (some ⟨bd, 0, none⟩) 3 3 := e30
        obtain ⟨r, r0, r1, e34⟩ := q34
        have hlt := lt_of_block hb
        have HC := fun i => cells_at hb i
        have r3 : r = 0 ∨ r = 1 ∨ r = 2 := by omega
        rcases r3 with rfl | rfl | rfl
        · go_simp; exact hK.out _ _ (Below.refl _ _) ⟨bd, 0, _, rfl, hlt, HC 0⟩
        · go_simp; exact hK.out _ _ (Below.refl _ _) ⟨bd, 1, _, rfl, hlt, HC 1⟩
        · go_simp; exact hK.out _ _ (Below.refl _ _) ⟨bd, 2, _, rfl, hlt, HC 2⟩
      refine Py.steps_cons 36 rfl ?_ ?_
      · intro T D' w hB0 hold hdep K hK0
        have hK := Lib.hid hK0
        have q35 : Kr.S (.sptr) w (T[35]?.getD undef) := Py.dep hdep 20 (by kernel_rfl) rfl rfl
        clear hold hdep hK0
        obtain ⟨bd, o, s, e35, hlt, c0⟩ := q35
        go_simp
        exact hK.out _ _ (Below.refl _ _) ⟨s, rfl⟩
      refine Py.steps_cons 37 rfl ?_ ?_
      · intro T D' w hB0 hold hdep K hK0
        have hK := Lib.hid hK0
        have q15 : T[15]?.getD undef = .int .i64 fr := Py.dep hdep 0 (by kernel_rfl) rfl rfl
        have q16 : T[16]?.getD undef = .int .i64 tt := Py.dep hdep 1 (by kernel_rfl) rfl rfl
        have q20 : Kr.S (.rng 5) w (T[20]?.getD undef) := Py.dep hdep 5 (by kernel_rfl) rfl rfl
        have q24 : Kr.S (.day) w (T[24]?.getD undef) := Py.dep hdep 9 (by kernel_rfl) rfl rfl
        have q28 : Kr.S (.clk) w (T[28]?.getD undef) := Py.dep hdep 13 (by kernel_rfl) rfl rfl
        have q36 : Kr.S (.str) w (T[36]?.getD undef) := Py.dep hdep 21 (by kernel_rfl) rfl rfl
        have q29 : T[29]?.getD undef = .int .i64 sv := Py.dep hdep 14 (by kernel_rfl) rfl rfl
        clear hold hdep hK0
        obtain ⟨m, _, _, e20⟩ := q20
        obtain ⟨d1, d2, d3, e24⟩ := q24
        obtain ⟨k1, k2, e28⟩ := q28
        obtain ⟨s, e36⟩ := q36
        go_simp
        exact hK.out _ _ (Below.refl _ _) ⟨⟨⟨#[]⟩, fr, tt, m, d1, d2, d3, k1, k2, sv, s⟩, rfl⟩
      refine Py.steps_cons 12 rfl ?_ ?_
      · intro T D' w hB0 hold hdep K hK0
        have hK := Lib.hid hK0
        clear hold hdep hK0
        have hw := hB0.size
        go_simp
        exact hK.out _ _ ((Below.refl _ w).alloc (Nat.le_refl _) _) ⟨w.heap.size, hw, rfl, ((Kp.start w).alloc _).at 0 rfl⟩
      exact Py.steps_nil
  case hend =>
    intro T2 w2 hsz hB0 hold hS
    have g0 : T2[0]?.getD undef = .slice da dn dc := hold 0 rfl
    have g1 : T2[1]?.getD undef = .int .i64 i := hold 1 rfl
    have g2 : T2[2]?.getD undef = .int .i64 fr := hold 2 rfl
    have g3 : T2[3]?.getD undef = .int .i64 tt := hold 3 rfl
    have g4 : T2[4]?.getD undef = .int .i64 sv := hold 4 rfl
    have g5 : T2[5]?.getD undef = .pointer (some ⟨p0, 0, none⟩) := hold 5 rfl
    have g11 : T2[11]?.getD undef = .func (.func 76) #[] #[.pointer (some ⟨p0, 0, none⟩)] := hold 11 rfl
    have qR : Kr.S .rule w2 (T2[37]?.getD undef) := hS 37 (by rfl)
    have qN : Kr.S (.new _) w2 (T2[12]?.getD undef) := hS 12 (by rfl)
    obtain ⟨⟨x0, x1, x2, x3, x4, x5, x6, x7, x8, x9, x10⟩, eR⟩ := qR
    replace eR : T2[37]?.getD undef = .agg #[.string x0, .int .i64 x1, .int .i64 x2, .int .i64 x3, .int .i64 x4, .int .i64 x5, .int .i64 x6, .int .i64 x7, .int .i64 x8, .int .i64 x9, .string x10] := eR
    obtain ⟨b1, hNb1, eN, hbb1⟩ := qN
    have KN := Lib.hid (kp_new K0.out hB0 hNb1 hbb1)
    obtain ⟨G2, hG⟩ : ∃ G : Nat → Value, ∀ t, T2[t]?.getD undef = G t := ⟨_, fun _ => rfl⟩
    have e := Py.tmps_lit T2 75 hsz
    simp only [hG] at e
    have e' : T2 = #[G2 0, G2 1, G2 2, G2 3, G2 4, G2 5, G2 6, G2 7, G2 8, G2 9, G2 10, G2 11, G2 12, G2 13, G2 14, G2 15, G2 16, G2 17, G2 18, G2 19, G2 20, G2 21, G2 22, G2 23, G2 24, G2 25, G2 26, G2 27, G2 28, G2 29, G2 30, G2 31, G2 32, G2 33, G2 34, G2 35, G2 36, G2 37, G2 38, G2 39, G2 40, G2 41, G2 42, G2 43, G2 44, G2 45, G2 46, G2 47, G2 48, G2 49, G2 50, G2 51, G2 52, G2 53, G2 54, G2 55, G2 56, G2 57, G2 58, G2 59, G2 60, G2 61, G2 62, G2 63, G2 64, G2 65, G2 66, G2 67, G2 68, G2 69, G2 70, G2 71, G2 72, G2 73, G2 74] := e.trans rfl
    rw [hG] at eR eN
    simp only [hG] at g0 g1 g2 g3 g4 g5 g11
    clear hold hS e hG hsz hbb1
    rw [e', eR, eN, g0, g1, g2, g3, g4, g5, g11]
    clear e' eR eN g0 g1 g2 g3 g4 g5 g11
    simp only [List.drop_succ_cons, List.drop_zero, Py.TailWp]
    obtain ⟨z0, z1, z2, z3, z4, z5, z6, z7, z8, z9, z10⟩ := row11 (KN.out.at 0 rfl)
    have hfr := fun k => free_at (KN.out.at 0 rfl) k
    obtain ⟨f0, f1, f2, f3, f4, f5, f6, f7, f8, f9, f10⟩ := And.intro (hfr 0) (And.intro (hfr 1) (And.intro (hfr 2) (And.intro (hfr 3) (And.intro (hfr 4) (And.intro (hfr 5) (And.intro (hfr 6) (And.intro (hfr 7) (And.intro (hfr 8) (And.intro (hfr 9) (hfr 10))))))))))
    clear hfr
    obtain ⟨X1, hX1, K1⟩ : ∃ Y, (((((((((((w2.setCell ⟨b1, 0, none⟩ (.string x0)).setCell ⟨b1, 1, none⟩ (.int .i64 x1)).setCell ⟨b1, 2, none⟩ (.int .i64 x2)).setCell ⟨b1, 3, none⟩ (.int .i64 x3)).setCell ⟨b1, 4, none⟩ (.int .i64 x4)).setCell ⟨b1, 5, none⟩ (.int .i64 x5)).setCell ⟨b1, 6, none⟩ (.int .i64 x6)).setCell ⟨b1, 7, none⟩ (.int .i64 x7)).setCell ⟨b1, 8, none⟩ (.int .i64 x8)).setCell ⟨b1, 9, none⟩ (.int .i64 x9)).setCell ⟨b1, 10, none⟩ (.string x10)) = Y ∧ Kp [(b1, .cells #[.string x0, .int .i64 x1, .int .i64 x2, .int .i64 x3, .int .i64 x4, .int .i64 x5, .int .i64 x6, .int .i64 x7, .int .i64 x8, .int .i64 x9, .string x10] 36), (p0, .cells #[.slice da dn dc] 90)] [] W Y := ⟨_, rfl, kp_rule (.string x0) (.int .i64 x1) (.int .i64 x2) (.int .i64 x3) (.int .i64 x4) (.int .i64 x5) (.int .i64 x6) (.int .i64 x7) (.int .i64 x8) (.int .i64 x9) (.string x10) KN.out⟩
    replace K1 := Lib.hid K1
    go_simp
    clear z0 f0 z1 f1 z2 f2 z3 f3 z4 f4 z5 f5 z6 f6 z7 f7 z8 f8 z9 f9 z10 f10
    go_upto_region 3 with fail
    try rw [hX1]
    clear hX1 KN
    have HB2 := Lib.hid K1.out.below
    have HS2 := Lib.hid HB2.out.size
    rw [HP.out] at HB2 HS2
    replace KC := Lib.hid (fun (Y : World) (hB : Below X1.heap.size X1 Y) => cells_at ((K1.out.keep hB).at 1 rfl) 0)
    refine Py.wp_region_steps_tail 24 (by kernel_rfl) (by kernel_rfl) (by kernel_rfl) (krS X1.heap.size [.eq (.int .i64 fr), .eq (.int .i64 tt), .eq (.slice da dn dc), .eq (.int .i64 i), .eq (.int .i64 i1), .rng 3, .rng 11, .eq (.func (.func 76) #[] #[.pointer (some ⟨p0, 0, none⟩)]), .eq (.int .i64 i), .eq (.int .i64 i9), .day, .eq (.slice da dn dc), .eq (.int .i64 i), .eq (.int .i64 i12), .clk, .strs [⟨#[]⟩, ⟨#[83]⟩], .eq (.slice da dn dc), .eq (.int .i64 i), .eq (.int .i64 i14), .rng 2, .sptr, .str, .rule] 38 13) (by kernel_rfl) (fun d w w' v h hB => krS_keep h hB) ?steps3 ?hend3
    case steps3 =>
        refine Py.steps_cons 38 rfl ?_ ?_
        · intro T D' w hB0 hold hdep K hK0
          have hK := Lib.hid hK0
          have h2 : T[2]?.getD undef = .int .i64 fr := hold 2 rfl
          clear hold hdep hK0
          go_simp
          exact hK.out _ _ (Below.refl _ _) rfl
        refine Py.steps_cons 39 rfl ?_ ?_
        · intro T D' w hB0 hold hdep K hK0
          have hK := Lib.hid hK0
          have h3 : T[3]?.getD undef = .int .i64 tt := hold 3 rfl
          clear hold hdep hK0
          go_simp
          exact hK.out _ _ (Below.refl _ _) rfl
        refine Py.steps_cons 40 rfl ?_ ?_
        · intro T D' w hB0 hold hdep K hK0
          have hK := Lib.hid hK0
          have h5 : T[5]?.getD undef = .pointer (some ⟨p0, 0, none⟩) := hold 5 rfl
          clear hold hdep hK0
          have c0 := KC.out _ hB0
          go_simp
          exact hK.out _ _ (Below.refl _ _) rfl
        refine Py.steps_cons 41 rfl ?_ ?_
        · intro T D' w hB0 hold hdep K hK0
          have hK := Lib.hid hK0
          have h1 : T[1]?.getD undef = .int .i64 i := hold 1 rfl
          clear hold hdep hK0
          go_simp
          exact hK.out _ _ (Below.refl _ _) rfl
        refine Py.steps_cons 42 rfl ?_ ?_
        · intro T D' w hB0 hold hdep K hK0
          have hK := Lib.hid hK0
          have q41 : T[41]?.getD undef = .int .i64 i := Py.dep hdep 3 (by kernel_rfl) rfl rfl
          clear hold hdep hK0
          go_simp
          exact hK.out _ _ (Below.refl _ _) rfl
        refine Py.steps_cons 43 rfl ?_ ?_
        · intro T D' w hB0 hold hdep K hK0
          have hK := Lib.hid hK0
          have q40 : T[40]?.getD undef = .slice da dn dc := Py.dep hdep 2 (by kernel_rfl) rfl rfl
          have q42 : T[42]?.getD undef = .int .i64 i1 := Py.dep hdep 4 (by kernel_rfl) rfl rfl
          clear hold hdep hK0
          go_simp
          refine (CA.out i1 3 w (HB2.out.trans (hB0.mono HS2.out)) (by omega) (by omega) (by omega) (by omega)).mono ?_
          rintro _ V ⟨⟨r, r0, r1, rfl⟩, rfl⟩
          exact hK.out _ _ (Below.refl _ _) ⟨r, r0, r1, rfl⟩
        refine Py.steps_cons 44 rfl ?_ ?_
        · intro T D' w hB0 hold hdep K hK0
          have hK := Lib.hid hK0
          have q43 : Kr.S (.rng 3) w (T[43]?.getD undef) := Py.dep hdep 5 (by kernel_rfl) rfl rfl
          clear hold hdep hK0
          obtain ⟨r, r0, r1, e43⟩ := q43
          have hw := IntWalk.i64_in (8 + r) (by omega)
          go_simp
          exact hK.out _ _ (Below.refl _ _) ⟨_, by omega, by omega, rfl⟩
        refine Py.steps_cons 45 rfl ?_ ?_
        · intro T D' w hB0 hold hdep K hK0
          have hK := Lib.hid hK0
          have h11 : T[11]?.getD undef = .func (.func 76) #[] #[.pointer (some ⟨p0, 0, none⟩)] := hold 11 rfl
          clear hold hdep hK0
          go_simp
          exact hK.out _ _ (Below.refl _ _) rfl
        refine Py.steps_cons 46 rfl ?_ ?_
        · intro T D' w hB0 hold hdep K hK0
          have hK := Lib.hid hK0
          have h1 : T[1]?.getD undef = .int .i64 i := hold 1 rfl
          clear hold hdep hK0
          go_simp
          exact hK.out _ _ (Below.refl _ _) rfl
        refine Py.steps_cons 47 rfl ?_ ?_
        · intro T D' w hB0 hold hdep K hK0
          have hK := Lib.hid hK0
          have q46 : T[46]?.getD undef = .int .i64 i := Py.dep hdep 8 (by kernel_rfl) rfl rfl
          clear hold hdep hK0
          go_simp
          exact hK.out _ _ (Below.refl _ _) rfl
        refine Py.steps_cons 48 rfl ?_ ?_
        · intro T D' w hB0 hold hdep K hK0
          have hK := Lib.hid hK0
          have q45 : T[45]?.getD undef = .func (.func 76) #[] #[.pointer (some ⟨p0, 0, none⟩)] := Py.dep hdep 7 (by kernel_rfl) rfl rfl
          have q47 : T[47]?.getD undef = .int .i64 i9 := Py.dep hdep 9 (by kernel_rfl) rfl rfl
          clear hold hdep hK0
          go_simp
          try go_at_call 76
          refine (CD.out i9 w (HB2.out.trans (hB0.mono HS2.out)) (KC.out _ hB0) (by omega) (by omega)).mono ?_
          rintro _ V ⟨⟨p, q, r, rfl⟩, hb⟩
          exact hK.out _ _ hb ⟨p, q, r, rfl⟩
        refine Py.steps_cons 49 rfl ?_ ?_
        · intro T D' w hB0 hold hdep K hK0
          have hK := Lib.hid hK0
          have h5 : T[5]?.getD undef = .pointer (some ⟨p0, 0, none⟩) := hold 5 rfl
          clear hold hdep hK0
          have c0 := KC.out _ hB0
          go_simp
          exact hK.out _ _ (Below.refl _ _) rfl
        refine Py.steps_cons 50 rfl ?_ ?_
        · intro T D' w hB0 hold hdep K hK0
          have hK := Lib.hid hK0
          have h1 : T[1]?.getD undef = .int .i64 i := hold 1 rfl
          clear hold hdep hK0
          go_simp
          exact hK.out _ _ (Below.refl _ _) rfl
        refine Py.steps_cons 51 rfl ?_ ?_
        · intro T D' w hB0 hold hdep K hK0
          have hK := Lib.hid hK0
          have q50 : T[50]?.getD undef = .int .i64 i := Py.dep hdep 12 (by kernel_rfl) rfl rfl
          clear hold hdep hK0
          go_simp
          exact hK.out _ _ (Below.refl _ _) rfl
        refine Py.steps_cons 52 rfl ?_ ?_
        · intro T D' w hB0 hold hdep K hK0
          have hK := Lib.hid hK0
          have q49 : T[49]?.getD undef = .slice da dn dc := Py.dep hdep 11 (by kernel_rfl) rfl rfl
          have q51 : T[51]?.getD undef = .int .i64 i12 := Py.dep hdep 13 (by kernel_rfl) rfl rfl
          clear hold hdep hK0
          go_simp
          refine (CC.out i12 w (HB2.out.trans (hB0.mono HS2.out)) (by omega) (by omega)).mono ?_
          rintro _ V ⟨⟨p, q, rfl⟩, hb⟩
          exact hK.out _ _ hb ⟨p, q, rfl⟩
        refine Py.steps_cons 53 rfl ?_ ?_
        · intro T D' w hB0 hold hdep K hK0
          have hK := Lib.hid hK0
          clear hold hdep hK0
          go_simp
          exact hK.out _ _ ((Below.refl _ w).alloc (Nat.le_refl _) _) ⟨_, rfl, ((Kp.start w).alloc _).at 0 rfl⟩
        refine Py.steps_cons 54 rfl ?_ ?_
        · intro T D' w hB0 hold hdep K hK0
          have hK := Lib.hid hK0
          have h5 : T[5]?.getD undef = .pointer (some ⟨p0, 0, none⟩) := hold 5 rfl
          clear hold hdep hK0
          have c0 := KC.out _ hB0
          go_simp
          exact hK.out _ _ (Below.refl _ _) rfl
        refine Py.steps_cons 55 rfl ?_ ?_
        · intro T D' w hB0 hold hdep K hK0
          have hK := Lib.hid hK0
          have h1 : T[1]?.getD undef = .int .i64 i := hold 1 rfl
          clear hold hdep hK0
          go_simp
          exact hK.out _ _ (Below.refl _ _) rfl
        refine Py.steps_cons 56 rfl ?_ ?_
        · intro T D' w hB0 hold hdep K hK0
          have hK := Lib.hid hK0
          have q55 : T[55]?.getD undef = .int .i64 i := Py.dep hdep 17 (by kernel_rfl) rfl rfl
          clear hold hdep hK0
          go_simp
          exact hK.out _ _ (Below.refl _ _) rfl
        refine Py.steps_cons 57 rfl ?_ ?_
        · intro T D' w hB0 hold hdep K hK0
          have hK := Lib.hid hK0
          have q54 : T[54]?.getD undef = .slice da dn dc := Py.dep hdep 16 (by kernel_rfl) rfl rfl
          have q56 : T[56]?.getD undef = .int .i64 i14 := Py.dep hdep 18 (by kernel_rfl) rfl rfl
          clear hold hdep hK0
          go_simp
          refine (CA.out i14 2 w (HB2.out.trans (hB0.mono HS2.out)) (by omega) (by omega) (by omega) (by omega)).mono ?_
          rintro _ V ⟨⟨r, r0, r1, rfl⟩, rfl⟩
          exact hK.out _ _ (Below.refl _ _) ⟨r, r0, r1, rfl⟩
        refine Py.steps_cons 58 rfl ?_ ?_
        · intro T D' w hB0 hold hdep K hK0
          have hK := Lib.hid hK0
          have q53 : Kr.S (.strs [⟨#[]⟩, ⟨#[83]⟩]) w (T[53]?.getD undef) := Py.dep hdep 15 (by kernel_rfl) rfl rfl
          have q57 : Kr.S (.rng 2) w (T[57]?.getD undef) := Py.dep hdep 19 (by kernel_rfl) rfl rfl
          clear hold hdep hK0
          obtain ⟨bd, e53, hb⟩ := q53
          replace e53 : T[53]?.getD undef = .slice (some ⟨bd, 0, none⟩) 2 2 := e53
          obtain ⟨r, r0, r1, e57⟩ := q57
          have hlt := lt_of_block hb
          have HC := fun i => cells_at hb i
          have r3 : r = 0 ∨ r = 1 := by omega
          rcases r3 with rfl | rfl
          · go_simp; exact hK.out _ _ (Below.refl _ _) ⟨bd, 0, _, rfl, hlt, HC 0⟩
          · go_simp; exact hK.out _ _ (Below.refl _ _) ⟨bd, 1, _, rfl, hlt, HC 1⟩
        refine Py.steps_cons 59 rfl ?_ ?_
        · intro T D' w hB0 hold hdep K hK0
          have hK := Lib.hid hK0
          have q58 : Kr.S (.sptr) w (T[58]?.getD undef) := Py.dep hdep 20 (by kernel_rfl) rfl rfl
          clear hold hdep hK0
          obtain ⟨bd, o, s, e58, hlt, c0⟩ := q58
          go_simp
          exact hK.out _ _ (Below.refl _ _) ⟨s, rfl⟩
        refine Py.steps_cons 60 rfl ?_ ?_
        · intro T D' w hB0 hold hdep K hK0
          have hK := Lib.hid hK0
          have q38 : T[38]?.getD undef = .int .i64 fr := Py.dep hdep 0 (by kernel_rfl) rfl rfl
          have q39 : T[39]?.getD undef = .int .i64 tt := Py.dep hdep 1 (by kernel_rfl) rfl rfl
          have q44 : Kr.S (.rng 11) w (T[44]?.getD undef) := Py.dep hdep 6 (by kernel_rfl) rfl rfl
          have q48 : Kr.S (.day) w (T[48]?.getD undef) := Py.dep hdep 10 (by kernel_rfl) rfl rfl
          have q52 : Kr.S (.clk) w (T[52]?.getD undef) := Py.dep hdep 14 (by kernel_rfl) rfl rfl
          have q59 : Kr.S (.str) w (T[59]?.getD undef) := Py.dep hdep 21 (by kernel_rfl) rfl rfl
          clear hold hdep hK0
          obtain ⟨m, _, _, e44⟩ := q44
          obtain ⟨d1, d2, d3, e48⟩ := q48
          obtain ⟨k1, k2, e52⟩ := q52
          obtain ⟨s, e59⟩ := q59
          go_simp
          exact hK.out _ _ (Below.refl _ _) ⟨⟨⟨#[]⟩, fr, tt, m, d1, d2, d3, k1, k2, 0, s⟩, rfl⟩
        refine Py.steps_cons 13 rfl ?_ ?_
        · intro T D' w hB0 hold hdep K hK0
          have hK := Lib.hid hK0
          clear hold hdep hK0
          have hw := hB0.size
          go_simp
          exact hK.out _ _ ((Below.refl _ w).alloc (Nat.le_refl _) _) ⟨w.heap.size, hw, rfl, ((Kp.start w).alloc _).at 0 rfl⟩
        exact Py.steps_nil
    case hend3 =>
      intro T3 w3 hsz hB0 hold hS
      have g0 : T3[0]?.getD undef = .slice da dn dc := hold 0 rfl
      have g1 : T3[1]?.getD undef = .int .i64 i := hold 1 rfl
      have g2 : T3[2]?.getD undef = .int .i64 fr := hold 2 rfl
      have g3 : T3[3]?.getD undef = .int .i64 tt := hold 3 rfl
      have g4 : T3[4]?.getD undef = .int .i64 sv := hold 4 rfl
      have g5 : T3[5]?.getD undef = .pointer (some ⟨p0, 0, none⟩) := hold 5 rfl
      have g11 : T3[11]?.getD undef = .func (.func 76) #[] #[.pointer (some ⟨p0, 0, none⟩)] := hold 11 rfl
      have g12 : T3[12]?.getD undef = .pointer (some ⟨b1, 0, none⟩) := hold 12 rfl
      have qR : Kr.S .rule w3 (T3[60]?.getD undef) := hS 60 (by rfl)
      have qN : Kr.S (.new _) w3 (T3[13]?.getD undef) := hS 13 (by rfl)
      obtain ⟨⟨y0, y1, y2, y3, y4, y5, y6, y7, y8, y9, y10⟩, eR⟩ := qR
      replace eR : T3[60]?.getD undef = .agg #[.string y0, .int .i64 y1, .int .i64 y2, .int .i64 y3, .int .i64 y4, .int .i64 y5, .int .i64 y6, .int .i64 y7, .int .i64 y8, .int .i64 y9, .string y10] := eR
      obtain ⟨b2, hNb2, eN, hbb2⟩ := qN
      have KN := Lib.hid (kp_new K1.out hB0 hNb2 hbb2)
      obtain ⟨G3, hG⟩ : ∃ G : Nat → Value, ∀ t, T3[t]?.getD undef = G t := ⟨_, fun _ => rfl⟩
      have e := Py.tmps_lit T3 75 hsz
      simp only [hG] at e
      have e' : T3 = #[G3 0, G3 1, G3 2, G3 3, G3 4, G3 5, G3 6, G3 7, G3 8, G3 9, G3 10, G3 11, G3 12, G3 13, G3 14, G3 15, G3 16, G3 17, G3 18, G3 19, G3 20, G3 21, G3 22, G3 23, G3 24, G3 25, G3 26, G3 27, G3 28, G3 29, G3 30, G3 31, G3 32, G3 33, G3 34, G3 35, G3 36, G3 37, G3 38, G3 39, G3 40, G3 41, G3 42, G3 43, G3 44, G3 45, G3 46, G3 47, G3 48, G3 49, G3 50, G3 51, G3 52, G3 53, G3 54, G3 55, G3 56, G3 57, G3 58, G3 59, G3 60, G3 61, G3 62, G3 63, G3 64, G3 65, G3 66, G3 67, G3 68, G3 69, G3 70, G3 71, G3 72, G3 73, G3 74] := e.trans rfl
      rw [hG] at eR eN
      simp only [hG] at g0 g1 g2 g3 g4 g5 g11 g12
      clear hold hS e hG hsz hbb2
      rw [e', eR, eN, g0, g1, g2, g3, g4, g5, g11, g12]
      clear e' eR eN g0 g1 g2 g3 g4 g5 g11 g12
      simp only [List.drop_succ_cons, List.drop_zero, Py.TailWp]
      obtain ⟨z0, z1, z2, z3, z4, z5, z6, z7, z8, z9, z10⟩ := row11 (KN.out.at 0 rfl)
      have hfr := fun k => free_at (KN.out.at 0 rfl) k
      obtain ⟨f0, f1, f2, f3, f4, f5, f6, f7, f8, f9, f10⟩ := And.intro (hfr 0) (And.intro (hfr 1) (And.intro (hfr 2) (And.intro (hfr 3) (And.intro (hfr 4) (And.intro (hfr 5) (And.intro (hfr 6) (And.intro (hfr 7) (And.intro (hfr 8) (And.intro (hfr 9) (hfr 10))))))))))
      clear hfr
      obtain ⟨X2, hX2, K2⟩ : ∃ Y, (((((((((((w3.setCell ⟨b2, 0, none⟩ (.string y0)).setCell ⟨b2, 1, none⟩ (.int .i64 y1)).setCell ⟨b2, 2, none⟩ (.int .i64 y2)).setCell ⟨b2, 3, none⟩ (.int .i64 y3)).setCell ⟨b2, 4, none⟩ (.int .i64 y4)).setCell ⟨b2, 5, none⟩ (.int .i64 y5)).setCell ⟨b2, 6, none⟩ (.int .i64 y6)).setCell ⟨b2, 7, none⟩ (.int .i64 y7)).setCell ⟨b2, 8, none⟩ (.int .i64 y8)).setCell ⟨b2, 9, none⟩ (.int .i64 y9)).setCell ⟨b2, 10, none⟩ (.string y10)) = Y ∧ Kp [(b2, .cells #[.string y0, .int .i64 y1, .int .i64 y2, .int .i64 y3, .int .i64 y4, .int .i64 y5, .int .i64 y6, .int .i64 y7, .int .i64 y8, .int .i64 y9, .string y10] 36), (b1, .cells #[.string x0, .int .i64 x1, .int .i64 x2, .int .i64 x3, .int .i64 x4, .int .i64 x5, .int .i64 x6, .int .i64 x7, .int .i64 x8, .int .i64 x9, .string x10] 36), (p0, .cells #[.slice da dn dc] 90)] [] W Y := ⟨_, rfl, kp_rule (.string y0) (.int .i64 y1) (.int .i64 y2) (.int .i64 y3) (.int .i64 y4) (.int .i64 y5) (.int .i64 y6) (.int .i64 y7) (.int .i64 y8) (.int .i64 y9) (.string y10) KN.out⟩
      replace K2 := Lib.hid K2
      go_simp
      clear z0 f0 z1 f1 z2 f2 z3 f3 z4 f4 z5 f5 z6 f6 z7 f7 z8 f8 z9 f9 z10 f10
      go_upto_region 4 with fail
      try rw [hX2]
      clear hX2 KN
      have c0 : X2.cell? ⟨p0, 0, none⟩ = some (.slice da dn dc) := cells_at (K2.out.at 2 rfl) 0
      have HB3 : Below p0 W X2 := by rw [← HP.out]; exact K2.out.below
      go_wp2_with fail
      go_at_call 62
      refine (CA.out i2 4 _ HB3 (by omega) (by omega) (by omega) (by omega)).mono ?_
      rintro e X2 ⟨⟨r, r0, r1, rfl⟩, rfl⟩
      by_cases hr : r = 0
      · subst hr
        obtain ⟨k1, k2, k3, k4⟩ : X2.cell? ⟨b1, 9, none⟩ = some (.int .i64 x9) ∧ X2.cell? ⟨b2, 9, none⟩ = some (.int .i64 y9) ∧ X2.frozen? ⟨b1, 9, none⟩ = false ∧ X2.frozen? ⟨b2, 9, none⟩ = false := ⟨cells_at (K2.out.at 1 rfl) 9, cells_at (K2.out.at 0 rfl) 9, free_at (K2.out.at 1 rfl) 9, free_at (K2.out.at 0 rfl) 9⟩
        have hbb : b1 < b2 := Nat.lt_of_lt_of_le (K1.out.lt 0 rfl) hNb2
        have hb1 : ¬ b1 = b2 := by omega
        have hb2 : ¬ b2 = b1 := by omega
        go_upto_region 6 with fail
        obtain ⟨X3, hX3, K3⟩ : ∃ Y, ((X2.setCell ⟨b1, 9, none⟩ (.int .i64 y9)).setCell ⟨b2, 9, none⟩ (.int .i64 x9)) = Y ∧ Kp [(b2, .cells #[.string y0, .int .i64 y1, .int .i64 y2, .int .i64 y3, .int .i64 y4, .int .i64 y5, .int .i64 y6, .int .i64 y7, .int .i64 y8, .int .i64 x9, .string y10] 36), (b1, .cells #[.string x0, .int .i64 x1, .int .i64 x2, .int .i64 x3, .int .i64 x4, .int .i64 x5, .int .i64 x6, .int .i64 x7, .int .i64 x8, .int .i64 y9, .string x10] 36), (p0, .cells #[.slice da dn dc] 90)] [] W Y := by
          have q1 : Kp [(b2, .cells #[.string y0, .int .i64 y1, .int .i64 y2, .int .i64 y3, .int .i64 y4, .int .i64 y5, .int .i64 y6, .int .i64 y7, .int .i64 y8, .int .i64 y9, .string y10] 36), (b1, .cells #[.string x0, .int .i64 x1, .int .i64 x2, .int .i64 x3, .int .i64 x4, .int .i64 x5, .int .i64 x6, .int .i64 x7, .int .i64 x8, .int .i64 y9, .string x10] 36), (p0, .cells #[.slice da dn dc] 90)] [] W _ := K2.out.set 1 rfl 9 (.int .i64 y9) rfl
          have q2 : Kp [(b2, .cells #[.string y0, .int .i64 y1, .int .i64 y2, .int .i64 y3, .int .i64 y4, .int .i64 y5, .int .i64 y6, .int .i64 y7, .int .i64 y8, .int .i64 x9, .string y10] 36), (b1, .cells #[.string x0, .int .i64 x1, .int .i64 x2, .int .i64 x3, .int .i64 x4, .int .i64 x5, .int .i64 x6, .int .i64 x7, .int .i64 x8, .int .i64 y9, .string x10] 36), (p0, .cells #[.slice da dn dc] 90)] [] W _ := q1.set 0 rfl 9 (.int .i64 x9) rfl
          exact ⟨_, rfl, q2⟩
        replace K3 := Lib.hid K3
        rw [hX3]
        clear hX3 k1 k2 k3 k4 c0 HB3 K2
        obtain ⟨z0, z1, z2, z3, z4, z5, z6, z7, z8, z9, z10⟩ := row11 (K3.out.at 1 rfl)
        obtain ⟨zz0, zz1, zz2, zz3, zz4, zz5, zz6, zz7, zz8, zz9, zz10⟩ := row11 (K3.out.at 0 rfl)
        go_wp2_with fail
        have KE := K3.out.alloc (.cells #[.string x0, .int .i64 x1, .int .i64 x2, .int .i64 x3, .int .i64 x4, .int .i64 x5, .int .i64 x6, .int .i64 x7, .int .i64 x8, .int .i64 y9, .string x10, .string y0, .int .i64 y1, .int .i64 y2, .int .i64 y3, .int .i64 y4, .int .i64 y5, .int .i64 y6, .int .i64 y7, .int .i64 y8, .int .i64 x9, .string y10] 36)
        have hs := SlV.of_block (sz := 11) (n := 2) (c := 2) (KE.at 0 rfl) (by omega) (by unfold maxLen; omega) (by simp)
        exact bodyPost_ret (v := .slice (some ⟨X3.heap.size, 0, none⟩) 2 2) (by simp [results, Tryd.results64, go_sem]) rfl ⟨⟨_, ⟨x0, x1, x2, x3, x4, x5, x6, x7, x8, y9, x10⟩, ⟨y0, y1, y2, y3, y4, y5, y6, y7, y8, x9, y10⟩, rfl, hs⟩, KE.below⟩
      · clear c0 HB3
        obtain ⟨z0, z1, z2, z3, z4, z5, z6, z7, z8, z9, z10⟩ := row11 (K2.out.at 1 rfl)
        obtain ⟨zz0, zz1, zz2, zz3, zz4, zz5, zz6, zz7, zz8, zz9, zz10⟩ := row11 (K2.out.at 0 rfl)
        go_wp2_with fail
        have KE := K2.out.alloc (.cells #[.string x0, .int .i64 x1, .int .i64 x2, .int .i64 x3, .int .i64 x4, .int .i64 x5, .int .i64 x6, .int .i64 x7, .int .i64 x8, .int .i64 x9, .string x10, .string y0, .int .i64 y1, .int .i64 y2, .int .i64 y3, .int .i64 y4, .int .i64 y5, .int .i64 y6, .int .i64 y7, .int .i64 y8, .int .i64 y9, .string y10] 36)
        have hs := SlV.of_block (sz := 11) (n := 2) (c := 2) (KE.at 0 rfl) (by omega) (by unfold maxLen; omega) (by simp)
        exact bodyPost_ret (v := .slice (some ⟨X2.heap.size, 0, none⟩) 2 2) (by simp [results, Tryd.results64, go_sem]) rfl ⟨⟨_, ⟨x0, x1, x2, x3, x4, x5, x6, x7, x8, x9, x10⟩, ⟨y0, y1, y2, y3, y4, y5, y6, y7, y8, y9, y10⟩, rfl, hs⟩, KE.below⟩
end Go.Proofs.YtnffecoohkanhaaDoor.Px
namespace Go.Proofs.YtnffecoohkanhaaDoor.Px
open Go.RowKit
open Lk

theorem ruq_set : ∀ (l : List RuQ) (i : Nat) (x : RuQ), l[i]? = some x → ∀ s : ByteArray, (l.flatMap ruqC).set (i * 11) (.string s) = (l.set i { x with s0 := s }).flatMap ruqC
  | [], _, _, h, _ => by simp at h
  | y :: r, 0, x, h, s => by
    simp only [List.getElem?_cons_zero, Option.some.injEq] at h
    subst h
    rfl
  | y :: r, i + 1, x, h, s => by
    have h := ruq_set r i x (by simpa using h) s
    show (ruqC y ++ r.flatMap ruqC).set ((i + 1) * 11) _ = ruqC y ++ (r.set i { x with s0 := s }).flatMap ruqC
    rw [← h, show (i + 1) * 11 = (ruqC y).length + i * 11 by show _ = 11 + i * 11; omega, List.set_append_right _ _ (by omega)]
    rw [Nat.add_sub_cancel_left]
theorem append_rules {L : List (Nat × Obj)} {R : List Rw} {v : Value} {W X : World} {l : List RuQ} (h : Kp L (⟨v, 36, 11, l.length, l.flatMap ruqC⟩ :: R) W X) (ys : List RuQ) (lv : Value) (hL : SlV X lv 11 ys.length (ys.flatMap ruqC)) (h0 : 0 < ys.length) (hmax : l.length + ys.length ≤ 1000) :
    ∃ (a : Option Addr) (c : Nat) (w1 : World), (Builtin.append_ #[22, 22] 22 #[v, lv]).run Tryd.prog X = .ok (.slice a (l.length + ys.length) c) w1 ∧ Kp L (⟨.slice a (l.length + ys.length) c, 36, 11, (l ++ ys).length, (l ++ ys).flatMap ruqC⟩ :: R) W w1 := by
  obtain ⟨i0, hi, hz0, hz1, hz2⟩ := info_partsU info_rules
  obtain ⟨b, o, c, e, _⟩ := hL.allA h0
  obtain ⟨v', w1, hr, hk⟩ := append_flat (t := 22) Tryd.underlying22 hi hz0 hz1 hz2 rfl (by decide) (by decide) h ys.length (ys.flatMap ruqC) lv hL ruq_one (by rw [e]; intro c hc; simp at hc) (by omega)
  obtain ⟨a', c', rfl⟩ : ∃ a c, v' = .slice a (l.length + ys.length) c := own_slice (hk.row 0 rfl)
  refine ⟨_, _, _, hr, ?_⟩
  rw [List.flatMap_append, List.length_append]
  exact hk
set_option maxHeartbeats 4000000 in
set_option maxRecDepth 100000 in
theorem made17_any (L : List Nat) (dv : Value) (s : ByteArray) (W : World) (h : D17 W dv L) :
    Calls Tryd.prog 43 #[dv, .string s] W fun e w' => (∃ (v : Value) (l : List RuQ), e = .returned v ∧ 0 < l.length ∧ l.length ≤ 5 ∧ SlV w' v 11 l.length (l.flatMap ruqC)) ∧ Below W.heap.size W w' := by
  have CA := Lib.hid (fun (y m : Int) (Y : World) (hB : Below W.heap.size W Y) (h0 : 0 ≤ y) (h1 : y ≤ 1000) (h2 : 0 < m) (h3 : m ≤ 1000) => at17_any L dv y m Y (h.keep hB) h0 h1 h2 h3)
  have CC := Lib.hid (fun (y : Int) (Y : World) (hB : Below W.heap.size W Y) (h0 : 0 ≤ y) (h1 : y ≤ 900) => clock17_any L dv y Y (h.keep hB) h0 h1)
  have CP := Lib.hid (fun (i fr tt sv : Int) (Y : World) (hB : Below W.heap.size W Y) (h0 : 0 ≤ i) (h1 : i ≤ 800) => pair17_any L dv i fr tt sv Y (h.keep hB) h0 h1)
  obtain ⟨da, dn, dc, rfl⟩ : ∃ a n c, dv = .slice a n c := by obtain ⟨a, c, e, _, _⟩ := h.sl.slA; exact ⟨_, _, _, e⟩
  have K0 := Lib.hid ((Kp.start W).allocAt W.heap.size rfl (.cells #[.int .i64 3600, .int .i64 3600, .int .i64 1800, .int .i64 7200, .int .i64 (-3600)] 2))
  clear h
  go_enter Tryd.func43, Tryd.ntmps43
  go_wp2_with fail
  go_at_call 62
  refine (CA.out _ _ _ K0.out.below (by omega) (by omega) (by omega) (by omega)).mono ?_
  rintro e X ⟨⟨r, r0, r1, rfl⟩, rfl⟩
  obtain ⟨X1, hX1⟩ : ∃ Y, W.alloc (.cells #[.int .i64 3600, .int .i64 3600, .int .i64 1800, .int .i64 7200, .int .i64 (-3600)] 2) = Y := ⟨_, rfl⟩
  rw [hX1] at K0
  rw [hX1]
  clear hX1
  obtain ⟨k, rfl⟩ := Int.eq_ofNat_of_zero_le r0
  obtain ⟨sv, hsv⟩ : ∃ sv : Int, X1.cell? ⟨W.heap.size, k, none⟩ = some (.int .i64 sv) := by
    have HC := fun i => cells_at (K0.out.at 0 rfl) i
    have h5 : k = 0 ∨ k = 1 ∨ k = 2 ∨ k = 3 ∨ k = 4 := by omega
    rcases h5 with rfl | rfl | rfl | rfl | rfl
    · exact ⟨_, HC 0⟩
    · exact ⟨_, HC 1⟩
    · exact ⟨_, HC 2⟩
    · exact ⟨_, HC 3⟩
    · exact ⟨_, HC 4⟩
  have hk5 : k < 5 := by omega
  have HBX := Lib.hid K0.out.below
  go_wp2_with fail
  go_at_call 62
  refine (CA.out _ _ _ HBX.out (by omega) (by omega) (by omega) (by omega)).mono ?_
  rintro e X1 ⟨⟨f, f0, f1, rfl⟩, rfl⟩
  have hw1 := IntWalk.i64_in (1900 + f) (by omega)
  go_wp2_with fail
  go_at_call 62
  refine (CA.out _ _ _ HBX.out (by omega) (by omega) (by omega) (by omega)).mono ?_
  rintro e X1 ⟨⟨r2, s0, s1, rfl⟩, rfl⟩
  go_upto_if 21 with fail
  obtain ⟨f', hf'⟩ : ∃ y, 1900 + f = y := ⟨_, rfl⟩
  have hf0 : 1900 ≤ f' := by omega
  have hf1 : f' ≤ 1980 := by omega
  simp only [hf'] at hw1 ⊢
  have HX0 := Lib.hid (show Kp [] [⟨.slice none 0 0, 36, 11, 0, ([] : List RuQ).flatMap ruqC⟩] W X1 from (((Kp.start W).keep HBX.out).fresh 36 11))
  clear hf' hw1 hsv hk5 K0
  go_cut [6, 7] from 21 to 35 (fun v6 v7 wx => ∃ (g : Int) (l : List RuQ), v6 = .int .i64 g ∧ 1900 ≤ g ∧ g ≤ 1981 ∧ l.length ≤ 1 ∧ Kp [] [⟨v7, 36, 11, l.length, l.flatMap ruqC⟩] W wx)
  case first =>
    by_cases hr2 : r2 = 0
    · subst hr2
      go_wp2_with fail
      go_at_call 62
      refine (CA.out _ _ _ HBX.out (by omega) (by omega) (by omega) (by omega)).mono ?_
      rintro e X1 ⟨⟨r3, t0, t1, rfl⟩, rfl⟩
      have hw1 := IntWalk.i64_in (1 + r3) (by omega)
      go_wp2_with fail
      go_at_call 63
      refine (CC.out _ _ HBX.out (by omega) (by omega)).mono ?_
      rintro e X2 ⟨⟨ca, cb, rfl⟩, hb2⟩
      have K3 := (HX0.out.keep hb2).allocAt X2.heap.size rfl (.cells #[.string ⟨#[]⟩, .int .i64 f', .int .i64 f', .int .i64 6, .int .i64 1, .int .i64 0, .int .i64 (1 + r3), .int .i64 ca, .int .i64 cb, .int .i64 0, .string ⟨#[83]⟩] 36)
      have hS := SlV.of_block (sz := 11) (n := 1) (c := 1) (K3.at 0 rfl) (by omega) (by unfold maxLen; omega) (by simp)
      obtain ⟨oa, oc, w1, hra, hka⟩ := append_rules (l := []) K3 [⟨⟨#[]⟩, f', f', 6, 1, 0, 1 + r3, ca, cb, 0, ⟨#[83]⟩⟩] (.slice (some ⟨X2.heap.size, 0, none⟩) 1 1) hS (Nat.le_refl 1) (show 0 + 1 ≤ 1000 by omega)
      have HR := Lib.hid hra
      have HK := Lib.hid hka.drop
      have hwf := IntWalk.i64_in (f' + 1) (by omega)
      clear hra hka hS K3
      go_wp2_with ((at_builtin; refine wpList_append_eq rfl _ _ 22 rfl _ _ _ w1 rfl rfl HR.out ?_))
      go_meet
      exact ⟨f' + 1, [⟨⟨#[]⟩, f', f', 6, 1, 0, 1 + r3, ca, cb, 0, ⟨#[83]⟩⟩], rfl, by omega, by omega, Nat.le_refl 1, HK.out⟩
    · go_wp2_with fail
      go_meet
      exact ⟨_, [], rfl, by omega, by omega, by simp, HX0.out⟩
  case rest =>
    obtain ⟨g, l, rfl, g0, g1, hl, hk⟩ := hcut
    obtain ⟨oa, oc, rfl⟩ : ∃ a c, u7 = .slice a l.length c := own_slice (hk.row 0 rfl)
    have HK := Lib.hid hk
    clear hk HX0 HBX
    go_wp2_with fail
    go_at_call 62
    refine (CA.out _ _ _ HK.out.below (by omega) (by omega) (by omega) (by omega)).mono ?_
    rintro e X2 ⟨⟨r5, t0, t1, rfl⟩, rfl⟩
    go_upto_if 38 with fail
    go_cut [6, 7, 8] from 38 to 54 (fun v6 v7 v8 wx => ∃ (g : Int) (l : List RuQ), v6 = .int .i64 g ∧ 1900 ≤ g ∧ g ≤ 2000 ∧ l.length ≤ 3 ∧ Kp [] [⟨v7, 36, 11, l.length, l.flatMap ruqC⟩] W wx)
    case first =>
      by_cases hr5 : r5 = 0
      · subst hr5
        go_wp2_with fail
        go_at_call 62
        refine (CA.out _ _ _ HK.out.below (by omega) (by omega) (by omega) (by omega)).mono ?_
        rintro e X2 ⟨⟨r6, p0, p1, rfl⟩, rfl⟩
        have hw2 := IntWalk.i64_in (g + r6) (by omega)
        go_wp2_with fail
        go_at_call 64
        refine (CP.out _ _ _ _ _ HK.out.below (by omega) (by omega)).mono ?_
        rintro e X3 ⟨⟨pv, x, y, rfl, hS⟩, hb⟩
        obtain ⟨oa2, oc2, w1, hra, hka⟩ := append_rules (HK.out.keep hb) [x, y] pv hS (show 0 < 2 by omega) (by show l.length + 2 ≤ 1000; omega)
        have HR := Lib.hid hra
        have HK2 := Lib.hid hka
        obtain ⟨pa, pc, rfl, _, _⟩ := hS.slA
        clear hra hka hS hb HK
        go_wp2_with ((at_builtin; refine wpList_append_eq rfl _ _ 22 rfl _ _ _ w1 rfl rfl HR.out ?_))
        refine (CA.out _ _ _ HK2.out.below (by omega) (by omega) (by omega) (by omega)).mono ?_
        rintro e X4 ⟨⟨r8, m0, m1, rfl⟩, rfl⟩
        have hw3 := IntWalk.i64_in (g + r6 + 1) (by omega)
        have hw4 := IntWalk.i64_in (g + r6 + 1 + r8) (by omega)
        go_wp2_with fail
        go_meet
        refine ⟨g + r6 + 1 + r8, l ++ [x, y], rfl, by omega, by omega, ?_, HK2.out⟩
        rw [List.length_append]
        show l.length + 2 ≤ 3
        omega
      · go_wp2_with fail
        go_meet
        exact ⟨g, l, rfl, by omega, by omega, by omega, HK.out⟩
    case rest =>
      clear HK
      obtain ⟨g2, l2, rfl, g20, g21, hl2, hk⟩ := hcut
      obtain ⟨oa2, oc2, rfl⟩ : ∃ a c, u7 = .slice a l2.length c := own_slice (hk.row 0 rfl)
      have HK := Lib.hid hk
      clear hk
      go_wp2_with fail
      go_at_call 62
      refine (CA.out _ _ _ HK.out.below (by omega) (by omega) (by omega) (by omega)).mono ?_
      rintro e X2 ⟨⟨r9, p0, p1, rfl⟩, rfl⟩
      have hw2 := IntWalk.i64_in (g2 + r9) (by omega)
      go_wp2_with fail
      go_at_call 62
      refine (CA.out _ _ _ HK.out.below (by omega) (by omega) (by omega) (by omega)).mono ?_
      rintro e X2 ⟨⟨r10, m0, m1, rfl⟩, rfl⟩
      go_upto_if 61 with fail
      go_cut [9] from 61 to 61 (fun v9 wx => ∃ t : Int, v9 = .int .i64 t ∧ Kp [] [⟨.slice oa2 l2.length oc2, 36, 11, l2.length, l2.flatMap ruqC⟩] W wx)
      case first =>
        by_cases hr10 : 0 < r10
        · go_wp2_with fail
          go_meet
          exact ⟨_, rfl, HK.out⟩
        · go_wp2_with fail
          go_meet
          exact ⟨_, rfl, HK.out⟩
      case rest =>
        clear HK
        obtain ⟨t, rfl, hk⟩ := hcut
        have HK := Lib.hid hk
        clear hk
        go_wp2_with fail
        go_at_call 64
        refine (CP.out _ _ _ _ _ HK.out.below (by omega) (by omega)).mono ?_
        rintro e X3 ⟨⟨pv, x, y, rfl, hS⟩, hb⟩
        obtain ⟨oa3, oc3, w1, hra, hka⟩ := append_rules (HK.out.keep hb) [x, y] pv hS (show 0 < 2 by omega) (by show l2.length + 2 ≤ 1000; omega)
        have HR := Lib.hid hra
        obtain ⟨pa, pc, rfl, _, _⟩ := hS.slA
        obtain ⟨l3, hl3⟩ : ∃ l3, l2 ++ [x, y] = l3 := ⟨_, rfl⟩
        have hn3 : l2.length + 2 = l3.length := by rw [← hl3, List.length_append]; rfl
        have e3 : l2.length + [x, y].length = l3.length := hn3
        rw [hl3, e3] at hka
        have HK2 := Lib.hid hka
        have hn5 : l3.length ≤ 5 := by omega
        clear hra hka hS hb HK hl3
        go_upto_region 15 with ((at_builtin; refine wpList_append_eq rfl _ _ 22 rfl _ _ _ w1 rfl rfl HR.out ?_))
        have hpos : 0 < l3.length := by omega
        obtain ⟨gb, rfl, _, hgc, hgm, _⟩ := own_some (HK2.out.row 0 rfl) hpos
        obtain ⟨n, hn⟩ : ∃ n, l3.length = n := ⟨_, rfl⟩
        rw [hn] at HK2 hpos hn5 hgc ⊢
        have HN := Lib.hid hn
        clear hn3 HR e3 hn
        go_wp2_with fail
        go_loopw [10, 71] (fun _ i71 wr => ∃ (i : Nat) (l : List RuQ), i ≤ n ∧ i71 = .int .i64 (i : Int) ∧ l.length = n ∧ Kp [] [⟨.slice (some ⟨gb, 0, none⟩) n oc3, 36, 11, n, l.flatMap ruqC⟩] W wr) (fun _ i71 _ => n - (intOf i71).toNat)
        case atStart => exact ⟨0, l3, by omega, rfl, HN.out, HK2.out⟩
        case round =>
          clear HK2
          obtain ⟨i, l, hi', rfl, hln, hk⟩ := hrel
          have HK := Lib.hid hk
          have HLn := Lib.hid hln
          clear hk hln
          by_cases hlt : i < n
          · obtain ⟨x, hx⟩ : ∃ x, l[i]? = some x := ⟨_, List.getElem?_eq_getElem (by rw [HLn.out]; exact hlt)⟩
            have c0 := own_cell (HK.out.row 0 rfl) (ruq_at l hx 0 (by omega))
            have f0 := HK.out.free hpos (i * 11)
            rw [Nat.add_zero] at c0
            have hw1 := IntWalk.i64_in ((i : Int) + 1) (by omega)
            have KP := Lib.hid (HK.out.put hpos (i * 11) (.string s))
            have HS := Lib.hid (ruq_set l i x hx s)
            clear hx
            go_wp2_with fail
            go_roundw
            case rel =>
              have h := KP.out
              rw [HS.out] at h
              exact ⟨i + 1, _, by omega, by go_num, by rw [List.length_set]; exact HLn.out, h⟩
            case measure => simp [intOf]; omega
          · have hin : i = n := by omega
            subst hin
            go_wp2_with fail
            refine bodyPost_ret (v := .slice (some ⟨gb, 0, none⟩) i oc3) (by simp [results, Tryd.results43, go_sem]) rfl ⟨⟨_, l, rfl, by rw [HLn.out]; exact hpos, by rw [HLn.out]; exact hn5, ?_⟩, HK.out.below⟩
            rw [HLn.out]
            exact SlV.of_own (HK.out.row 0 rfl)
end Go.Proofs.YtnffecoohkanhaaDoor.Px
