/- The drafts of rule sets (chapter 17): two rules for the same years, known by the numbers of the draft alone. The drafts of rule sets (chapter 17): the rules of a set, known by the numbers of the draft alone. -/
import Derived.Test.YtnffecoohkanhaaDoorM27
import Derived.Deep.DeepCutAuto
namespace Go.Proofs.YtnffecoohkanhaaDoor.Px
open Go.RowKit
open Lk

/-- a block of its own behind a frame -/
theorem kp_new {L : List (Nat × Obj)} {W X Y : World} (h : Kp L [] W X) (hB : Below X.heap.size X Y) {b : Nat} {cs : Array Value} {T : TypeId} (hN : X.heap.size ≤ b) (hb : Y.heap[b]? = some (.cells cs T (0, 0))) : Kp ((b, .cells cs T (0, 0)) :: L) [] W Y := by
  have k := h.keep hB
  have hw := h.below.size
  refine ⟨⟨k.below, fun j b' o hj => ?_, fun p hp => ?_, List.pairwise_cons.2 ⟨fun p hp => ?_, k.known.desc⟩⟩, (fun r hr => by cases hr), (fun r hr => by cases hr), List.Pairwise.nil⟩
  · cases j with
    | zero =>
      simp only [List.getElem?_cons_zero, Option.some.injEq, Prod.mk.injEq] at hj
      obtain ⟨rfl, rfl⟩ := hj
      exact hb
    | succ j => exact k.at j (by simpa using hj)
  · rcases List.mem_cons.1 hp with rfl | hp
    · show W.heap.size ≤ b
      omega
    · exact k.known.own p hp
  · obtain ⟨j, hj⟩ := List.getElem?_of_mem hp
    have := h.lt j (b := p.1) (o := p.2) hj
    show p.1 ≠ b
    omega
/-- eleven cells written one behind the other -/
theorem kp_rule {L : List (Nat × Obj)} {W X : World} {b : Nat} {T : TypeId} {a0 a1 a2 a3 a4 a5 a6 a7 a8 a9 a10 : Value} (u0 u1 u2 u3 u4 u5 u6 u7 u8 u9 u10 : Value) (h : Kp ((b, .cells #[a0, a1, a2, a3, a4, a5, a6, a7, a8, a9, a10] T (0, 0)) :: L) [] W X) : Kp ((b, .cells #[u0, u1, u2, u3, u4, u5, u6, u7, u8, u9, u10] T (0, 0)) :: L) [] W (((((((((((X.setCell ⟨b, 0, none⟩ u0).setCell ⟨b, 1, none⟩ u1).setCell ⟨b, 2, none⟩ u2).setCell ⟨b, 3, none⟩ u3).setCell ⟨b, 4, none⟩ u4).setCell ⟨b, 5, none⟩ u5).setCell ⟨b, 6, none⟩ u6).setCell ⟨b, 7, none⟩ u7).setCell ⟨b, 8, none⟩ u8).setCell ⟨b, 9, none⟩ u9).setCell ⟨b, 10, none⟩ u10) := by
  have k0 : Kp ((b, .cells #[u0, a1, a2, a3, a4, a5, a6, a7, a8, a9, a10] T (0, 0)) :: L) [] W _ := h.set 0 rfl 0 u0 rfl
  have k1 : Kp ((b, .cells #[u0, u1, a2, a3, a4, a5, a6, a7, a8, a9, a10] T (0, 0)) :: L) [] W _ := k0.set 0 rfl 1 u1 rfl
  have k2 : Kp ((b, .cells #[u0, u1, u2, a3, a4, a5, a6, a7, a8, a9, a10] T (0, 0)) :: L) [] W _ := k1.set 0 rfl 2 u2 rfl
  have k3 : Kp ((b, .cells #[u0, u1, u2, u3, a4, a5, a6, a7, a8, a9, a10] T (0, 0)) :: L) [] W _ := k2.set 0 rfl 3 u3 rfl
  have k4 : Kp ((b, .cells #[u0, u1, u2, u3, u4, a5, a6, a7, a8, a9, a10] T (0, 0)) :: L) [] W _ := k3.set 0 rfl 4 u4 rfl
  have k5 : Kp ((b, .cells #[u0, u1, u2, u3, u4, u5, a6, a7, a8, a9, a10] T (0, 0)) :: L) [] W _ := k4.set 0 rfl 5 u5 rfl
  have k6 : Kp ((b, .cells #[u0, u1, u2, u3, u4, u5, u6, a7, a8, a9, a10] T (0, 0)) :: L) [] W _ := k5.set 0 rfl 6 u6 rfl
  have k7 : Kp ((b, .cells #[u0, u1, u2, u3, u4, u5, u6, u7, a8, a9, a10] T (0, 0)) :: L) [] W _ := k6.set 0 rfl 7 u7 rfl
  have k8 : Kp ((b, .cells #[u0, u1, u2, u3, u4, u5, u6, u7, u8, a9, a10] T (0, 0)) :: L) [] W _ := k7.set 0 rfl 8 u8 rfl
  have k9 : Kp ((b, .cells #[u0, u1, u2, u3, u4, u5, u6, u7, u8, u9, a10] T (0, 0)) :: L) [] W _ := k8.set 0 rfl 9 u9 rfl
  have k10 : Kp ((b, .cells #[u0, u1, u2, u3, u4, u5, u6, u7, u8, u9, u10] T (0, 0)) :: L) [] W _ := k9.set 0 rfl 10 u10 rfl
  exact k10
set_option maxHeartbeats 4000000 in
set_option maxRecDepth 100000 in
theorem pair17_any (L : List Nat) (i fr tt sv : Int) (hx0 : 0 ≤ i) (hx1 : i ≤ 800) : ∃ x y : RuQ, ∀ (dv : Value) (W : World), D17 W dv L →
    Calls Tryd.prog 64 #[dv, .int .i64 i, .int .i64 fr, .int .i64 tt, .int .i64 sv] W fun e w' => (∃ v : Value, e = .returned v ∧ SlV w' v 11 2 ([x, y].flatMap ruqC)) ∧ Below W.heap.size W w' := by
  have hent : ∀ args w, (callFunc 76 args).run Tryd.prog w = .ok (.enter 76 args) w := enters_of Tryd.func76 (by kernel_rfl) rfl
  obtain ⟨i1, hi1⟩ : ∃ y, i + 1 = y := ⟨_, rfl⟩
  have hiw1 : IntKind.i64.wrap i1 = i1 := IntWalk.i64_in _ (by omega)
  obtain ⟨i2, hi2⟩ : ∃ y, i + 2 = y := ⟨_, rfl⟩
  have hiw2 : IntKind.i64.wrap i2 = i2 := IntWalk.i64_in _ (by omega)
  obtain ⟨i3, hi3⟩ : ∃ y, i + 3 = y := ⟨_, rfl⟩
  have hiw3 : IntKind.i64.wrap i3 = i3 := IntWalk.i64_in _ (by omega)
  obtain ⟨i6, hi6⟩ : ∃ y, i + 6 = y := ⟨_, rfl⟩
  have hiw6 : IntKind.i64.wrap i6 = i6 := IntWalk.i64_in _ (by omega)
  obtain ⟨i8, hi8⟩ : ∃ y, i + 8 = y := ⟨_, rfl⟩
  have hiw8 : IntKind.i64.wrap i8 = i8 := IntWalk.i64_in _ (by omega)
  obtain ⟨i9, hi9⟩ : ∃ y, i + 9 = y := ⟨_, rfl⟩
  have hiw9 : IntKind.i64.wrap i9 = i9 := IntWalk.i64_in _ (by omega)
  obtain ⟨i12, hi12⟩ : ∃ y, i + 12 = y := ⟨_, rfl⟩
  have hiw12 : IntKind.i64.wrap i12 = i12 := IntWalk.i64_in _ (by omega)
  obtain ⟨i14, hi14⟩ : ∃ y, i + 14 = y := ⟨_, rfl⟩
  have hiw14 : IntKind.i64.wrap i14 = i14 := IntWalk.i64_in _ (by omega)
  have hxaL := at17v_le L i 3 (by omega)
  obtain ⟨xa, hxa⟩ : ∃ y, at17v L i 3 = y := ⟨_, rfl⟩
  rw [hxa] at hxaL
  obtain ⟨xm, hxm⟩ : ∃ y, 2 + xa = y := ⟨_, rfl⟩
  have hxmW : IntKind.i64.wrap xm = xm := IntWalk.i64_in _ (by omega)
  obtain ⟨xd, hxd⟩ : ∃ y, (dayX L i3).1 = y := ⟨_, rfl⟩
  obtain ⟨xe, hxe⟩ : ∃ y, (dayX L i3).2.1 = y := ⟨_, rfl⟩
  obtain ⟨xf, hxf⟩ : ∃ y, (dayX L i3).2.2 = y := ⟨_, rfl⟩
  obtain ⟨xk, hxk⟩ : ∃ y, at17v L i6 49 * 1800 = y := ⟨_, rfl⟩
  obtain ⟨xl, hxl⟩ : ∃ y, at17v L (i6 + 1) 3 = y := ⟨_, rfl⟩
  have hxcL := at17v_le L i8 3 (by omega)
  obtain ⟨xc, hxc⟩ : ∃ y, at17v L i8 3 = y := ⟨_, rfl⟩
  rw [hxc] at hxcL
  obtain ⟨xs, hxs⟩ : ∃ s : ByteArray, (if xc = 0 then ⟨#[83]⟩ else (if xc = 1 then ⟨#[68]⟩ else ⟨#[68, 84]⟩)) = s := ⟨_, rfl⟩
  have Hxs := Lib.hid (show (xc = 0 → ⟨#[83]⟩ = xs) ∧ (xc = 1 → ⟨#[68]⟩ = xs) ∧ (xc = 2 → ⟨#[68, 84]⟩ = xs) from by
    rw [← hxs]
    refine ⟨fun e => ?_, fun e => ?_, fun e => ?_⟩ <;> (subst e; rfl))
  clear hxs
  have hyaL := at17v_le L i1 3 (by omega)
  obtain ⟨ya, hya⟩ : ∃ y, at17v L i1 3 = y := ⟨_, rfl⟩
  rw [hya] at hyaL
  obtain ⟨ym, hym⟩ : ∃ y, 8 + ya = y := ⟨_, rfl⟩
  have hymW : IntKind.i64.wrap ym = ym := IntWalk.i64_in _ (by omega)
  obtain ⟨yd, hyd⟩ : ∃ y, (dayX L i9).1 = y := ⟨_, rfl⟩
  obtain ⟨ye, hye⟩ : ∃ y, (dayX L i9).2.1 = y := ⟨_, rfl⟩
  obtain ⟨yf, hyf⟩ : ∃ y, (dayX L i9).2.2 = y := ⟨_, rfl⟩
  obtain ⟨yk, hyk⟩ : ∃ y, at17v L i12 49 * 1800 = y := ⟨_, rfl⟩
  obtain ⟨yl, hyl⟩ : ∃ y, at17v L (i12 + 1) 3 = y := ⟨_, rfl⟩
  have hycL := at17v_le L i14 2 (by omega)
  obtain ⟨yc, hyc⟩ : ∃ y, at17v L i14 2 = y := ⟨_, rfl⟩
  rw [hyc] at hycL
  obtain ⟨ys, hys⟩ : ∃ s : ByteArray, (if yc = 0 then ⟨#[]⟩ else ⟨#[83]⟩) = s := ⟨_, rfl⟩
  have Hys := Lib.hid (show (yc = 0 → ⟨#[]⟩ = ys) ∧ (yc = 1 → ⟨#[83]⟩ = ys) from by
    rw [← hys]
    refine ⟨fun e => ?_, fun e => ?_⟩ <;> (subst e; rfl))
  clear hys
  obtain ⟨sw, hsw⟩ : ∃ y, at17v L i2 4 = y := ⟨_, rfl⟩
  obtain ⟨x9, hx9⟩ : ∃ y, (if sw = 0 then 0 else sv) = y := ⟨_, rfl⟩
  obtain ⟨y9, hy9⟩ : ∃ y, (if sw = 0 then sv else 0) = y := ⟨_, rfl⟩
  have Hw := Lib.hid (show (sw = 0 → x9 = 0) ∧ (sw = 0 → y9 = sv) ∧ (¬ sw = 0 → x9 = sv) ∧ (¬ sw = 0 → y9 = 0) from by
    rw [← hx9, ← hy9]
    exact ⟨fun e => if_pos e, fun e => if_pos e, fun e => if_neg e, fun e => if_neg e⟩)
  clear hx9 hy9
  refine ⟨⟨⟨#[]⟩, fr, tt, xm, xd, xe, xf, xk, xl, x9, xs⟩, ⟨⟨#[]⟩, fr, tt, ym, yd, ye, yf, yk, yl, y9, ys⟩, fun dv W h => ?_⟩
  have Cxa := Lib.hid (fun (Y : World) (hB : Below W.heap.size W Y) => at17_any L dv i 3 Y (h.keep hB) (by omega) (by omega) (by omega) (by omega))
  rw [hxa] at Cxa
  have Cxd := Lib.hid (fun (Y : World) (hB : Below W.heap.size W Y) (hc : Y.cell? ⟨W.heap.size, 0, none⟩ = some dv) => pairDay_any L dv i3 W.heap.size Y (h.keep hB) hc (by omega) (by omega))
  rw [hxd, hxe, hxf] at Cxd
  have Cxk := Lib.hid (fun (Y : World) (hB : Below W.heap.size W Y) => clock17_any L dv i6 Y (h.keep hB) (by omega) (by omega))
  rw [hxk, hxl] at Cxk
  have Cxc := Lib.hid (fun (Y : World) (hB : Below W.heap.size W Y) => at17_any L dv i8 3 Y (h.keep hB) (by omega) (by omega) (by omega) (by omega))
  rw [hxc] at Cxc
  have Cya := Lib.hid (fun (Y : World) (hB : Below W.heap.size W Y) => at17_any L dv i1 3 Y (h.keep hB) (by omega) (by omega) (by omega) (by omega))
  rw [hya] at Cya
  have Cyd := Lib.hid (fun (Y : World) (hB : Below W.heap.size W Y) (hc : Y.cell? ⟨W.heap.size, 0, none⟩ = some dv) => pairDay_any L dv i9 W.heap.size Y (h.keep hB) hc (by omega) (by omega))
  rw [hyd, hye, hyf] at Cyd
  have Cyk := Lib.hid (fun (Y : World) (hB : Below W.heap.size W Y) => clock17_any L dv i12 Y (h.keep hB) (by omega) (by omega))
  rw [hyk, hyl] at Cyk
  have Cyc := Lib.hid (fun (Y : World) (hB : Below W.heap.size W Y) => at17_any L dv i14 2 Y (h.keep hB) (by omega) (by omega) (by omega) (by omega))
  rw [hyc] at Cyc
  have Cw := Lib.hid (fun (Y : World) (hB : Below W.heap.size W Y) => at17_any L dv i2 4 Y (h.keep hB) (by omega) (by omega) (by omega) (by omega))
  rw [hsw] at Cw
  clear hxa hxd hxe hxf hxk hxl hxc hya hyd hye hyf hyk hyl hyc hsw
  obtain ⟨da, dn, dc, rfl⟩ : ∃ a n c, dv = .slice a n c := by obtain ⟨a, c, e, _, _⟩ := h.sl.slA; exact ⟨_, _, _, e⟩
  have K0 := Lib.hid ((Kp.start W).allocAt W.heap.size rfl (.cells #[.slice da dn dc] 90))
  clear h
  go_enter Tryd.func64, Tryd.ntmps64
  go_upto_region 2 with fail
  obtain ⟨X, hX⟩ : ∃ X, W.alloc (.cells #[.slice da dn dc] 90) = X := ⟨_, rfl⟩
  rw [hX] at K0
  rw [hX]
  clear hX
  obtain ⟨p0, hp0⟩ : ∃ p, W.heap.size = p := ⟨_, rfl⟩
  rw [hp0] at K0 Cxd Cyd
  have HP := Lib.hid hp0
  simp only [hp0]
  have HB1 := Lib.hid K0.out.below
  have HS1 := Lib.hid HB1.out.size
  rw [hp0] at HB1 HS1 Cxa Cxk Cxc Cya Cyk Cyc Cw
  clear hp0
  have KC := Lib.hid (fun (Y : World) (hB : Below X.heap.size X Y) => cells_at ((K0.out.keep hB).at 0 rfl) 0)
  refine Py.wp_region_steps_tail 24 (by kernel_rfl) (by kernel_rfl) (by kernel_rfl) (krS X.heap.size [.eq (.int .i64 fr), .eq (.int .i64 tt), .eq (.slice da dn dc), .eq (.int .i64 i), .eq (.int .i64 xa), .eq (.int .i64 xm), .eq (.func (.func 76) #[] #[.pointer (some ⟨p0, 0, none⟩)]), .eq (.int .i64 i), .eq (.int .i64 i3), .eq (.agg #[.int .i64 xd, .int .i64 xe, .int .i64 xf]), .eq (.slice da dn dc), .eq (.int .i64 i), .eq (.int .i64 i6), .eq (.agg #[.int .i64 xk, .int .i64 xl]), .eq (.int .i64 sv), .strs [⟨#[83]⟩, ⟨#[68]⟩, ⟨#[68, 84]⟩], .eq (.slice da dn dc), .eq (.int .i64 i), .eq (.int .i64 i8), .eq (.int .i64 xc), .sptr xs, .eq (.string xs), .eq (.agg #[.string ⟨#[]⟩, .int .i64 fr, .int .i64 tt, .int .i64 xm, .int .i64 xd, .int .i64 xe, .int .i64 xf, .int .i64 xk, .int .i64 xl, .int .i64 sv, .string xs])] 15 12) (by kernel_rfl) (fun d w w' v h hB => krS_keep h hB) ?steps ?hend
  case steps =>
      refine Py.steps_cons 15 rfl ?_ ?_
      · intro T D' w hB0 hold hdep K hK0
        have hK := Lib.hid hK0
        have h2 : T[2]?.getD undef = .int .i64 fr := hold 2 rfl
        clear hold hdep hK0
        go_simp
        exact hK.out _ _ (Below.refl _ _) rfl
      refine Py.steps_cons 16 rfl ?_ ?_
      · intro T D' w hB0 hold hdep K hK0
        have hK := Lib.hid hK0
        have h3 : T[3]?.getD undef = .int .i64 tt := hold 3 rfl
        clear hold hdep hK0
        go_simp
        exact hK.out _ _ (Below.refl _ _) rfl
      refine Py.steps_cons 17 rfl ?_ ?_
      · intro T D' w hB0 hold hdep K hK0
        have hK := Lib.hid hK0
        have h5 : T[5]?.getD undef = .pointer (some ⟨p0, 0, none⟩) := hold 5 rfl
        clear hold hdep hK0
        have c0 := KC.out _ hB0
        go_simp
        exact hK.out _ _ (Below.refl _ _) rfl
      refine Py.steps_cons 18 rfl ?_ ?_
      · intro T D' w hB0 hold hdep K hK0
        have hK := Lib.hid hK0
        have h1 : T[1]?.getD undef = .int .i64 i := hold 1 rfl
        clear hold hdep hK0
        go_simp
        exact hK.out _ _ (Below.refl _ _) rfl
      refine Py.steps_cons 19 rfl ?_ ?_
      · intro T D' w hB0 hold hdep K hK0
        have hK := Lib.hid hK0
        have q17 : T[17]?.getD undef = .slice da dn dc := Py.dep hdep 2 (by kernel_rfl) rfl rfl
        have q18 : T[18]?.getD undef = .int .i64 i := Py.dep hdep 3 (by kernel_rfl) rfl rfl
        clear hold hdep hK0
        go_simp
        refine (Cxa.out w (HB1.out.trans (hB0.mono HS1.out))).mono ?_
        rintro _ V ⟨rfl, rfl⟩
        exact hK.out _ _ (Below.refl _ _) rfl
      refine Py.steps_cons 20 rfl ?_ ?_
      · intro T D' w hB0 hold hdep K hK0
        have hK := Lib.hid hK0
        have q19 : T[19]?.getD undef = .int .i64 xa := Py.dep hdep 4 (by kernel_rfl) rfl rfl
        clear hold hdep hK0
        go_simp
        exact hK.out _ _ (Below.refl _ _) rfl
      refine Py.steps_cons 21 rfl ?_ ?_
      · intro T D' w hB0 hold hdep K hK0
        have hK := Lib.hid hK0
        have h11 : T[11]?.getD undef = .func (.func 76) #[] #[.pointer (some ⟨p0, 0, none⟩)] := hold 11 rfl
        clear hold hdep hK0
        go_simp
        exact hK.out _ _ (Below.refl _ _) rfl
      refine Py.steps_cons 22 rfl ?_ ?_
      · intro T D' w hB0 hold hdep K hK0
        have hK := Lib.hid hK0
        have h1 : T[1]?.getD undef = .int .i64 i := hold 1 rfl
        clear hold hdep hK0
        go_simp
        exact hK.out _ _ (Below.refl _ _) rfl
      refine Py.steps_cons 23 rfl ?_ ?_
      · intro T D' w hB0 hold hdep K hK0
        have hK := Lib.hid hK0
        have q22 : T[22]?.getD undef = .int .i64 i := Py.dep hdep 7 (by kernel_rfl) rfl rfl
        clear hold hdep hK0
        go_simp
        exact hK.out _ _ (Below.refl _ _) rfl
      refine Py.steps_cons 24 rfl ?_ ?_
      · intro T D' w hB0 hold hdep K hK0
        have hK := Lib.hid hK0
        have q21 : T[21]?.getD undef = .func (.func 76) #[] #[.pointer (some ⟨p0, 0, none⟩)] := Py.dep hdep 6 (by kernel_rfl) rfl rfl
        have q23 : T[23]?.getD undef = .int .i64 i3 := Py.dep hdep 8 (by kernel_rfl) rfl rfl
        clear hold hdep hK0
        go_simp
        try go_at_call 76
        refine (Cxd.out w (HB1.out.trans (hB0.mono HS1.out)) (KC.out _ hB0)).mono ?_
        rintro _ V ⟨rfl, hb⟩
        exact hK.out _ _ hb rfl
      refine Py.steps_cons 25 rfl ?_ ?_
      · intro T D' w hB0 hold hdep K hK0
        have hK := Lib.hid hK0
        have h5 : T[5]?.getD undef = .pointer (some ⟨p0, 0, none⟩) := hold 5 rfl
        clear hold hdep hK0
        have c0 := KC.out _ hB0
        go_simp
        exact hK.out _ _ (Below.refl _ _) rfl
      refine Py.steps_cons 26 rfl ?_ ?_
      · intro T D' w hB0 hold hdep K hK0
        have hK := Lib.hid hK0
        have h1 : T[1]?.getD undef = .int .i64 i := hold 1 rfl
        clear hold hdep hK0
        go_simp
        exact hK.out _ _ (Below.refl _ _) rfl
      refine Py.steps_cons 27 rfl ?_ ?_
      · intro T D' w hB0 hold hdep K hK0
        have hK := Lib.hid hK0
        have q26 : T[26]?.getD undef = .int .i64 i := Py.dep hdep 11 (by kernel_rfl) rfl rfl
        clear hold hdep hK0
        go_simp
        exact hK.out _ _ (Below.refl _ _) rfl
      refine Py.steps_cons 28 rfl ?_ ?_
      · intro T D' w hB0 hold hdep K hK0
        have hK := Lib.hid hK0
        have q25 : T[25]?.getD undef = .slice da dn dc := Py.dep hdep 10 (by kernel_rfl) rfl rfl
        have q27 : T[27]?.getD undef = .int .i64 i6 := Py.dep hdep 12 (by kernel_rfl) rfl rfl
        clear hold hdep hK0
        go_simp
        refine (Cxk.out w (HB1.out.trans (hB0.mono HS1.out))).mono ?_
        rintro _ V ⟨rfl, hb⟩
        exact hK.out _ _ hb rfl
      refine Py.steps_cons 29 rfl ?_ ?_
      · intro T D' w hB0 hold hdep K hK0
        have hK := Lib.hid hK0
        have h4 : T[4]?.getD undef = .int .i64 sv := hold 4 rfl
        clear hold hdep hK0
        go_simp
        exact hK.out _ _ (Below.refl _ _) rfl
      refine Py.steps_cons 30 rfl ?_ ?_
      · intro T D' w hB0 hold hdep K hK0
        have hK := Lib.hid hK0
        clear hold hdep hK0
        go_simp
        exact hK.out _ _ ((Below.refl _ w).alloc (Nat.le_refl _) _) ⟨_, rfl, ((Kp.start w).alloc _).at 0 rfl⟩
      refine Py.steps_cons 31 rfl ?_ ?_
      · intro T D' w hB0 hold hdep K hK0
        have hK := Lib.hid hK0
        have h5 : T[5]?.getD undef = .pointer (some ⟨p0, 0, none⟩) := hold 5 rfl
        clear hold hdep hK0
        have c0 := KC.out _ hB0
        go_simp
        exact hK.out _ _ (Below.refl _ _) rfl
      refine Py.steps_cons 32 rfl ?_ ?_
      · intro T D' w hB0 hold hdep K hK0
        have hK := Lib.hid hK0
        have h1 : T[1]?.getD undef = .int .i64 i := hold 1 rfl
        clear hold hdep hK0
        go_simp
        exact hK.out _ _ (Below.refl _ _) rfl
      refine Py.steps_cons 33 rfl ?_ ?_
      · intro T D' w hB0 hold hdep K hK0
        have hK := Lib.hid hK0
        have q32 : T[32]?.getD undef = .int .i64 i := Py.dep hdep 17 (by kernel_rfl) rfl rfl
        clear hold hdep hK0
        go_simp
        exact hK.out _ _ (Below.refl _ _) rfl
      refine Py.steps_cons 34 rfl ?_ ?_
      · intro T D' w hB0 hold hdep K hK0
        have hK := Lib.hid hK0
        have q31 : T[31]?.getD undef = .slice da dn dc := Py.dep hdep 16 (by kernel_rfl) rfl rfl
        have q33 : T[33]?.getD undef = .int .i64 i8 := Py.dep hdep 18 (by kernel_rfl) rfl rfl
        clear hold hdep hK0
        go_simp
        refine (Cxc.out w (HB1.out.trans (hB0.mono HS1.out))).mono ?_
        rintro _ V ⟨rfl, rfl⟩
        exact hK.out _ _ (Below.refl _ _) rfl
      refine Py.steps_cons 35 rfl ?_ ?_
      · intro T D' w hB0 hold hdep K hK0
        have hK := Lib.hid hK0
        have q30 : Kr.S (.strs [⟨#[83]⟩, ⟨#[68]⟩, ⟨#[68, 84]⟩]) w (T[30]?.getD undef) := Py.dep hdep 15 (by kernel_rfl) rfl rfl
        have q34 : T[34]?.getD undef = .int .i64 xc := Py.dep hdep 19 (by kernel_rfl) rfl rfl
        clear hold hdep hK0
        obtain ⟨bd, e30, hb⟩ := q30
        replace e30 : T[30]?.getD undef = .slice (some ⟨bd, 0, none⟩) 3 3 := e30
        have hlt := lt_of_block hb
        have HC := fun i => cells_at hb i
        have r3 : xc = 0 ∨ xc = 1 ∨ xc = 2 := by omega
        rcases r3 with rfl | rfl | rfl
        · have es := Hxs.out.1 rfl; subst es; go_simp; exact hK.out _ _ (Below.refl _ _) ⟨bd, 0, rfl, hlt, HC 0⟩
        · have es := Hxs.out.2.1 rfl; subst es; go_simp; exact hK.out _ _ (Below.refl _ _) ⟨bd, 1, rfl, hlt, HC 1⟩
        · have es := Hxs.out.2.2 rfl; subst es; go_simp; exact hK.out _ _ (Below.refl _ _) ⟨bd, 2, rfl, hlt, HC 2⟩
      refine Py.steps_cons 36 rfl ?_ ?_
      · intro T D' w hB0 hold hdep K hK0
        have hK := Lib.hid hK0
        have q35 : Kr.S (.sptr xs) w (T[35]?.getD undef) := Py.dep hdep 20 (by kernel_rfl) rfl rfl
        clear hold hdep hK0
        obtain ⟨bd, o, e35, hlt, c0⟩ := q35
        go_simp
        exact hK.out _ _ (Below.refl _ _) rfl
      refine Py.steps_cons 37 rfl ?_ ?_
      · intro T D' w hB0 hold hdep K hK0
        have hK := Lib.hid hK0
        have q15 : T[15]?.getD undef = .int .i64 fr := Py.dep hdep 0 (by kernel_rfl) rfl rfl
        have q16 : T[16]?.getD undef = .int .i64 tt := Py.dep hdep 1 (by kernel_rfl) rfl rfl
        have q20 : T[20]?.getD undef = .int .i64 xm := Py.dep hdep 5 (by kernel_rfl) rfl rfl
        have q24 : T[24]?.getD undef = .agg #[.int .i64 xd, .int .i64 xe, .int .i64 xf] := Py.dep hdep 9 (by kernel_rfl) rfl rfl
        have q28 : T[28]?.getD undef = .agg #[.int .i64 xk, .int .i64 xl] := Py.dep hdep 13 (by kernel_rfl) rfl rfl
        have q29 : T[29]?.getD undef = .int .i64 sv := Py.dep hdep 14 (by kernel_rfl) rfl rfl
        have q36 : T[36]?.getD undef = .string xs := Py.dep hdep 21 (by kernel_rfl) rfl rfl
        clear hold hdep hK0
        go_simp
        exact hK.out _ _ (Below.refl _ _) rfl
      refine Py.steps_cons 12 rfl ?_ ?_
      · intro T D' w hB0 hold hdep K hK0
        have hK := Lib.hid hK0
        clear hold hdep hK0
        have hw := hB0.size
        go_simp
        exact hK.out _ _ ((Below.refl _ w).alloc (Nat.le_refl _) _) ⟨w.heap.size, hw, rfl, ((Kp.start w).alloc _).at 0 rfl⟩
      exact Py.steps_nil
  case hend =>
    intro T2 w2 hsz hB0 hold hS
    have g0 : T2[0]?.getD undef = .slice da dn dc := hold 0 rfl
    have g1 : T2[1]?.getD undef = .int .i64 i := hold 1 rfl
    have g2 : T2[2]?.getD undef = .int .i64 fr := hold 2 rfl
    have g3 : T2[3]?.getD undef = .int .i64 tt := hold 3 rfl
    have g4 : T2[4]?.getD undef = .int .i64 sv := hold 4 rfl
    have g5 : T2[5]?.getD undef = .pointer (some ⟨p0, 0, none⟩) := hold 5 rfl
    have g11 : T2[11]?.getD undef = .func (.func 76) #[] #[.pointer (some ⟨p0, 0, none⟩)] := hold 11 rfl
    have eR : T2[37]?.getD undef = .agg #[.string ⟨#[]⟩, .int .i64 fr, .int .i64 tt, .int .i64 xm, .int .i64 xd, .int .i64 xe, .int .i64 xf, .int .i64 xk, .int .i64 xl, .int .i64 sv, .string xs] := hS 37 (by rfl)
    have qN : Kr.S (.new _) w2 (T2[12]?.getD undef) := hS 12 (by rfl)
    obtain ⟨b1, hNb1, eN, hbb1⟩ := qN
    have KN := Lib.hid (kp_new K0.out hB0 hNb1 hbb1)
    obtain ⟨G2, hG⟩ : ∃ G : Nat → Value, ∀ t, T2[t]?.getD undef = G t := ⟨_, fun _ => rfl⟩
    have e := Py.tmps_lit T2 75 hsz
    simp only [hG] at e
    have e' : T2 = #[G2 0, G2 1, G2 2, G2 3, G2 4, G2 5, G2 6, G2 7, G2 8, G2 9, G2 10, G2 11, G2 12, G2 13, G2 14, G2 15, G2 16, G2 17, G2 18, G2 19, G2 20, G2 21, G2 22, G2 23, G2 24, G2 25, G2 26, G2 27, G2 28, G2 29, G2 30, G2 31, G2 32, G2 33, G2 34, G2 35, G2 36, G2 37, G2 38, G2 39, G2 40, G2 41, G2 42, G2 43, G2 44, G2 45, G2 46, G2 47, G2 48, G2 49, G2 50, G2 51, G2 52, G2 53, G2 54, G2 55, G2 56, G2 57, G2 58, G2 59, G2 60, G2 61, G2 62, G2 63, G2 64, G2 65, G2 66, G2 67, G2 68, G2 69, G2 70, G2 71, G2 72, G2 73, G2 74] := e.trans rfl
    rw [hG] at eR eN
    simp only [hG] at g0 g1 g2 g3 g4 g5 g11
    clear hold hS e hG hsz hbb1
    rw [e', eR, eN, g0, g1, g2, g3, g4, g5, g11]
    clear e' eR eN g0 g1 g2 g3 g4 g5 g11
    simp only [List.drop_succ_cons, List.drop_zero, Py.TailWp]
    obtain ⟨z0, z1, z2, z3, z4, z5, z6, z7, z8, z9, z10⟩ := row11 (KN.out.at 0 rfl)
    have hfr := fun k => free_at (KN.out.at 0 rfl) k
    obtain ⟨f0, f1, f2, f3, f4, f5, f6, f7, f8, f9, f10⟩ := And.intro (hfr 0) (And.intro (hfr 1) (And.intro (hfr 2) (And.intro (hfr 3) (And.intro (hfr 4) (And.intro (hfr 5) (And.intro (hfr 6) (And.intro (hfr 7) (And.intro (hfr 8) (And.intro (hfr 9) (hfr 10))))))))))
    clear hfr
    obtain ⟨X1, hX1, K1⟩ : ∃ Y, (((((((((((w2.setCell ⟨b1, 0, none⟩ (.string ⟨#[]⟩)).setCell ⟨b1, 1, none⟩ (.int .i64 fr)).setCell ⟨b1, 2, none⟩ (.int .i64 tt)).setCell ⟨b1, 3, none⟩ (.int .i64 xm)).setCell ⟨b1, 4, none⟩ (.int .i64 xd)).setCell ⟨b1, 5, none⟩ (.int .i64 xe)).setCell ⟨b1, 6, none⟩ (.int .i64 xf)).setCell ⟨b1, 7, none⟩ (.int .i64 xk)).setCell ⟨b1, 8, none⟩ (.int .i64 xl)).setCell ⟨b1, 9, none⟩ (.int .i64 sv)).setCell ⟨b1, 10, none⟩ (.string xs)) = Y ∧ Kp [(b1, .cells #[.string ⟨#[]⟩, .int .i64 fr, .int .i64 tt, .int .i64 xm, .int .i64 xd, .int .i64 xe, .int .i64 xf, .int .i64 xk, .int .i64 xl, .int .i64 sv, .string xs] 36), (p0, .cells #[.slice da dn dc] 90)] [] W Y := ⟨_, rfl, kp_rule (.string ⟨#[]⟩) (.int .i64 fr) (.int .i64 tt) (.int .i64 xm) (.int .i64 xd) (.int .i64 xe) (.int .i64 xf) (.int .i64 xk) (.int .i64 xl) (.int .i64 sv) (.string xs) KN.out⟩
    replace K1 := Lib.hid K1
    go_simp
    clear z0 f0 z1 f1 z2 f2 z3 f3 z4 f4 z5 f5 z6 f6 z7 f7 z8 f8 z9 f9 z10 f10
    go_upto_region 3 with fail
    try rw [hX1]
    clear hX1 KN
    have HB2 := Lib.hid K1.out.below
    have HS2 := Lib.hid HB2.out.size
    rw [HP.out] at HB2 HS2
    replace KC := Lib.hid (fun (Y : World) (hB : Below X1.heap.size X1 Y) => cells_at ((K1.out.keep hB).at 1 rfl) 0)
    refine Py.wp_region_steps_tail 24 (by kernel_rfl) (by kernel_rfl) (by kernel_rfl) (krS X1.heap.size [.eq (.int .i64 fr), .eq (.int .i64 tt), .eq (.slice da dn dc), .eq (.int .i64 i), .eq (.int .i64 i1), .eq (.int .i64 ya), .eq (.int .i64 ym), .eq (.func (.func 76) #[] #[.pointer (some ⟨p0, 0, none⟩)]), .eq (.int .i64 i), .eq (.int .i64 i9), .eq (.agg #[.int .i64 yd, .int .i64 ye, .int .i64 yf]), .eq (.slice da dn dc), .eq (.int .i64 i), .eq (.int .i64 i12), .eq (.agg #[.int .i64 yk, .int .i64 yl]), .strs [⟨#[]⟩, ⟨#[83]⟩], .eq (.slice da dn dc), .eq (.int .i64 i), .eq (.int .i64 i14), .eq (.int .i64 yc), .sptr ys, .eq (.string ys), .eq (.agg #[.string ⟨#[]⟩, .int .i64 fr, .int .i64 tt, .int .i64 ym, .int .i64 yd, .int .i64 ye, .int .i64 yf, .int .i64 yk, .int .i64 yl, .int .i64 0, .string ys])] 38 13) (by kernel_rfl) (fun d w w' v h hB => krS_keep h hB) ?steps3 ?hend3
    case steps3 =>
        refine Py.steps_cons 38 rfl ?_ ?_
        · intro T D' w hB0 hold hdep K hK0
          have hK := Lib.hid hK0
          have h2 : T[2]?.getD undef = .int .i64 fr := hold 2 rfl
          clear hold hdep hK0
          go_simp
          exact hK.out _ _ (Below.refl _ _) rfl
        refine Py.steps_cons 39 rfl ?_ ?_
        · intro T D' w hB0 hold hdep K hK0
          have hK := Lib.hid hK0
          have h3 : T[3]?.getD undef = .int .i64 tt := hold 3 rfl
          clear hold hdep hK0
          go_simp
          exact hK.out _ _ (Below.refl _ _) rfl
        refine Py.steps_cons 40 rfl ?_ ?_
        · intro T D' w hB0 hold hdep K hK0
          have hK := Lib.hid hK0
          have h5 : T[5]?.getD undef = .pointer (some ⟨p0, 0, none⟩) := hold 5 rfl
          clear hold hdep hK0
          have c0 := KC.out _ hB0
          go_simp
          exact hK.out _ _ (Below.refl _ _) rfl
        refine Py.steps_cons 41 rfl ?_ ?_
        · intro T D' w hB0 hold hdep K hK0
          have hK := Lib.hid hK0
          have h1 : T[1]?.getD undef = .int .i64 i := hold 1 rfl
          clear hold hdep hK0
          go_simp
          exact hK.out _ _ (Below.refl _ _) rfl
        refine Py.steps_cons 42 rfl ?_ ?_
        · intro T D' w hB0 hold hdep K hK0
          have hK := Lib.hid hK0
          have q41 : T[41]?.getD undef = .int .i64 i := Py.dep hdep 3 (by kernel_rfl) rfl rfl
          clear hold hdep hK0
          go_simp
          exact hK.out _ _ (Below.refl _ _) rfl
        refine Py.steps_cons 43 rfl ?_ ?_
        · intro T D' w hB0 hold hdep K hK0
          have hK := Lib.hid hK0
          have q40 : T[40]?.getD undef = .slice da dn dc := Py.dep hdep 2 (by kernel_rfl) rfl rfl
          have q42 : T[42]?.getD undef = .int .i64 i1 := Py.dep hdep 4 (by kernel_rfl) rfl rfl
          clear hold hdep hK0
          go_simp
          refine (Cya.out w (HB2.out.trans (hB0.mono HS2.out))).mono ?_
          rintro _ V ⟨rfl, rfl⟩
          exact hK.out _ _ (Below.refl _ _) rfl
        refine Py.steps_cons 44 rfl ?_ ?_
        · intro T D' w hB0 hold hdep K hK0
          have hK := Lib.hid hK0
          have q43 : T[43]?.getD undef = .int .i64 ya := Py.dep hdep 5 (by kernel_rfl) rfl rfl
          clear hold hdep hK0
          go_simp
          exact hK.out _ _ (Below.refl _ _) rfl
        refine Py.steps_cons 45 rfl ?_ ?_
        · intro T D' w hB0 hold hdep K hK0
          have hK := Lib.hid hK0
          have h11 : T[11]?.getD undef = .func (.func 76) #[] #[.pointer (some ⟨p0, 0, none⟩)] := hold 11 rfl
          clear hold hdep hK0
          go_simp
          exact hK.out _ _ (Below.refl _ _) rfl
        refine Py.steps_cons 46 rfl ?_ ?_
        · intro T D' w hB0 hold hdep K hK0
          have hK := Lib.hid hK0
          have h1 : T[1]?.getD undef = .int .i64 i := hold 1 rfl
          clear hold hdep hK0
          go_simp
          exact hK.out _ _ (Below.refl _ _) rfl
        refine Py.steps_cons 47 rfl ?_ ?_
        · intro T D' w hB0 hold hdep K hK0
          have hK := Lib.hid hK0
          have q46 : T[46]?.getD undef = .int .i64 i := Py.dep hdep 8 (by kernel_rfl) rfl rfl
          clear hold hdep hK0
          go_simp
          exact hK.out _ _ (Below.refl _ _) rfl
        refine Py.steps_cons 48 rfl ?_ ?_
        · intro T D' w hB0 hold hdep K hK0
          have hK := Lib.hid hK0
          have q45 : T[45]?.getD undef = .func (.func 76) #[] #[.pointer (some ⟨p0, 0, none⟩)] := Py.dep hdep 7 (by kernel_rfl) rfl rfl
          have q47 : T[47]?.getD undef = .int .i64 i9 := Py.dep hdep 9 (by kernel_rfl) rfl rfl
          clear hold hdep hK0
          go_simp
          try go_at_call 76
          refine (Cyd.out w (HB2.out.trans (hB0.mono HS2.out)) (KC.out _ hB0)).mono ?_
          rintro _ V ⟨rfl, hb⟩
          exact hK.out _ _ hb rfl
        refine Py.steps_cons 49 rfl ?_ ?_
        · intro T D' w hB0 hold hdep K hK0
          have hK := Lib.hid hK0
          have h5 : T[5]?.getD undef = .pointer (some ⟨p0, 0, none⟩) := hold 5 rfl
          clear hold hdep hK0
          have c0 := KC.out _ hB0
          go_simp
          exact hK.out _ _ (Below.refl _ _) rfl
        refine Py.steps_cons 50 rfl ?_ ?_
        · intro T D' w hB0 hold hdep K hK0
          have hK := Lib.hid hK0
          have h1 : T[1]?.getD undef = .int .i64 i := hold 1 rfl
          clear hold hdep hK0
          go_simp
          exact hK.out _ _ (Below.refl _ _) rfl
        refine Py.steps_cons 51 rfl ?_ ?_
        · intro T D' w hB0 hold hdep K hK0
          have hK := Lib.hid hK0
          have q50 : T[50]?.getD undef = .int .i64 i := Py.dep hdep 12 (by kernel_rfl) rfl rfl
          clear hold hdep hK0
          go_simp
          exact hK.out _ _ (Below.refl _ _) rfl
        refine Py.steps_cons 52 rfl ?_ ?_
        · intro T D' w hB0 hold hdep K hK0
          have hK := Lib.hid hK0
          have q49 : T[49]?.getD undef = .slice da dn dc := Py.dep hdep 11 (by kernel_rfl) rfl rfl
          have q51 : T[51]?.getD undef = .int .i64 i12 := Py.dep hdep 13 (by kernel_rfl) rfl rfl
          clear hold hdep hK0
          go_simp
          refine (Cyk.out w (HB2.out.trans (hB0.mono HS2.out))).mono ?_
          rintro _ V ⟨rfl, hb⟩
          exact hK.out _ _ hb rfl
        refine Py.steps_cons 53 rfl ?_ ?_
        · intro T D' w hB0 hold hdep K hK0
          have hK := Lib.hid hK0
          clear hold hdep hK0
          go_simp
          exact hK.out _ _ ((Below.refl _ w).alloc (Nat.le_refl _) _) ⟨_, rfl, ((Kp.start w).alloc _).at 0 rfl⟩
        refine Py.steps_cons 54 rfl ?_ ?_
        · intro T D' w hB0 hold hdep K hK0
          have hK := Lib.hid hK0
          have h5 : T[5]?.getD undef = .pointer (some ⟨p0, 0, none⟩) := hold 5 rfl
          clear hold hdep hK0
          have c0 := KC.out _ hB0
          go_simp
          exact hK.out _ _ (Below.refl _ _) rfl
        refine Py.steps_cons 55 rfl ?_ ?_
        · intro T D' w hB0 hold hdep K hK0
          have hK := Lib.hid hK0
          have h1 : T[1]?.getD undef = .int .i64 i := hold 1 rfl
          clear hold hdep hK0
          go_simp
          exact hK.out _ _ (Below.refl _ _) rfl
        refine Py.steps_cons 56 rfl ?_ ?_
        · intro T D' w hB0 hold hdep K hK0
          have hK := Lib.hid hK0
          have q55 : T[55]?.getD undef = .int .i64 i := Py.dep hdep 17 (by kernel_rfl) rfl rfl
          clear hold hdep hK0
          go_simp
          exact hK.out _ _ (Below.refl _ _) rfl
        refine Py.steps_cons 57 rfl ?_ ?_
        · intro T D' w hB0 hold hdep K hK0
          have hK := Lib.hid hK0
          have q54 : T[54]?.getD undef = .slice da dn dc := Py.dep hdep 16 (by kernel_rfl) rfl rfl
          have q56 : T[56]?.getD undef = .int .i64 i14 := Py.dep hdep 18 (by kernel_rfl) rfl rfl
          clear hold hdep hK0
          go_simp
          refine (Cyc.out w (HB2.out.trans (hB0.mono HS2.out))).mono ?_
          rintro _ V ⟨rfl, rfl⟩
          exact hK.out _ _ (Below.refl _ _) rfl
        refine Py.steps_cons 58 rfl ?_ ?_
        · intro T D' w hB0 hold hdep K hK0
          have hK := Lib.hid hK0
          have q53 : Kr.S (.strs [⟨#[]⟩, ⟨#[83]⟩]) w (T[53]?.getD undef) := Py.dep hdep 15 (by kernel_rfl) rfl rfl
          have q57 : T[57]?.getD undef = .int .i64 yc := Py.dep hdep 19 (by kernel_rfl) rfl rfl
          clear hold hdep hK0
          obtain ⟨bd, e53, hb⟩ := q53
          replace e53 : T[53]?.getD undef = .slice (some ⟨bd, 0, none⟩) 2 2 := e53
          have hlt := lt_of_block hb
          have HC := fun i => cells_at hb i
          have r3 : yc = 0 ∨ yc = 1 := by omega
          rcases r3 with rfl | rfl
          · have es := Hys.out.1 rfl; subst es; go_simp; exact hK.out _ _ (Below.refl _ _) ⟨bd, 0, rfl, hlt, HC 0⟩
          · have es := Hys.out.2 rfl; subst es; go_simp; exact hK.out _ _ (Below.refl _ _) ⟨bd, 1, rfl, hlt, HC 1⟩
        refine Py.steps_cons 59 rfl ?_ ?_
        · intro T D' w hB0 hold hdep K hK0
          have hK := Lib.hid hK0
          have q58 : Kr.S (.sptr ys) w (T[58]?.getD undef) := Py.dep hdep 20 (by kernel_rfl) rfl rfl
          clear hold hdep hK0
          obtain ⟨bd, o, e58, hlt, c0⟩ := q58
          go_simp
          exact hK.out _ _ (Below.refl _ _) rfl
        refine Py.steps_cons 60 rfl ?_ ?_
        · intro T D' w hB0 hold hdep K hK0
          have hK := Lib.hid hK0
          have q38 : T[38]?.getD undef = .int .i64 fr := Py.dep hdep 0 (by kernel_rfl) rfl rfl
          have q39 : T[39]?.getD undef = .int .i64 tt := Py.dep hdep 1 (by kernel_rfl) rfl rfl
          have q44 : T[44]?.getD undef = .int .i64 ym := Py.dep hdep 6 (by kernel_rfl) rfl rfl
          have q48 : T[48]?.getD undef = .agg #[.int .i64 yd, .int .i64 ye, .int .i64 yf] := Py.dep hdep 10 (by kernel_rfl) rfl rfl
          have q52 : T[52]?.getD undef = .agg #[.int .i64 yk, .int .i64 yl] := Py.dep hdep 14 (by kernel_rfl) rfl rfl
          have q59 : T[59]?.getD undef = .string ys := Py.dep hdep 21 (by kernel_rfl) rfl rfl
          clear hold hdep hK0
          go_simp
          exact hK.out _ _ (Below.refl _ _) rfl
        refine Py.steps_cons 13 rfl ?_ ?_
        · intro T D' w hB0 hold hdep K hK0
          have hK := Lib.hid hK0
          clear hold hdep hK0
          have hw := hB0.size
          go_simp
          exact hK.out _ _ ((Below.refl _ w).alloc (Nat.le_refl _) _) ⟨w.heap.size, hw, rfl, ((Kp.start w).alloc _).at 0 rfl⟩
        exact Py.steps_nil
    case hend3 =>
      intro T3 w3 hsz hB0 hold hS
      have g0 : T3[0]?.getD undef = .slice da dn dc := hold 0 rfl
      have g1 : T3[1]?.getD undef = .int .i64 i := hold 1 rfl
      have g2 : T3[2]?.getD undef = .int .i64 fr := hold 2 rfl
      have g3 : T3[3]?.getD undef = .int .i64 tt := hold 3 rfl
      have g4 : T3[4]?.getD undef = .int .i64 sv := hold 4 rfl
      have g5 : T3[5]?.getD undef = .pointer (some ⟨p0, 0, none⟩) := hold 5 rfl
      have g11 : T3[11]?.getD undef = .func (.func 76) #[] #[.pointer (some ⟨p0, 0, none⟩)] := hold 11 rfl
      have g12 : T3[12]?.getD undef = .pointer (some ⟨b1, 0, none⟩) := hold 12 rfl
      have eR : T3[60]?.getD undef = .agg #[.string ⟨#[]⟩, .int .i64 fr, .int .i64 tt, .int .i64 ym, .int .i64 yd, .int .i64 ye, .int .i64 yf, .int .i64 yk, .int .i64 yl, .int .i64 0, .string ys] := hS 60 (by rfl)
      have qN : Kr.S (.new _) w3 (T3[13]?.getD undef) := hS 13 (by rfl)
      obtain ⟨b2, hNb2, eN, hbb2⟩ := qN
      have KN := Lib.hid (kp_new K1.out hB0 hNb2 hbb2)
      obtain ⟨G3, hG⟩ : ∃ G : Nat → Value, ∀ t, T3[t]?.getD undef = G t := ⟨_, fun _ => rfl⟩
      have e := Py.tmps_lit T3 75 hsz
      simp only [hG] at e
      have e' : T3 = #[G3 0, G3 1, G3 2, G3 3, G3 4, G3 5, G3 6, G3 7, G3 8, G3 9, G3 10, G3 11, G3 12, G3 13, G3 14, G3 15, G3 16, G3 17, G3 18, G3 19, G3 20, G3 21, G3 22, G3 23, G3 24, G3 25, G3 26, G3 27, G3 28, G3 29, G3 30, G3 31, G3 32, G3 33, G3 34, G3 35, G3 36, G3 37, G3 38, G3 39, G3 40, G3 41, G3 42, G3 43, G3 44, G3 45, G3 46, G3 47, G3 48, G3 49, G3 50, G3 51, G3 52, G3 53, G3 54, G3 55, G3 56, G3 57, G3 58, G3 59, G3 60, G3 61, G3 62, G3 63, G3 64, G3 65, G3 66, G3 67, G3 68, G3 69, G3 70, G3 71, G3 72, G3 73, G3 74] := e.trans rfl
      rw [hG] at eR eN
      simp only [hG] at g0 g1 g2 g3 g4 g5 g11 g12
      clear hold hS e hG hsz hbb2
      rw [e', eR, eN, g0, g1, g2, g3, g4, g5, g11, g12]
      clear e' eR eN g0 g1 g2 g3 g4 g5 g11 g12
      simp only [List.drop_succ_cons, List.drop_zero, Py.TailWp]
      obtain ⟨z0, z1, z2, z3, z4, z5, z6, z7, z8, z9, z10⟩ := row11 (KN.out.at 0 rfl)
      have hfr := fun k => free_at (KN.out.at 0 rfl) k
      obtain ⟨f0, f1, f2, f3, f4, f5, f6, f7, f8, f9, f10⟩ := And.intro (hfr 0) (And.intro (hfr 1) (And.intro (hfr 2) (And.intro (hfr 3) (And.intro (hfr 4) (And.intro (hfr 5) (And.intro (hfr 6) (And.intro (hfr 7) (And.intro (hfr 8) (And.intro (hfr 9) (hfr 10))))))))))
      clear hfr
      obtain ⟨X2, hX2, K2⟩ : ∃ Y, (((((((((((w3.setCell ⟨b2, 0, none⟩ (.string ⟨#[]⟩)).setCell ⟨b2, 1, none⟩ (.int .i64 fr)).setCell ⟨b2, 2, none⟩ (.int .i64 tt)).setCell ⟨b2, 3, none⟩ (.int .i64 ym)).setCell ⟨b2, 4, none⟩ (.int .i64 yd)).setCell ⟨b2, 5, none⟩ (.int .i64 ye)).setCell ⟨b2, 6, none⟩ (.int .i64 yf)).setCell ⟨b2, 7, none⟩ (.int .i64 yk)).setCell ⟨b2, 8, none⟩ (.int .i64 yl)).setCell ⟨b2, 9, none⟩ (.int .i64 0)).setCell ⟨b2, 10, none⟩ (.string ys)) = Y ∧ Kp [(b2, .cells #[.string ⟨#[]⟩, .int .i64 fr, .int .i64 tt, .int .i64 ym, .int .i64 yd, .int .i64 ye, .int .i64 yf, .int .i64 yk, .int .i64 yl, .int .i64 0, .string ys] 36), (b1, .cells #[.string ⟨#[]⟩, .int .i64 fr, .int .i64 tt, .int .i64 xm, .int .i64 xd, .int .i64 xe, .int .i64 xf, .int .i64 xk, .int .i64 xl, .int .i64 sv, .string xs] 36), (p0, .cells #[.slice da dn dc] 90)] [] W Y := ⟨_, rfl, kp_rule (.string ⟨#[]⟩) (.int .i64 fr) (.int .i64 tt) (.int .i64 ym) (.int .i64 yd) (.int .i64 ye) (.int .i64 yf) (.int .i64 yk) (.int .i64 yl) (.int .i64 0) (.string ys) KN.out⟩
      replace K2 := Lib.hid K2
      go_simp
      clear z0 f0 z1 f1 z2 f2 z3 f3 z4 f4 z5 f5 z6 f6 z7 f7 z8 f8 z9 f9 z10 f10
      go_upto_region 4 with fail
      try rw [hX2]
      clear hX2 KN
      have c0 : X2.cell? ⟨p0, 0, none⟩ = some (.slice da dn dc) := cells_at (K2.out.at 2 rfl) 0
      have HB3 : Below p0 W X2 := by rw [← HP.out]; exact K2.out.below
      go_wp2_with fail
      go_at_call 62
      refine (Cw.out _ HB3).mono ?_
      rintro e X2 ⟨rfl, rfl⟩
      by_cases hr : sw = 0
      · subst hr
        obtain ⟨k1, k2, k3, k4⟩ : X2.cell? ⟨b1, 9, none⟩ = some (.int .i64 sv) ∧ X2.cell? ⟨b2, 9, none⟩ = some (.int .i64 0) ∧ X2.frozen? ⟨b1, 9, none⟩ = false ∧ X2.frozen? ⟨b2, 9, none⟩ = false := ⟨cells_at (K2.out.at 1 rfl) 9, cells_at (K2.out.at 0 rfl) 9, free_at (K2.out.at 1 rfl) 9, free_at (K2.out.at 0 rfl) 9⟩
        have hbb : b1 < b2 := Nat.lt_of_lt_of_le (K1.out.lt 0 rfl) hNb2
        have hb1 : ¬ b1 = b2 := by omega
        have hb2 : ¬ b2 = b1 := by omega
        go_upto_region 6 with fail
        obtain ⟨X3, hX3, K3⟩ : ∃ Y, ((X2.setCell ⟨b1, 9, none⟩ (.int .i64 0)).setCell ⟨b2, 9, none⟩ (.int .i64 sv)) = Y ∧ Kp [(b2, .cells #[.string ⟨#[]⟩, .int .i64 fr, .int .i64 tt, .int .i64 ym, .int .i64 yd, .int .i64 ye, .int .i64 yf, .int .i64 yk, .int .i64 yl, .int .i64 sv, .string ys] 36), (b1, .cells #[.string ⟨#[]⟩, .int .i64 fr, .int .i64 tt, .int .i64 xm, .int .i64 xd, .int .i64 xe, .int .i64 xf, .int .i64 xk, .int .i64 xl, .int .i64 0, .string xs] 36), (p0, .cells #[.slice da dn dc] 90)] [] W Y := by
          have q1 : Kp [(b2, .cells #[.string ⟨#[]⟩, .int .i64 fr, .int .i64 tt, .int .i64 ym, .int .i64 yd, .int .i64 ye, .int .i64 yf, .int .i64 yk, .int .i64 yl, .int .i64 0, .string ys] 36), (b1, .cells #[.string ⟨#[]⟩, .int .i64 fr, .int .i64 tt, .int .i64 xm, .int .i64 xd, .int .i64 xe, .int .i64 xf, .int .i64 xk, .int .i64 xl, .int .i64 0, .string xs] 36), (p0, .cells #[.slice da dn dc] 90)] [] W _ := K2.out.set 1 rfl 9 (.int .i64 0) rfl
          have q2 : Kp [(b2, .cells #[.string ⟨#[]⟩, .int .i64 fr, .int .i64 tt, .int .i64 ym, .int .i64 yd, .int .i64 ye, .int .i64 yf, .int .i64 yk, .int .i64 yl, .int .i64 sv, .string ys] 36), (b1, .cells #[.string ⟨#[]⟩, .int .i64 fr, .int .i64 tt, .int .i64 xm, .int .i64 xd, .int .i64 xe, .int .i64 xf, .int .i64 xk, .int .i64 xl, .int .i64 0, .string xs] 36), (p0, .cells #[.slice da dn dc] 90)] [] W _ := q1.set 0 rfl 9 (.int .i64 sv) rfl
          exact ⟨_, rfl, q2⟩
        replace K3 := Lib.hid K3
        rw [hX3]
        clear hX3 k1 k2 k3 k4 c0 HB3 K2
        obtain ⟨z0, z1, z2, z3, z4, z5, z6, z7, z8, z9, z10⟩ := row11 (K3.out.at 1 rfl)
        obtain ⟨zz0, zz1, zz2, zz3, zz4, zz5, zz6, zz7, zz8, zz9, zz10⟩ := row11 (K3.out.at 0 rfl)
        go_wp2_with fail
        have KE := K3.out.alloc (.cells #[.string ⟨#[]⟩, .int .i64 fr, .int .i64 tt, .int .i64 xm, .int .i64 xd, .int .i64 xe, .int .i64 xf, .int .i64 xk, .int .i64 xl, .int .i64 0, .string xs, .string ⟨#[]⟩, .int .i64 fr, .int .i64 tt, .int .i64 ym, .int .i64 yd, .int .i64 ye, .int .i64 yf, .int .i64 yk, .int .i64 yl, .int .i64 sv, .string ys] 36)
        have hs := SlV.of_block (sz := 11) (n := 2) (c := 2) (KE.at 0 rfl) (by omega) (by unfold maxLen; omega) (by simp)
        refine bodyPost_ret (v := .slice (some ⟨X3.heap.size, 0, none⟩) 2 2) (by simp [results, Tryd.results64, go_sem]) rfl ⟨⟨_, rfl, ?_⟩, KE.below⟩
        rw [Hw.out.1 (by trivial), Hw.out.2.1 (by trivial)]
        exact hs
      · clear c0 HB3
        obtain ⟨z0, z1, z2, z3, z4, z5, z6, z7, z8, z9, z10⟩ := row11 (K2.out.at 1 rfl)
        obtain ⟨zz0, zz1, zz2, zz3, zz4, zz5, zz6, zz7, zz8, zz9, zz10⟩ := row11 (K2.out.at 0 rfl)
        go_wp2_with fail
        have KE := K2.out.alloc (.cells #[.string ⟨#[]⟩, .int .i64 fr, .int .i64 tt, .int .i64 xm, .int .i64 xd, .int .i64 xe, .int .i64 xf, .int .i64 xk, .int .i64 xl, .int .i64 sv, .string xs, .string ⟨#[]⟩, .int .i64 fr, .int .i64 tt, .int .i64 ym, .int .i64 yd, .int .i64 ye, .int .i64 yf, .int .i64 yk, .int .i64 yl, .int .i64 0, .string ys] 36)
        have hs := SlV.of_block (sz := 11) (n := 2) (c := 2) (KE.at 0 rfl) (by omega) (by unfold maxLen; omega) (by simp)
        refine bodyPost_ret (v := .slice (some ⟨X2.heap.size, 0, none⟩) 2 2) (by simp [results, Tryd.results64, go_sem]) rfl ⟨⟨_, rfl, ?_⟩, KE.below⟩
        rw [Hw.out.2.2.1 hr, Hw.out.2.2.2 hr]
        exact hs
end Go.Proofs.YtnffecoohkanhaaDoor.Px
namespace Go.Proofs.YtnffecoohkanhaaDoor.Px
open Go.RowKit
open Lk

theorem ruq_set : ∀ (l : List RuQ) (i : Nat) (x : RuQ), l[i]? = some x → ∀ s : ByteArray, (l.flatMap ruqC).set (i * 11) (.string s) = (l.set i { x with s0 := s }).flatMap ruqC
  | [], _, _, h, _ => by simp at h
  | y :: r, 0, x, h, s => by
    simp only [List.getElem?_cons_zero, Option.some.injEq] at h
    subst h
    rfl
  | y :: r, i + 1, x, h, s => by
    have h := ruq_set r i x (by simpa using h) s
    show (ruqC y ++ r.flatMap ruqC).set ((i + 1) * 11) _ = ruqC y ++ (r.set i { x with s0 := s }).flatMap ruqC
    rw [← h, show (i + 1) * 11 = (ruqC y).length + i * 11 by show _ = 11 + i * 11; omega, List.set_append_right _ _ (by omega)]
    rw [Nat.add_sub_cancel_left]
theorem append_rules {L : List (Nat × Obj)} {R : List Rw} {v : Value} {W X : World} {l : List RuQ} (h : Kp L (⟨v, 36, 11, l.length, l.flatMap ruqC⟩ :: R) W X) (ys : List RuQ) (lv : Value) (hL : SlV X lv 11 ys.length (ys.flatMap ruqC)) (h0 : 0 < ys.length) (hmax : l.length + ys.length ≤ 1000) :
    ∃ (a : Option Addr) (c : Nat) (w1 : World), (Builtin.append_ #[22, 22] 22 #[v, lv]).run Tryd.prog X = .ok (.slice a (l.length + ys.length) c) w1 ∧ Kp L (⟨.slice a (l.length + ys.length) c, 36, 11, (l ++ ys).length, (l ++ ys).flatMap ruqC⟩ :: R) W w1 := by
  obtain ⟨i0, hi, hz0, hz1, hz2⟩ := info_partsU info_rules
  obtain ⟨b, o, c, e, _⟩ := hL.allA h0
  obtain ⟨v', w1, hr, hk⟩ := append_flat (t := 22) Tryd.underlying22 hi hz0 hz1 hz2 rfl (by decide) (by decide) h ys.length (ys.flatMap ruqC) lv hL ruq_one (by rw [e]; intro c hc; simp at hc) (by omega)
  obtain ⟨a', c', rfl⟩ : ∃ a c, v' = .slice a (l.length + ys.length) c := own_slice (hk.row 0 rfl)
  refine ⟨_, _, _, hr, ?_⟩
  rw [List.flatMap_append, List.length_append]
  exact hk
/-- the rules with a name, some of them already -/
def nameTo (s : ByteArray) (l : List RuQ) (i : Nat) : List RuQ := (l.take i).map (fun x => { x with s0 := s }) ++ l.drop i
theorem nameTo_len (s : ByteArray) (l : List RuQ) (i : Nat) : (nameTo s l i).length = l.length := by
  unfold nameTo
  rw [List.length_append, List.length_map, ← List.length_append, List.take_append_drop]
theorem nameTo_at (s : ByteArray) (l : List RuQ) (i : Nat) : (nameTo s l i)[i]? = l[i]? := by
  unfold nameTo
  by_cases hi : i < l.length
  · have e : ((l.take i).map fun x => { x with s0 := s }).length = i := by rw [List.length_map, List.length_take]; omega
    rw [List.getElem?_append_right (by omega), e, List.getElem?_drop]
    simp
  · rw [List.getElem?_eq_none (by rw [List.length_append, List.length_map, ← List.length_append, List.take_append_drop]; omega), List.getElem?_eq_none (by omega)]
theorem nameTo_set (s : ByteArray) (l : List RuQ) (i : Nat) (x : RuQ) (h : l[i]? = some x) : (nameTo s l i).set i { x with s0 := s } = nameTo s l (i + 1) := by
  have hi := (List.getElem?_eq_some_iff.1 h).1
  have e : ((l.take i).map fun x => { x with s0 := s }).length = i := by rw [List.length_map, List.length_take]; omega
  have hd : l.drop i = x :: l.drop (i + 1) := by
    rw [List.drop_eq_getElem_cons hi]
    congr 1
    exact (List.getElem?_eq_some_iff.1 h).2
  unfold nameTo
  rw [List.set_append_right _ _ (by omega), e, Nat.sub_self, hd, List.set_cons_zero, List.take_add_one, h, Option.toList_some, List.map_append, List.append_assoc]
  rfl
def save17 (k : Nat) : Int := [3600, 3600, 1800, 7200, -3600].getD k 0
set_option maxHeartbeats 4000000 in
set_option maxRecDepth 100000 in
theorem made17_any (L : List Nat) (s : ByteArray) : ∃ l : List RuQ, 0 < l.length ∧ l.length ≤ 5 ∧ ∀ (dv : Value) (W : World), D17 W dv L →
    Calls Tryd.prog 43 #[dv, .string s] W fun e w' => (∃ v : Value, e = .returned v ∧ SlV w' v 11 l.length (l.flatMap ruqC)) ∧ Below W.heap.size W w' := by
  have hr0L := at17v_le L 0 5 (by omega)
  obtain ⟨r0, hr0⟩ : ∃ y, at17v L 0 5 = y := ⟨_, rfl⟩
  rw [hr0] at hr0L
  have hfL := at17v_le L 1 80 (by omega)
  obtain ⟨f, hf⟩ : ∃ y, at17v L 1 80 = y := ⟨_, rfl⟩
  rw [hf] at hfL
  have hr2L := at17v_le L 2 3 (by omega)
  obtain ⟨r2, hr2⟩ : ∃ y, at17v L 2 3 = y := ⟨_, rfl⟩
  rw [hr2] at hr2L
  have hr3L := at17v_le L 3 28 (by omega)
  obtain ⟨r3, hr3⟩ : ∃ y, at17v L 3 28 = y := ⟨_, rfl⟩
  rw [hr3] at hr3L
  have hr5L := at17v_le L 5 2 (by omega)
  obtain ⟨r5, hr5⟩ : ∃ y, at17v L 5 2 = y := ⟨_, rfl⟩
  rw [hr5] at hr5L
  have hr6L := at17v_le L 6 12 (by omega)
  obtain ⟨r6, hr6⟩ : ∃ y, at17v L 6 12 = y := ⟨_, rfl⟩
  rw [hr6] at hr6L
  have hr8L := at17v_le L 8 5 (by omega)
  obtain ⟨r8, hr8⟩ : ∃ y, at17v L 8 5 = y := ⟨_, rfl⟩
  rw [hr8] at hr8L
  have hr9L := at17v_le L 9 6 (by omega)
  obtain ⟨r9, hr9⟩ : ∃ y, at17v L 9 6 = y := ⟨_, rfl⟩
  rw [hr9] at hr9L
  have hr10L := at17v_le L 10 3 (by omega)
  obtain ⟨r10, hr10⟩ : ∃ y, at17v L 10 3 = y := ⟨_, rfl⟩
  rw [hr10] at hr10L
  obtain ⟨k, hk0⟩ : ∃ k : Nat, r0 = (k : Int) := ⟨r0.toNat, by omega⟩
  obtain ⟨sv, hsv0⟩ : ∃ y, save17 k = y := ⟨_, rfl⟩
  obtain ⟨f', hf'⟩ : ∃ y, 1900 + f = y := ⟨_, rfl⟩
  obtain ⟨ca, hca⟩ : ∃ y, at17v L 4 49 * 1800 = y := ⟨_, rfl⟩
  obtain ⟨cb, hcb⟩ : ∃ y, at17v L (4 + 1) 3 = y := ⟨_, rfl⟩
  obtain ⟨g1, hg1⟩ : ∃ y, (if r2 = 0 then f' + 1 else f') = y := ⟨_, rfl⟩
  obtain ⟨l1, hl1⟩ : ∃ y : List RuQ, (if r2 = 0 then [⟨⟨#[]⟩, f', f', 6, 1, 0, 1 + r3, ca, cb, 0, ⟨#[83]⟩⟩] else []) = y := ⟨_, rfl⟩
  have H1 := Lib.hid (show (r2 = 0 → f' + 1 = g1 ∧ [⟨⟨#[]⟩, f', f', 6, 1, 0, 1 + r3, ca, cb, 0, ⟨#[83]⟩⟩] = l1) ∧ (¬ r2 = 0 → f' = g1 ∧ [] = l1) from by
    rw [← hg1, ← hl1]
    exact ⟨fun e => by rw [if_pos e, if_pos e]; exact ⟨rfl, rfl⟩, fun e => by rw [if_neg e, if_neg e]; exact ⟨rfl, rfl⟩⟩)
  have hg1a : 1900 ≤ g1 ∧ g1 ≤ 1981 := by rw [← hg1]; split <;> omega
  have hl1n : l1.length ≤ 1 := by rw [← hl1]; split <;> simp
  clear hg1 hl1
  obtain ⟨x7, y7, h7⟩ := pair17_any L 7 g1 (g1 + r6) sv (by omega) (by omega)
  obtain ⟨g2, hg2⟩ : ∃ y, (if r5 = 0 then g1 + r6 + 1 + r8 else g1) = y := ⟨_, rfl⟩
  obtain ⟨l2, hl2⟩ : ∃ y : List RuQ, (if r5 = 0 then l1 ++ [x7, y7] else l1) = y := ⟨_, rfl⟩
  have H2 := Lib.hid (show (r5 = 0 → g1 + r6 + 1 + r8 = g2 ∧ l1 ++ [x7, y7] = l2) ∧ (¬ r5 = 0 → g1 = g2 ∧ l1 = l2) from by
    rw [← hg2, ← hl2]
    exact ⟨fun e => by rw [if_pos e, if_pos e]; exact ⟨rfl, rfl⟩, fun e => by rw [if_neg e, if_neg e]; exact ⟨rfl, rfl⟩⟩)
  have hg2a : 1900 ≤ g2 ∧ g2 ≤ 2000 := by rw [← hg2]; split <;> omega
  have hl2n : l2.length ≤ 3 := by
    rw [← hl2]
    split
    · rw [List.length_append]
      show l1.length + 2 ≤ 3
      omega
    · omega
  clear hg2 hl2
  obtain ⟨tt, htt⟩ : ∃ y : Int, (if 0 < r10 then 1048576 else g2 + r9) = y := ⟨_, rfl⟩
  have H3 := Lib.hid (show (0 < r10 → (1048576 : Int) = tt) ∧ (¬ 0 < r10 → g2 + r9 = tt) from by
    rw [← htt]
    exact ⟨fun e => (if_pos e).symm, fun e => (if_neg e).symm⟩)
  clear htt
  obtain ⟨x11, y11, h11⟩ := pair17_any L 11 g2 tt sv (by omega) (by omega)
  obtain ⟨l3, hl3⟩ : ∃ y, l2 ++ [x11, y11] = y := ⟨_, rfl⟩
  have hn3 : l2.length + 2 = l3.length := by rw [← hl3, List.length_append]; rfl
  have HL3 := Lib.hid hl3
  refine ⟨nameTo s l3 l3.length, by rw [nameTo_len]; omega, by rw [nameTo_len]; omega, fun dv W h => ?_⟩
  have Cr0 := Lib.hid (fun (Y : World) (hB : Below W.heap.size W Y) => at17_any L dv 0 5 Y (h.keep hB) (by omega) (by omega) (by omega) (by omega))
  rw [hr0] at Cr0
  have Cf := Lib.hid (fun (Y : World) (hB : Below W.heap.size W Y) => at17_any L dv 1 80 Y (h.keep hB) (by omega) (by omega) (by omega) (by omega))
  rw [hf] at Cf
  have Cr2 := Lib.hid (fun (Y : World) (hB : Below W.heap.size W Y) => at17_any L dv 2 3 Y (h.keep hB) (by omega) (by omega) (by omega) (by omega))
  rw [hr2] at Cr2
  have Cr3 := Lib.hid (fun (Y : World) (hB : Below W.heap.size W Y) => at17_any L dv 3 28 Y (h.keep hB) (by omega) (by omega) (by omega) (by omega))
  rw [hr3] at Cr3
  have Cr5 := Lib.hid (fun (Y : World) (hB : Below W.heap.size W Y) => at17_any L dv 5 2 Y (h.keep hB) (by omega) (by omega) (by omega) (by omega))
  rw [hr5] at Cr5
  have Cr6 := Lib.hid (fun (Y : World) (hB : Below W.heap.size W Y) => at17_any L dv 6 12 Y (h.keep hB) (by omega) (by omega) (by omega) (by omega))
  rw [hr6] at Cr6
  have Cr8 := Lib.hid (fun (Y : World) (hB : Below W.heap.size W Y) => at17_any L dv 8 5 Y (h.keep hB) (by omega) (by omega) (by omega) (by omega))
  rw [hr8] at Cr8
  have Cr9 := Lib.hid (fun (Y : World) (hB : Below W.heap.size W Y) => at17_any L dv 9 6 Y (h.keep hB) (by omega) (by omega) (by omega) (by omega))
  rw [hr9] at Cr9
  have Cr10 := Lib.hid (fun (Y : World) (hB : Below W.heap.size W Y) => at17_any L dv 10 3 Y (h.keep hB) (by omega) (by omega) (by omega) (by omega))
  rw [hr10] at Cr10
  have CC := Lib.hid (fun (Y : World) (hB : Below W.heap.size W Y) => clock17_any L dv 4 Y (h.keep hB) (by omega) (by omega))
  rw [hca, hcb] at CC
  have C7 := Lib.hid (fun (Y : World) (hB : Below W.heap.size W Y) => h7 dv Y (h.keep hB))
  have C11 := Lib.hid (fun (Y : World) (hB : Below W.heap.size W Y) => h11 dv Y (h.keep hB))
  rw [hk0] at Cr0
  clear hr0 hf hr2 hr3 hr5 hr6 hr8 hr9 hr10 hca hcb h7 h11 hl3
  have HSV := Lib.hid hsv0
  clear hsv0
  have hk5 : k < 5 := by omega
  have hf0 : 1900 ≤ f' := by omega
  have hf1 : f' ≤ 1980 := by omega
  have hw1 : IntKind.i64.wrap f' = f' := IntWalk.i64_in _ (by omega)
  obtain ⟨da, dn, dc, rfl⟩ : ∃ a n c, dv = .slice a n c := by obtain ⟨a, c, e, _, _⟩ := h.sl.slA; exact ⟨_, _, _, e⟩
  have K0 := Lib.hid ((Kp.start W).allocAt W.heap.size rfl (.cells #[.int .i64 3600, .int .i64 3600, .int .i64 1800, .int .i64 7200, .int .i64 (-3600)] 2))
  clear h
  go_enter Tryd.func43, Tryd.ntmps43
  go_wp2_with fail
  go_at_call 62
  refine (Cr0.out _ K0.out.below).mono ?_
  rintro e X ⟨rfl, rfl⟩
  obtain ⟨X1, hX1⟩ : ∃ Y, W.alloc (.cells #[.int .i64 3600, .int .i64 3600, .int .i64 1800, .int .i64 7200, .int .i64 (-3600)] 2) = Y := ⟨_, rfl⟩
  rw [hX1] at K0
  rw [hX1]
  clear hX1
  have hsv : X1.cell? ⟨W.heap.size, k, none⟩ = some (.int .i64 sv) := by
    have es := HSV.out
    subst es
    have HC := fun i => cells_at (K0.out.at 0 rfl) i
    have h5 : k = 0 ∨ k = 1 ∨ k = 2 ∨ k = 3 ∨ k = 4 := by omega
    rcases h5 with rfl | rfl | rfl | rfl | rfl
    · exact HC 0
    · exact HC 1
    · exact HC 2
    · exact HC 3
    · exact HC 4
  have HBX := Lib.hid K0.out.below
  go_wp2_with fail
  go_at_call 62
  refine (Cf.out _ HBX.out).mono ?_
  rintro e X1 ⟨rfl, rfl⟩
  go_wp2_with fail
  go_at_call 62
  refine (Cr2.out _ HBX.out).mono ?_
  rintro e X1 ⟨rfl, rfl⟩
  go_upto_if 21 with fail
  have HX0 := Lib.hid (show Kp [] [⟨.slice none 0 0, 36, 11, 0, ([] : List RuQ).flatMap ruqC⟩] W X1 from (((Kp.start W).keep HBX.out).fresh 36 11))
  clear hsv hk5 K0
  go_cut [6, 7] from 21 to 35 (fun v6 v7 wx => v6 = .int .i64 g1 ∧ Kp [] [⟨v7, 36, 11, l1.length, l1.flatMap ruqC⟩] W wx)
  case first =>
    by_cases hr2 : r2 = 0
    · obtain ⟨eg1, el1⟩ := H1.out.1 hr2
      have HE1 := Lib.hid (And.intro eg1 el1)
      clear eg1 el1
      subst hr2
      go_wp2_with fail
      go_at_call 62
      refine (Cr3.out _ HBX.out).mono ?_
      rintro e X1 ⟨rfl, rfl⟩
      have hw1 := IntWalk.i64_in (1 + r3) (by omega)
      go_wp2_with fail
      go_at_call 63
      refine (CC.out _ HBX.out).mono ?_
      rintro e X2 ⟨rfl, hb2⟩
      have K3 := (HX0.out.keep hb2).allocAt X2.heap.size rfl (.cells #[.string ⟨#[]⟩, .int .i64 f', .int .i64 f', .int .i64 6, .int .i64 1, .int .i64 0, .int .i64 (1 + r3), .int .i64 ca, .int .i64 cb, .int .i64 0, .string ⟨#[83]⟩] 36)
      have hS := SlV.of_block (sz := 11) (n := 1) (c := 1) (K3.at 0 rfl) (by omega) (by unfold maxLen; omega) (by simp)
      obtain ⟨oa, oc, w1, hra, hka⟩ := append_rules (l := []) K3 [⟨⟨#[]⟩, f', f', 6, 1, 0, 1 + r3, ca, cb, 0, ⟨#[83]⟩⟩] (.slice (some ⟨X2.heap.size, 0, none⟩) 1 1) hS (Nat.le_refl 1) (show 0 + 1 ≤ 1000 by omega)
      have HR := Lib.hid hra
      have HK := Lib.hid hka.drop
      have hwf := IntWalk.i64_in (f' + 1) (by omega)
      clear hra hka hS K3
      go_wp2_with ((at_builtin; refine wpList_append_eq rfl _ _ 22 rfl _ _ _ w1 rfl rfl HR.out ?_))
      go_meet
      exact ⟨by rw [HE1.out.1], by rw [← HE1.out.2]; exact HK.out⟩
    · obtain ⟨eg1, el1⟩ := H1.out.2 hr2
      have HE1 := Lib.hid (And.intro eg1 el1)
      clear eg1 el1
      go_wp2_with fail
      go_meet
      exact ⟨by rw [HE1.out.1], by rw [← HE1.out.2]; exact HX0.out⟩
  case rest =>
    obtain ⟨rfl, hk⟩ := hcut
    obtain ⟨oa, oc, rfl⟩ : ∃ a c, u7 = .slice a l1.length c := own_slice (hk.row 0 rfl)
    have HK := Lib.hid hk
    clear hk HX0 HBX
    go_wp2_with fail
    go_at_call 62
    refine (Cr5.out _ HK.out.below).mono ?_
    rintro e X2 ⟨rfl, rfl⟩
    go_upto_if 38 with fail
    go_cut [6, 7, 8] from 38 to 54 (fun v6 v7 v8 wx => v6 = .int .i64 g2 ∧ Kp [] [⟨v7, 36, 11, l2.length, l2.flatMap ruqC⟩] W wx)
    case first =>
      by_cases hr5 : r5 = 0
      · obtain ⟨eg2, el2⟩ := H2.out.1 hr5
        have HE2 := Lib.hid (And.intro eg2 el2)
        clear eg2 el2
        subst hr5
        go_wp2_with fail
        go_at_call 62
        refine (Cr6.out _ HK.out.below).mono ?_
        rintro e X2 ⟨rfl, rfl⟩
        have hw2 := IntWalk.i64_in (g1 + r6) (by omega)
        go_wp2_with fail
        go_at_call 64
        refine (C7.out _ HK.out.below).mono ?_
        rintro e X3 ⟨⟨pv, rfl, hS⟩, hb⟩
        obtain ⟨oa2, oc2, w1, hra, hka⟩ := append_rules (HK.out.keep hb) [x7, y7] pv hS (show 0 < 2 by omega) (by show l1.length + 2 ≤ 1000; omega)
        have HR := Lib.hid hra
        have HK2 := Lib.hid hka
        obtain ⟨pa, pc, rfl, _, _⟩ := hS.slA
        clear hra hka hS hb HK
        go_wp2_with ((at_builtin; refine wpList_append_eq rfl _ _ 22 rfl _ _ _ w1 rfl rfl HR.out ?_))
        refine (Cr8.out _ HK2.out.below).mono ?_
        rintro e X4 ⟨rfl, rfl⟩
        have hw3 := IntWalk.i64_in (g1 + r6 + 1) (by omega)
        have hw4 := IntWalk.i64_in (g1 + r6 + 1 + r8) (by omega)
        go_wp2_with fail
        go_meet
        exact ⟨by rw [HE2.out.1], by rw [← HE2.out.2]; exact HK2.out⟩
      · obtain ⟨eg2, el2⟩ := H2.out.2 hr5
        have HE2 := Lib.hid (And.intro eg2 el2)
        clear eg2 el2
        go_wp2_with fail
        go_meet
        exact ⟨by rw [HE2.out.1], by rw [← HE2.out.2]; exact HK.out⟩
    case rest =>
      clear HK
      obtain ⟨rfl, hk⟩ := hcut
      obtain ⟨oa2, oc2, rfl⟩ : ∃ a c, u7 = .slice a l2.length c := own_slice (hk.row 0 rfl)
      have HK := Lib.hid hk
      clear hk
      go_wp2_with fail
      go_at_call 62
      refine (Cr9.out _ HK.out.below).mono ?_
      rintro e X2 ⟨rfl, rfl⟩
      have hw2 := IntWalk.i64_in (g2 + r9) (by omega)
      go_wp2_with fail
      go_at_call 62
      refine (Cr10.out _ HK.out.below).mono ?_
      rintro e X2 ⟨rfl, rfl⟩
      go_upto_if 61 with fail
      go_cut [9] from 61 to 61 (fun v9 wx => v9 = .int .i64 tt ∧ Kp [] [⟨.slice oa2 l2.length oc2, 36, 11, l2.length, l2.flatMap ruqC⟩] W wx)
      case first =>
        by_cases hr10 : 0 < r10
        · have HE3 := Lib.hid (H3.out.1 (by omega))
          go_wp2_with fail
          go_meet
          exact ⟨by rw [← HE3.out], HK.out⟩
        · have HE3 := Lib.hid (H3.out.2 (by omega))
          go_wp2_with fail
          go_meet
          exact ⟨by rw [← HE3.out], HK.out⟩
      case rest =>
        clear HK
        obtain ⟨rfl, hk⟩ := hcut
        have HK := Lib.hid hk
        clear hk
        go_wp2_with fail
        go_at_call 64
        refine (C11.out _ HK.out.below).mono ?_
        rintro e X3 ⟨⟨pv, rfl, hS⟩, hb⟩
        obtain ⟨oa3, oc3, w1, hra, hka⟩ := append_rules (HK.out.keep hb) [x11, y11] pv hS (show 0 < 2 by omega) (by show l2.length + 2 ≤ 1000; omega)
        have HR := Lib.hid hra
        obtain ⟨pa, pc, rfl, _, _⟩ := hS.slA
        have e3 : l2.length + [x11, y11].length = l3.length := hn3
        rw [HL3.out, e3] at hka
        have HK2 := Lib.hid hka
        have hn5 : l3.length ≤ 5 := by omega
        clear hra hka hS hb HK
        go_upto_region 15 with ((at_builtin; refine wpList_append_eq rfl _ _ 22 rfl _ _ _ w1 rfl rfl HR.out ?_))
        have hpos : 0 < l3.length := by omega
        obtain ⟨gb, rfl, _, hgc, hgm, _⟩ := own_some (HK2.out.row 0 rfl) hpos
        obtain ⟨n, hn⟩ : ∃ n, l3.length = n := ⟨_, rfl⟩
        rw [hn] at HK2 hpos hn5 hgc ⊢
        have HN := Lib.hid hn
        clear hn3 HR e3 hn
        go_wp2_with fail
        go_loopw [10, 71] (fun _ i71 wr => ∃ i : Nat, i ≤ n ∧ i71 = .int .i64 (i : Int) ∧ Kp [] [⟨.slice (some ⟨gb, 0, none⟩) n oc3, 36, 11, n, (nameTo s l3 i).flatMap ruqC⟩] W wr) (fun _ i71 _ => n - (intOf i71).toNat)
        case atStart => exact ⟨0, by omega, rfl, HK2.out⟩
        case round =>
          clear HK2
          obtain ⟨i, hi', rfl, hk⟩ := hrel
          have HK := Lib.hid hk
          clear hk
          by_cases hlt : i < n
          · obtain ⟨x, hx⟩ : ∃ x, l3[i]? = some x := ⟨_, List.getElem?_eq_getElem (by rw [HN.out]; exact hlt)⟩
            have hx2 := (nameTo_at s l3 i).trans hx
            have HNs := Lib.hid (nameTo_set s l3 i x hx)
            have c0 := own_cell (HK.out.row 0 rfl) (ruq_at (nameTo s l3 i) hx2 0 (by omega))
            have f0 := HK.out.free hpos (i * 11)
            rw [Nat.add_zero] at c0
            have hw1 := IntWalk.i64_in ((i : Int) + 1) (by omega)
            have KP := Lib.hid (HK.out.put hpos (i * 11) (.string s))
            have HS := Lib.hid (ruq_set (nameTo s l3 i) i x hx2 s)
            clear hx hx2
            go_wp2_with fail
            go_roundw
            case rel =>
              have h := KP.out
              rw [HS.out, HNs.out] at h
              exact ⟨i + 1, by omega, by go_num, h⟩
            case measure => simp [intOf]; omega
          · have hin : i = n := by omega
            subst hin
            go_wp2_with fail
            refine bodyPost_ret (v := .slice (some ⟨gb, 0, none⟩) i oc3) (by simp [results, Tryd.results43, go_sem]) rfl ⟨⟨_, rfl, ?_⟩, HK.out.below⟩
            rw [nameTo_len, HN.out]
            exact SlV.of_own (HK.out.row 0 rfl)
end Go.Proofs.YtnffecoohkanhaaDoor.Px
