/- The law FlattenOnce, walked. -/
import Derived.Test.YtnffecoohkanhaaDoorM18
import Derived.Test.YtnffecoohkanhaaDoorM26
import Derived.Test.YtnffecoohkanhaaDoorM8
import Derived.Deep.DeepCutAuto
namespace Go.Proofs.YtnffecoohkanhaaDoor.Px
open Go.RowKit
open Go.Maps (Keyed)
open Lk Ld St Py

/-- what a slot of the last region holds: a value, a source that reads as lists -/
inductive Ko where
  | eq (v : Value)
  | src (D : List RuQ) (T : List ZnT) (Ls : List (List UInt8 × List UInt8)) (Sh : List (List UInt8))
def Ko.S : Ko → World → Value → Prop
  | .eq u, _, v => v = u
  | .src D T Ls Sh, w, v => SrcA w v D T Ls Sh
theorem Ko.keep {w w' : World} (hB : Below w.heap.size w w') : ∀ (k : Ko) (v : Value), k.S w v → k.S w' v
  | .eq _, _, h => h
  | .src _ _ _ _, _, h => SrcA.keep h hB
def koS (l : List Ko) (base last : Nat) (d : Nat) (w : World) (v : Value) : Prop := if d = last then v = .bool true else Ko.S (l.getD (d - base) (.eq undef)) w v
theorem koS_keep {l : List Ko} {base last d : Nat} {w w' : World} {v : Value} (h : koS l base last d w v) (hB : Below w.heap.size w w') : koS l base last d w' v := by
  unfold koS at h ⊢
  split
  · rename_i h0; rw [if_pos h0] at h; exact h
  · rename_i h0; rw [if_neg h0] at h; exact Ko.keep hB _ _ h
def guardsK (t : List Nat) (ops : Array Oper) : Bool := ops.toList.all fun o => match o.guard with | none => true | some (j, b) => b && (match (ops[j]?).bind (·.dst) with | some d => t.contains d | none => true)
theorem guardsK_ok {l : List Ko} {base last : Nat} {t : List Nat} {ops : Array Oper} (h : guardsK t ops = true) (hl : ∀ d ∈ t, d ≠ last ∧ l.getD (d - base) (.eq undef) = .eq (.bool true)) : ∀ (i : Nat) (o : Oper) (j : Nat) (b : Bool) (d : Nat), ops[i]? = some o → o.guard = some (j, b) → (ops[j]?).bind (·.dst) = some d → ∀ w v, koS l base last d w v → v = .bool b := by
  intro i o j b d ho hg hd w v hs
  unfold guardsK at h
  have := List.all_eq_true.1 h o (Array.mem_toList_iff.2 (Array.mem_of_getElem? ho))
  rw [hg] at this
  simp only [Bool.and_eq_true] at this
  rw [hd] at this
  obtain ⟨rfl, h2⟩ := this
  dsimp only at h2
  rw [List.contains_eq_mem, decide_eq_true_eq] at h2
  obtain ⟨h3, h4⟩ := hl d h2
  unfold koS at hs
  rw [if_neg h3, h4] at hs
  exact hs
theorem SrcA.cong {w : World} {v : Value} {D : List RuQ} {T : List ZnT} {Ls Ls' : List (List UInt8 × List UInt8)} {Sh : List (List UInt8)} (e : Ls = Ls') (h : SrcA w v D T Ls Sh) : SrcA w v D T Ls' Sh := by
  subst e
  exact h
set_option maxHeartbeats 8000000 in
set_option maxRecDepth 100000 in
theorem once35_any (sv zv lv : Value) (vs zs : List Value) (Ln : List Nat) (z l t : Nat) (To : List Nat) (tv : Value) (W : World) (h : D23 W sv zv lv vs zs Ln) (hz : z < 256) (hl : l < 256) (ht : t < 256) (hT : SlV W tv 1 To.length (To.map u8v)) (hTo : ∀ b ∈ To, b < 256) (hE : EnvAt W) :
    Calls Tryd.prog 4 #[.agg #[sv, zv, lv], .agg #[.int .u8 (z : Int), .int .u8 (l : Int), tv, .int .u8 (t : Int)]] W fun e w' => e = .returned (.bool true) ∧ Below W.heap.size W w' := by
  have C23 := Lib.hid (fun (Y : World) (hB : Below W.heap.size W Y) => made23src_any sv zv lv vs zs Ln Y (h.keep hB) (hE.keep hB))
  have C15 := Lib.hid (fun (Y : World) (hB : Below W.heap.size W Y) => made_any z l t To tv Y hz hl ht (hT.keep hB) hTo (hE.keep hB))
  obtain ⟨sa, sc, rfl, _, _⟩ := h.s.slA
  obtain ⟨za, zc, rfl, _, _⟩ := h.z.slA
  obtain ⟨la, lc, rfl, _, _⟩ := h.l.slA
  obtain ⟨ta, tc, rfl, _, _⟩ := hT.slA
  obtain ⟨vn, hvn⟩ : ∃ n, vs.length = n := ⟨_, rfl⟩
  obtain ⟨zn0, hzn0⟩ : ∃ n, zs.length = n := ⟨_, rfl⟩
  obtain ⟨ln0, hln0⟩ : ∃ n, Ln.length = n := ⟨_, rfl⟩
  obtain ⟨tn, htn⟩ : ∃ n, To.length = n := ⟨_, rfl⟩
  rw [hvn, hzn0, hln0] at C23
  rw [htn] at C15
  rw [hvn, hzn0, hln0, htn]
  obtain ⟨n5, hn5⟩ : ∃ n, 1 + z % 6 = n := ⟨_, rfl⟩
  obtain ⟨m5, hm5⟩ : ∃ m, l % 13 = m := ⟨_, rfl⟩
  obtain ⟨k5, hk5⟩ : ∃ k, t % m5 = k := ⟨_, rfl⟩
  rw [hn5, hm5, hk5] at C15
  have hn51 : 1 ≤ n5 := by omega
  have hn56 : n5 ≤ 6 := by omega
  have hm512 : m5 ≤ 12 := by omega
  obtain ⟨L5, hL5⟩ : ∃ L, rot k5 (lkN n5 m5 To) = L := ⟨_, rfl⟩
  obtain ⟨Zn, hZn⟩ : ∃ L, zN n5 t = L := ⟨_, rfl⟩
  rw [hL5, hZn] at C15
  have HL5 := Lib.hid hL5
  have HZn := Lib.hid (And.intro hZn (show Zn.length = n5 by rw [← hZn]; exact zN_len))
  have HL5l := Lib.hid (show L5.length = m5 by rw [← hL5]; exact made_len)
  have K0 := Lib.hid (((Kp.start W).allocAt W.heap.size rfl (.cells #[.slice sa vn sc, .slice za zn0 zc, .slice la ln0 lc] 54)).allocAt (W.heap.size + 1) (by simp) (.cells #[.int .u8 (z : Int), .int .u8 (l : Int), .slice ta tn tc, .int .u8 (t : Int)] 56))
  obtain ⟨W1, hW1⟩ : ∃ X, (W.alloc (.cells #[.slice sa vn sc, .slice za zn0 zc, .slice la ln0 lc] 54)).alloc (.cells #[.int .u8 (z : Int), .int .u8 (l : Int), .slice ta tn tc, .int .u8 (t : Int)] 56) = X := ⟨_, rfl⟩
  rw [hW1] at K0
  obtain ⟨v0, v1, v2⟩ := (row3 (K0.out.at 1 rfl)).1
  obtain ⟨u0, u1, u2, u3⟩ := row4 (K0.out.at 0 rfl)
  clear h hT hTo hE hvn hzn0 hln0 htn hn5 hm5 hk5 hL5 hZn
  go_enter Tryd.func4, Tryd.ntmps4
  go_upto_region 1 with fail
  try rw [hW1]
  clear hW1
  go_upto_region 2 with (first | (go_at_call 19; refine (C23.out _ K0.out.below).mono ?_; rintro e X ⟨rv, zv', lv', D, T, E, p, m, rfl, hp1, hp3, hm4, hD, hZ, hk⟩; have hka := K0.out.adopt hk; rw [List.append_nil] at hka; obtain ⟨ra, rc, rfl⟩ : ∃ a c, rv = .slice a D.length c := own_slice (hka.row 2 rfl); obtain ⟨za3, zc3, rfl⟩ : ∃ a c, zv' = .slice a p c := own_slice (hka.row 1 rfl); obtain ⟨la4, lc4, rfl⟩ : ∃ a c, lv' = .slice a m c := own_slice (hka.row 0 rfl); have K1 := Lib.hid (hka.allocAt X.heap.size rfl (.cells #[.slice ra D.length rc, .slice za3 p zc3, .slice la4 m lc4, .slice none 0 0] 27)); have HZ := Lib.hid hZ; clear hk hka hZ C23))
  obtain ⟨S, hSq⟩ : ∃ S, X.heap.size = S := ⟨_, rfl⟩
  obtain ⟨Y1, hY1⟩ : ∃ Y, X.alloc (.cells #[.slice ra D.length rc, .slice za3 p zc3, .slice la4 m lc4, .slice none 0 0] 27) = Y := ⟨_, rfl⟩
  rw [hY1] at K1 ⊢
  rw [hSq] at K1 ⊢
  clear hY1 hSq v0 v1 v2 u0 u1 u2 u3 K0
  obtain ⟨u0, u1, u2, u3⟩ := row4 (K1.out.at 1 rfl)
  go_upto_region 3 with (first | (go_at_call 20; refine (C15.out _ K1.out.below).mono ?_; rintro e X ⟨zv5, lv5, rfl, hk⟩; have hka := K1.out.adopt hk; obtain ⟨za5, zc5, rfl⟩ : ∃ a c, zv5 = .slice a n5 c := own_slice (hka.row 1 rfl); obtain ⟨la5, lc5, rfl⟩ : ∃ a c, lv5 = .slice a m5 c := own_slice (hka.row 0 rfl); have K2 := Lib.hid (hka.allocAt X.heap.size rfl (.cells #[.slice none 0 0, .slice za5 n5 zc5, .slice la5 m5 lc5, .slice none 0 0] 27)); clear hk hka C15))
  obtain ⟨M, hMq⟩ : ∃ S, X.heap.size = S := ⟨_, rfl⟩
  obtain ⟨Y2, hY2⟩ : ∃ Y, X.alloc (.cells #[.slice none 0 0, .slice za5 n5 zc5, .slice la5 m5 lc5, .slice none 0 0] 27) = Y := ⟨_, rfl⟩
  rw [hY2] at K2 ⊢
  rw [hMq] at K2 ⊢
  clear hY2 hMq u0 u1 u2 u3 K1
  have HNl := Lib.hid (fun c => own_nil2 (K2.out.row 0 rfl) m5 c)
  have HNz := Lib.hid (fun c => own_nil2 (K2.out.row 1 rfl) n5 c)
  obtain ⟨X1, hx1, hA1⟩ := kp_known K2.out
  obtain ⟨X2, hx2, hA2⟩ := kp_known hx1
  have HA1 := Lib.hid (show Always X1 W (fun Y => SlV Y (.slice la5 m5 lc5) 2 m5 (L5.flatMap kcells)) from hA1)
  have HA2 := Lib.hid (show Always X2 W (fun Y => SlV Y (.slice za5 n5 zc5) 2 n5 ((zos Zn).flatMap zcells)) from hA2)
  have K4 := Lib.hid (show Kp ((M, .cells #[.slice none 0 0, .slice za5 n5 zc5, .slice la5 m5 lc5, .slice none 0 0] 27) :: (S, .cells #[.slice ra D.length rc, .slice za3 p zc3, .slice la4 m lc4, .slice none 0 0] 27) :: (W.heap.size + 1, .cells #[.int .u8 (z : Int), .int .u8 (l : Int), .slice ta tn tc, .int .u8 (t : Int)] 56) :: (W.heap.size, .cells #[.slice sa vn sc, .slice za zn0 zc, .slice la ln0 lc] 54) :: (X1 ++ X2)) (⟨.slice za3 p zc3, 40, 2, p, (E.map Prod.snd).flatMap zcells⟩ :: ⟨.slice la4 m lc4, 43, 2, m, (L23 p m Ln).flatMap kcells⟩ :: ⟨.slice ra D.length rc, 36, 11, D.length, D.flatMap ruqC⟩ :: E.reverse.map eraR) W Y2 from (show Kp ((M, .cells #[.slice none 0 0, .slice za5 n5 zc5, .slice la5 m5 lc5, .slice none 0 0] 27) :: (S, .cells #[.slice ra D.length rc, .slice za3 p zc3, .slice la4 m lc4, .slice none 0 0] 27) :: (W.heap.size + 1, .cells #[.int .u8 (z : Int), .int .u8 (l : Int), .slice ta tn tc, .int .u8 (t : Int)] 56) :: (W.heap.size, .cells #[.slice sa vn sc, .slice za zn0 zc, .slice la ln0 lc] 54) :: (X1 ++ X2)) (⟨.slice la4 m lc4, 43, 2, m, (L23 p m Ln).flatMap kcells⟩ :: ⟨.slice za3 p zc3, 40, 2, p, (E.map Prod.snd).flatMap zcells⟩ :: ⟨.slice ra D.length rc, 36, 11, D.length, D.flatMap ruqC⟩ :: E.reverse.map eraR) W Y2 from hx2).swap)
  clear hA1 hA2 hx1 hx2 K2
  obtain ⟨iz, hzz, hz0, hz1, hz2⟩ := info_partsU infoZn
  obtain ⟨il, hlz, hl0, hl1, hl2⟩ := info_partsU infoLn
  refine Py.wp_region_kps_tail 11 (by kernel_rfl) (by kernel_rfl) W _ (⟨.slice ra D.length rc, 36, 11, D.length, D.flatMap ruqC⟩ :: E.reverse.map eraR) [⟨4, 23, ⟨.slice za3 p zc3, 40, 2, p, (E.map Prod.snd).flatMap zcells⟩, p + n5, (E.map Prod.snd).flatMap zcells ++ (zos Zn).flatMap zcells⟩, ⟨9, 28, ⟨.slice la4 m lc4, 43, 2, m, (L23 p m Ln).flatMap kcells⟩, m + m5, (L23 p m Ln).flatMap kcells ++ L5.flatMap kcells⟩] [] (by kernel_rfl) (kkS [(19, .eq (.pointer (some ⟨S, 1, none⟩))), (20, .eq (.slice za3 p zc3)), (21, .eq (.pointer (some ⟨M, 1, none⟩))), (22, .eq (.slice za5 n5 zc5)), (24, .eq (.pointer (some ⟨S, 2, none⟩))), (25, .eq (.slice la4 m lc4)), (26, .eq (.pointer (some ⟨M, 2, none⟩))), (27, .eq (.slice la5 m5 lc5)), (29, .eq (.pointer (some ⟨S, 1, none⟩)))]) (by kernel_rfl) ?hat (of_decide_eq_true (by kernel_rfl)) (by kernel_rfl) (kkS_mono _) K4.out ?steps ?hend
  case hat =>
    intro j hj
    simp only [List.mem_cons, List.not_mem_nil, or_false] at hj
    rcases hj with rfl | rfl
    · exact ⟨_, rfl, rfl⟩
    · exact ⟨_, rfl, rfl⟩
  case steps =>
    refine stepsK_n 19 rfl (by kernel_rfl) ?_ ?_
    · intro TT D' w lq R hk hF K hK0
      have hK := Lib.hid hK0
      have q5 : TT[5]?.getD undef = .pointer (some ⟨S, 0, none⟩) := hF.old 5 (by kernel_rfl)
      have hk := Lib.hid hk
      clear hK0 hF
      go_simp
      exact hK.out _ _ _ hk.out (fun _ hp => hp) rfl
    refine stepsK_n 20 rfl (by kernel_rfl) ?_ ?_
    · intro TT D' w lq R hk hF K hK0
      have hK := Lib.hid hK0
      have q19 : TT[19]?.getD undef = .pointer (some ⟨S, 1, none⟩) := hF.on 0 (by kernel_rfl) (by kernel_rfl) rfl rfl
      have c : _ := row4 (hk.atM (hF.sub _ (List.mem_cons_of_mem _ (List.mem_cons_self ..))))
      obtain ⟨c0, c1, c2, c3⟩ := c
      have hk := Lib.hid hk
      clear hK0 hF
      go_simp
      exact hK.out _ _ _ hk.out (fun _ hp => hp) rfl
    refine stepsK_n 21 rfl (by kernel_rfl) ?_ ?_
    · intro TT D' w lq R hk hF K hK0
      have hK := Lib.hid hK0
      have q6 : TT[6]?.getD undef = .pointer (some ⟨M, 0, none⟩) := hF.old 6 (by kernel_rfl)
      have hk := Lib.hid hk
      clear hK0 hF
      go_simp
      exact hK.out _ _ _ hk.out (fun _ hp => hp) rfl
    refine stepsK_n 22 rfl (by kernel_rfl) ?_ ?_
    · intro TT D' w lq R hk hF K hK0
      have hK := Lib.hid hK0
      have q21 : TT[21]?.getD undef = .pointer (some ⟨M, 1, none⟩) := hF.on 2 (by kernel_rfl) (by kernel_rfl) rfl rfl
      have c : _ := row4 (hk.atM (hF.sub _ (List.mem_cons_self ..)))
      obtain ⟨c0, c1, c2, c3⟩ := c
      have hk := Lib.hid hk
      clear hK0 hF
      go_simp
      exact hK.out _ _ _ hk.out (fun _ hp => hp) rfl
    refine stepsK_j _ rfl ?_ ?_
    · intro TT D' w lq R hk hF K hK0
      have hK := Lib.hid hK0
      have q1 : TT[20]?.getD undef = .slice za3 p zc3 := hF.on 1 (by kernel_rfl) (by kernel_rfl) rfl rfl
      have q2 : TT[22]?.getD undef = .slice za5 n5 zc5 := hF.on 3 (by kernel_rfl) (by kernel_rfl) rfl rfl
      exact job_append_flat (.tmp 20) (.tmp 22) rfl rfl Tryd.underlying23 hzz hz0 hz1 hz2 rfl (by decide) (by decide) hk _ ((zos Zn).flatMap zcells) (.slice za5 n5 zc5) (HA2.out _ _ _ (fun x hx => hF.sub _ (List.mem_cons_of_mem _ (List.mem_cons_of_mem _ (List.mem_cons_of_mem _ (List.mem_cons_of_mem _ (List.mem_append_right _ hx)))))) hk) one_zones HNz.out (by omega) (eval_tmp q1) (eval_tmp q2) (fun v' w' hk' => hK.out v' w' hk')
    refine stepsK_n 24 rfl (by kernel_rfl) ?_ ?_
    · intro TT D' w lq R hk hF K hK0
      have hK := Lib.hid hK0
      have q5 : TT[5]?.getD undef = .pointer (some ⟨S, 0, none⟩) := hF.old 5 (by kernel_rfl)
      have hk := Lib.hid hk
      clear hK0 hF
      go_simp
      exact hK.out _ _ _ hk.out (fun _ hp => hp) rfl
    refine stepsK_n 25 rfl (by kernel_rfl) ?_ ?_
    · intro TT D' w lq R hk hF K hK0
      have hK := Lib.hid hK0
      have q24 : TT[24]?.getD undef = .pointer (some ⟨S, 2, none⟩) := hF.on 5 (by kernel_rfl) (by kernel_rfl) rfl rfl
      have c : _ := row4 (hk.atM (hF.sub _ (List.mem_cons_of_mem _ (List.mem_cons_self ..))))
      obtain ⟨c0, c1, c2, c3⟩ := c
      have hk := Lib.hid hk
      clear hK0 hF
      go_simp
      exact hK.out _ _ _ hk.out (fun _ hp => hp) rfl
    refine stepsK_n 26 rfl (by kernel_rfl) ?_ ?_
    · intro TT D' w lq R hk hF K hK0
      have hK := Lib.hid hK0
      have q6 : TT[6]?.getD undef = .pointer (some ⟨M, 0, none⟩) := hF.old 6 (by kernel_rfl)
      have hk := Lib.hid hk
      clear hK0 hF
      go_simp
      exact hK.out _ _ _ hk.out (fun _ hp => hp) rfl
    refine stepsK_n 27 rfl (by kernel_rfl) ?_ ?_
    · intro TT D' w lq R hk hF K hK0
      have hK := Lib.hid hK0
      have q26 : TT[26]?.getD undef = .pointer (some ⟨M, 2, none⟩) := hF.on 7 (by kernel_rfl) (by kernel_rfl) rfl rfl
      have c : _ := row4 (hk.atM (hF.sub _ (List.mem_cons_self ..)))
      obtain ⟨c0, c1, c2, c3⟩ := c
      have hk := Lib.hid hk
      clear hK0 hF
      go_simp
      exact hK.out _ _ _ hk.out (fun _ hp => hp) rfl
    refine stepsK_j _ rfl ?_ ?_
    · intro TT D' w lq R hk hF K hK0
      have hK := Lib.hid hK0
      have q1 : TT[25]?.getD undef = .slice la4 m lc4 := hF.on 6 (by kernel_rfl) (by kernel_rfl) rfl rfl
      have q2 : TT[27]?.getD undef = .slice la5 m5 lc5 := hF.on 8 (by kernel_rfl) (by kernel_rfl) rfl rfl
      exact job_append_flat (.tmp 25) (.tmp 27) rfl rfl Tryd.underlying24 hlz hl0 hl1 hl2 rfl (by decide) (by decide) hk _ (L5.flatMap kcells) (.slice la5 m5 lc5) (HA1.out _ _ _ (fun x hx => hF.sub _ (List.mem_cons_of_mem _ (List.mem_cons_of_mem _ (List.mem_cons_of_mem _ (List.mem_cons_of_mem _ (List.mem_append_left _ hx)))))) hk) one_links HNl.out (by omega) (eval_tmp q1) (eval_tmp q2) (fun v' w' hk' => hK.out v' w' hk')
    refine stepsK_n 29 rfl (by kernel_rfl) ?_ ?_
    · intro TT D' w lq R hk hF K hK0
      have hK := Lib.hid hK0
      have q5 : TT[5]?.getD undef = .pointer (some ⟨S, 0, none⟩) := hF.old 5 (by kernel_rfl)
      have hk := Lib.hid hk
      clear hK0 hF
      go_simp
      exact hK.out _ _ _ hk.out (fun _ hp => hp) rfl
    exact stepsK_nil
  case hend =>
    intro TT w lq hsz hk hsub hold hS
    obtain ⟨G, hG⟩ : ∃ G : Nat → Value, ∀ t, TT[t]?.getD undef = G t := ⟨_, fun _ => rfl⟩
    have hk2 := hk
    simp only [List.map_cons, List.map_nil, Job.row, hG, List.cons_append, List.nil_append] at hk2
    have KM := hk2.sub K4.out hsub
    obtain ⟨ga, gc, e23⟩ := own_slice (KM.row 0 rfl)
    obtain ⟨gb, gd, e28⟩ := own_slice (KM.row 1 rfl)
    dsimp only at e23 e28
    rw [e23, e28] at KM
    have KN := Lib.hid KM
    have e' := tmps_mix [19, 20, 21, 22, 23, 24, 25, 26, 27, 28, 29] (by kernel_rfl) hsz hold
    simp only [List.foldl_cons, List.foldl_nil, hG, List.setIfInBounds_toArray, List.set_cons_zero, List.set_cons_succ] at e'
    have e29 : G 29 = .pointer (some ⟨S, 1, none⟩) := by
      have := (show KK.S (.eq (.pointer (some ⟨S, 1, none⟩))) lq (TT[29]?.getD undef) none from hS 10 _ 29 rfl rfl (by kernel_rfl))
      rw [hG] at this
      exact this
    rw [e', e23, e28, e29]
    clear e' e23 e28 e29 hold hS hG hsz hk hk2 hsub KM
    obtain ⟨y0, y1, y2, y3⟩ := row4 (KN.out.at 1 rfl)
    have y4 := free_at (KN.out.at 1 rfl) 1
    have y5 := free_at (KN.out.at 1 rfl) 2
    simp only [List.drop_succ_cons, List.drop_zero, TailWp]
    go_simp
    have K9 := Lib.hid ((KN.out.set 1 rfl 1 (.slice ga (p + n5) gc) rfl).set 1 rfl 2 (.slice gb (m + m5) gd) rfl)
    clear y0 y1 y2 y3 y4 y5 KN K4 HA1 HA2
    obtain ⟨w9, hw9⟩ : ∃ X, (w.setCell ⟨S, 1, none⟩ (.slice ga (p + n5) gc)).setCell ⟨S, 2, none⟩ (.slice gb (m + m5) gd) = X := ⟨_, rfl⟩
    rw [hw9] at K9
    try rw [hw9]
    clear hw9
    obtain ⟨TJ, hTJ⟩ : ∃ x, joinT T n5 t = x := ⟨_, rfl⟩
    obtain ⟨LJ, hLJ⟩ : ∃ x, joinL p m Ln k5 n5 m5 To = x := ⟨_, rfl⟩
    have HJ := Lib.hid (show Joined D TJ LJ (p + n5) (m + m5) from hTJ ▸ hLJ ▸ join_plain hD HZ.out hp1 hp3 hm4 hn51 hn56 hm512)
    have HPS := Lib.hid (show ∃ Q, SrcP w9 (.slice ra D.length rc) (.slice ga (p + n5) gc) (.slice gb (m + m5) gd) (.slice none 0 0) D TJ Q LJ [] ∧ w9.ownsRow W.heap.size 40 2 (.slice ga (p + n5) gc) Q.length (Q.flatMap zcells) ∧ w9.ownsRow W.heap.size 43 2 (.slice gb (m + m5) gd) LJ.length (LJ.flatMap kcells) from by
      have hzt := zt_copy (R := [_, _, _]) K9.out HZ.out.zq HZ.out.same
      have hzl : (E.map Prod.snd ++ zos Zn).length = p + n5 := by
        unfold zos
        rw [List.length_append, List.length_map, List.length_map, HZ.out.len.2, HZn.out.2]
      have hz : w9.ownsRow W.heap.size 40 2 (.slice ga (p + n5) gc) (E.map Prod.snd ++ zos Zn).length ((E.map Prod.snd ++ zos Zn).flatMap zcells) := by
        rw [hzl, List.flatMap_append]
        exact K9.out.row 0 rfl
      have hl : w9.ownsRow W.heap.size 43 2 (.slice gb (m + m5) gd) LJ.length (LJ.flatMap kcells) := by
        rw [HJ.out.ll, ← hLJ]
        unfold joinL
        rw [List.flatMap_append, HL5.out]
        exact K9.out.row 1 rfl
      refine ⟨E.map Prod.snd ++ zos Zn, srcP_own (K9.out.row 2 rfl) hz hl (World.ownsRow_nil _ _ _ _) ?_ (fun o ho => ?_) HJ.out.small, hz, hl⟩
      · rw [← hTJ]
        unfold joinT
        rw [HZn.out.1]
        exact zt_join hzt Zn
      · rcases List.mem_append.1 ho with ho | ho
        · exact eras_nil2 (R := [_, _, _]) K9.out o ho
        · obtain ⟨x, _, rfl⟩ := List.mem_map.1 ho
          intro n c hc
          simp only [zo1, Value.slice.injEq] at hc
          exact hc.2.2.symm)
    obtain ⟨nT, hnT⟩ : ∃ k, p + n5 = k := ⟨_, rfl⟩
    obtain ⟨nL, hnL⟩ : ∃ k, m + m5 = k := ⟨_, rfl⟩
    rw [hnT, hnL] at K9 HPS HJ
    have HnT := Lib.hid (show 1 ≤ nT ∧ nT ≤ 9 ∧ nL ≤ 16 by omega)
    clear hnT hnL
    obtain ⟨Q9, hp9, _, _⟩ := HPS.out
    have HP9 := Lib.hid hp9
    clear hp9 HPS HZ HL5 HZn HL5l
    obtain ⟨CT, hCT⟩ := stb_ex TJ
    obtain ⟨CL, hCL⟩ := stb_ex LJ
    have hFi := HJ.out.fine
    have hTp := stb_to_perm hCT
    have hLp := stb_to_perm hCL
    have hSf := hFi.sort_flat (hTp.map Prod.fst) hCL
    have HCT := Lib.hid hCT
    have HCL := Lib.hid hCL
    have HSf := Lib.hid hSf
    have HFi := Lib.hid hFi
    have HFp := Lib.hid (hFi.perm (hTp.map Prod.fst) hLp)
    have HF := Lib.hid HJ.out.few
    have HFf := Lib.hid (show Few D TJ (flatL (TJ.map Prod.fst) LJ) [] from ⟨HF.out.d, HF.out.t, by rw [flatL_len]; exact HF.out.l, HF.out.s, HF.out.e⟩)
    have HFs := Lib.hid (show Few D CT CL [] from ⟨HF.out.d, by rw [hTp.length_eq]; exact HF.out.t, by rw [hLp.length_eq]; exact HF.out.l, HF.out.s, fun p hp => HF.out.e p (hTp.mem_iff.1 hp)⟩)
    have HSm := Lib.hid HJ.out.small
    have HSmf := Lib.hid (flat_small (small_names HSm.out) HSm.out)
    have HSms := Lib.hid (show SmallN CT CL from ⟨fun p hp => HSm.out.t p (hTp.mem_iff.1 hp), fun p hp => HSm.out.l p (hLp.mem_iff.1 hp)⟩)
    have HLn := Lib.hid (show CT.length = nT ∧ CL.length = nL from ⟨by rw [hTp.length_eq]; exact HJ.out.tl, by rw [hLp.length_eq]; exact HJ.out.ll⟩)
    have HTl := Lib.hid HJ.out.tl
    clear hCT hCL hFi hTp hLp hSf hD
    have K3 := Lib.hid (K9.out.pick (M := [(S, .cells #[.slice ra D.length rc, .slice ga (nT) gc, .slice gb (nL) gd, .slice none 0 0] 27), (W.heap.size + 1, .cells #[.int .u8 (z : Int), .int .u8 (l : Int), .slice ta tn tc, .int .u8 (t : Int)] 56), (W.heap.size, .cells #[.slice sa vn sc, .slice za zn0 zc, .slice la ln0 lc] 54)]) (.cons _ (.cons_cons _ (.cons_cons _ (.cons_cons _ (List.nil_sublist _))))))
    clear K9
    obtain ⟨y0, y1, y2, y3⟩ := row4 (K3.out.at 0 rfl)
    go_upto_region 5 with (first | (go_at_call 14; refine (linksW HP9.out HF.out HSm.out HFi.out.check).mono ?_; rintro e X4 ⟨v4, rfl, ⟨ra4, za4, la4, sa4, rc4, zc4, lc4, sc4, Q4, ev, hp4⟩, hb4⟩; subst ev; have K4 := Lib.hid ((K3.out.keep hb4).allocAt X4.heap.size rfl (.cells #[.slice ra4 D.length rc4, .slice za4 (TJ).length zc4, .slice la4 (flatL (TJ.map Prod.fst) LJ).length lc4, .slice sa4 0 sc4] 27)); have B4 := Lib.hid (hb4.alloc (by have := hb4.size; omega) (.cells #[.slice ra4 D.length rc4, .slice za4 (TJ).length zc4, .slice la4 (flatL (TJ.map Prod.fst) LJ).length lc4, .slice sa4 0 sc4] 27)); have HP4 := Lib.hid (hp4.keep ((Below.refl _ X4).alloc (Nat.le_refl _) (.cells #[.slice ra4 D.length rc4, .slice za4 (TJ).length zc4, .slice la4 (flatL (TJ.map Prod.fst) LJ).length lc4, .slice sa4 0 sc4] 27))); clear hb4 hp4))
    obtain ⟨p4, hp4⟩ : ∃ p, X4.heap.size = p := ⟨_, rfl⟩
    obtain ⟨w4, hw4⟩ : ∃ X, X4.alloc (.cells #[.slice ra4 D.length rc4, .slice za4 (TJ).length zc4, .slice la4 (flatL (TJ.map Prod.fst) LJ).length lc4, .slice sa4 0 sc4] 27) = X := ⟨_, rfl⟩
    rw [hw4] at K4 B4 HP4 ⊢
    rw [hp4] at K4 ⊢
    clear hw4 hp4 y0 y1 y2 y3 K3
    replace HP9 := Lib.hid (HP9.out.keep B4.out)
    clear B4
    obtain ⟨y0, y1, y2, y3⟩ := row4 (K4.out.at 0 rfl)
    go_upto_region 6 with (first | (go_at_call 14; refine (linksW HP4.out HFf.out HSmf.out HFi.out.flat.check).mono ?_; rintro e X5 ⟨v5, rfl, ⟨ra5, za5, la5, sa5, rc5, zc5, lc5, sc5, Q5, ev, hp5⟩, hb5⟩; subst ev; have K5 := Lib.hid ((K4.out.keep hb5).allocAt X5.heap.size rfl (.cells #[.slice ra5 D.length rc5, .slice za5 (TJ).length zc5, .slice la5 (flatL (TJ.map Prod.fst) (flatL (TJ.map Prod.fst) LJ)).length lc5, .slice sa5 0 sc5] 27)); have B5 := Lib.hid (hb5.alloc (by have := hb5.size; omega) (.cells #[.slice ra5 D.length rc5, .slice za5 (TJ).length zc5, .slice la5 (flatL (TJ.map Prod.fst) (flatL (TJ.map Prod.fst) LJ)).length lc5, .slice sa5 0 sc5] 27)); have HP5 := Lib.hid (hp5.keep ((Below.refl _ X5).alloc (Nat.le_refl _) (.cells #[.slice ra5 D.length rc5, .slice za5 (TJ).length zc5, .slice la5 (flatL (TJ.map Prod.fst) (flatL (TJ.map Prod.fst) LJ)).length lc5, .slice sa5 0 sc5] 27))); clear hb5 hp5))
    obtain ⟨p5, hp5⟩ : ∃ p, X5.heap.size = p := ⟨_, rfl⟩
    obtain ⟨w5, hw5⟩ : ∃ X, X5.alloc (.cells #[.slice ra5 D.length rc5, .slice za5 (TJ).length zc5, .slice la5 (flatL (TJ.map Prod.fst) (flatL (TJ.map Prod.fst) LJ)).length lc5, .slice sa5 0 sc5] 27) = X := ⟨_, rfl⟩
    rw [hw5] at K5 B5 HP5 ⊢
    rw [hp5] at K5 ⊢
    clear hw5 hp5 y0 y1 y2 y3 K4
    replace HP9 := Lib.hid (HP9.out.keep B5.out)
    replace HP4 := Lib.hid (HP4.out.keep B5.out)
    clear B5
    obtain ⟨y0, y1, y2, y3⟩ := row4 (K5.out.at 2 rfl)
    go_upto_region 7 with (first | (go_at_call 17; refine (sortW HP9.out HF.out HSm.out HCT.out HCL.out).mono ?_; rintro e X6 ⟨v6, rfl, ⟨ra6, za6, la6, sa6, rc6, zc6, lc6, sc6, Q6, ev, hp6⟩, hb6⟩; subst ev; have K6 := Lib.hid ((K5.out.keep hb6).allocAt X6.heap.size rfl (.cells #[.slice ra6 D.length rc6, .slice za6 (CT).length zc6, .slice la6 (CL).length lc6, .slice sa6 0 sc6] 27)); have B6 := Lib.hid (hb6.alloc (by have := hb6.size; omega) (.cells #[.slice ra6 D.length rc6, .slice za6 (CT).length zc6, .slice la6 (CL).length lc6, .slice sa6 0 sc6] 27)); have HP6 := Lib.hid (hp6.keep ((Below.refl _ X6).alloc (Nat.le_refl _) (.cells #[.slice ra6 D.length rc6, .slice za6 (CT).length zc6, .slice la6 (CL).length lc6, .slice sa6 0 sc6] 27))); clear hb6 hp6))
    obtain ⟨p6, hp6⟩ : ∃ p, X6.heap.size = p := ⟨_, rfl⟩
    obtain ⟨w6, hw6⟩ : ∃ X, X6.alloc (.cells #[.slice ra6 D.length rc6, .slice za6 (CT).length zc6, .slice la6 (CL).length lc6, .slice sa6 0 sc6] 27) = X := ⟨_, rfl⟩
    rw [hw6] at K6 B6 HP6 ⊢
    rw [hp6] at K6 ⊢
    clear hw6 hp6 y0 y1 y2 y3 K5
    replace HP9 := Lib.hid (HP9.out.keep B6.out)
    replace HP4 := Lib.hid (HP4.out.keep B6.out)
    replace HP5 := Lib.hid (HP5.out.keep B6.out)
    clear B6
    obtain ⟨y0, y1, y2, y3⟩ := row4 (K6.out.at 0 rfl)
    go_upto_region 8 with (first | (go_at_call 14; refine (linksW HP6.out HFs.out HSms.out HFp.out.check).mono ?_; rintro e X7 ⟨v7, rfl, ⟨ra7, za7, la7, sa7, rc7, zc7, lc7, sc7, Q7, ev, hp7⟩, hb7⟩; subst ev; have K7 := Lib.hid ((K6.out.keep hb7).allocAt X7.heap.size rfl (.cells #[.slice ra7 D.length rc7, .slice za7 (CT).length zc7, .slice la7 (flatL (CT.map Prod.fst) CL).length lc7, .slice sa7 0 sc7] 27)); have B7 := Lib.hid (hb7.alloc (by have := hb7.size; omega) (.cells #[.slice ra7 D.length rc7, .slice za7 (CT).length zc7, .slice la7 (flatL (CT.map Prod.fst) CL).length lc7, .slice sa7 0 sc7] 27)); have HP7 := Lib.hid (hp7.keep ((Below.refl _ X7).alloc (Nat.le_refl _) (.cells #[.slice ra7 D.length rc7, .slice za7 (CT).length zc7, .slice la7 (flatL (CT.map Prod.fst) CL).length lc7, .slice sa7 0 sc7] 27))); clear hb7 hp7))
    obtain ⟨p7, hp7⟩ : ∃ p, X7.heap.size = p := ⟨_, rfl⟩
    obtain ⟨w7, hw7⟩ : ∃ X, X7.alloc (.cells #[.slice ra7 D.length rc7, .slice za7 (CT).length zc7, .slice la7 (flatL (CT.map Prod.fst) CL).length lc7, .slice sa7 0 sc7] 27) = X := ⟨_, rfl⟩
    rw [hw7] at K7 B7 HP7 ⊢
    rw [hp7] at K7 ⊢
    clear hw7 hp7 y0 y1 y2 y3 K6
    replace HP9 := Lib.hid (HP9.out.keep B7.out)
    replace HP4 := Lib.hid (HP4.out.keep B7.out)
    replace HP5 := Lib.hid (HP5.out.keep B7.out)
    replace HP6 := Lib.hid (HP6.out.keep B7.out)
    clear B7
    go_upto_region 9 with fail
    refine wp_region_steps (by kernel_rfl) (koS [.eq (.int .i64 0), .eq (.bool true), .eq (.bool true), .eq (.int .i64 0), .eq (.bool true), .eq (.bool true), .eq (.bool true), .eq (.int .i64 0), .eq (.bool true), .eq (.bool true), .eq (.bool true), .eq (.pointer (some ⟨p4, 1, none⟩)), .eq (.slice za4 (TJ).length zc4), .eq (.int .i64 (nT : Int)), .eq (.pointer (some ⟨S, 1, none⟩)), .eq (.slice ga nT gc), .eq (.int .i64 (nT : Int)), .eq (.bool true), .eq (.bool true), .eq (.bool true), .eq (.func (.func 16) #[] #[]), .eq (.agg #[.slice ra4 D.length rc4, .slice za4 (TJ).length zc4, .slice la4 (flatL (TJ.map Prod.fst) LJ).length lc4, .slice sa4 0 sc4]), .eq (.agg #[.slice ra5 D.length rc5, .slice za5 (TJ).length zc5, .slice la5 (flatL (TJ.map Prod.fst) (flatL (TJ.map Prod.fst) LJ)).length lc5, .slice sa5 0 sc5]), .eq (.bool true), .eq (.bool true), .eq (.bool true), .eq (.func (.func 16) #[] #[]), .eq (.agg #[.slice ra6 D.length rc6, .slice za6 (CT).length zc6, .slice la6 (CL).length lc6, .slice sa6 0 sc6]), .eq (.agg #[.slice ra6 D.length rc6, .slice za6 (CT).length zc6, .slice la6 (CL).length lc6, .slice sa6 0 sc6]), .src D CT CL [], .eq (.bool true), .eq (.bool true), .eq (.bool true), .eq (.func (.func 16) #[] #[]), .eq (.agg #[.slice ra7 D.length rc7, .slice za7 (CT).length zc7, .slice la7 (flatL (CT.map Prod.fst) CL).length lc7, .slice sa7 0 sc7]), .eq (.agg #[.slice ra4 D.length rc4, .slice za4 (TJ).length zc4, .slice la4 (flatL (TJ.map Prod.fst) LJ).length lc4, .slice sa4 0 sc4]), .src D CT (flatL (CT.map Prod.fst) CL) [], .eq (.bool true), .eq (.bool true), .eq (.bool true), .eq (.pointer (some ⟨p6, 0, none⟩)), .eq (.slice ra6 D.length rc6), .eq (.pointer (some ⟨S, 0, none⟩)), .eq (.slice ra D.length rc), .eq (.bool true), .eq (.bool true), .eq (.bool true), .eq (.pointer (some ⟨p4, 0, none⟩)), .eq (.slice ra4 D.length rc4), .eq (.pointer (some ⟨S, 0, none⟩)), .eq (.slice ra D.length rc), .eq (.bool true), .eq (.bool true), .eq (.bool true), .eq (.bool true), .eq (.bool true)] 48 4) (by kernel_rfl) (guardsK_ok (t := [50, 54, 58, 67, 73, 80, 87, 94, 101]) (by kernel_rfl) (fun d hd => by
      simp only [List.mem_cons, List.not_mem_nil, or_false] at hd
      rcases hd with rfl | rfl | rfl | rfl | rfl | rfl | rfl | rfl | rfl <;> exact ⟨by decide, rfl⟩)) (fun d w w' v h hB => koS_keep h hB) ?steps2 ?hend2
    case steps2 =>
      refine steps_cons 48 rfl ?_ ?_
      · intro T D' w hB0 hold hdep K hK0
        have hK := Lib.hid hK0
        have h8 : T[8]?.getD undef = .int .i64 0 := hold 8 rfl
        clear hold hdep hK0
        go_simp
        exact hK.out _ _ (Below.refl _ _) rfl
      refine steps_cons 49 rfl ?_ ?_
      · intro T D' w hB0 hold hdep K hK0
        have hK := Lib.hid hK0
        have q48 : T[48]?.getD undef = .int .i64 0 := dep hdep 0 (by kernel_rfl) rfl rfl
        clear hold hdep hK0
        go_simp
        exact hK.out _ _ (Below.refl _ _) rfl
      refine steps_cons 50 rfl ?_ ?_
      · intro T D' w hB0 hold hdep K hK0
        have hK := Lib.hid hK0
        have q49 : T[49]?.getD undef = .bool true := dep hdep 1 (by kernel_rfl) rfl rfl
        clear hold hdep hK0
        go_simp
        exact hK.out _ _ (Below.refl _ _) rfl
      refine steps_cons 51 rfl ?_ ?_
      · intro T D' w hB0 hold hdep K hK0
        have hK := Lib.hid hK0
        have h10 : T[10]?.getD undef = .int .i64 0 := hold 10 rfl
        clear hold hdep hK0
        go_simp
        exact hK.out _ _ (Below.refl _ _) rfl
      refine steps_cons 52 rfl ?_ ?_
      · intro T D' w hB0 hold hdep K hK0
        have hK := Lib.hid hK0
        have q51 : T[51]?.getD undef = .int .i64 0 := dep hdep 3 (by kernel_rfl) rfl rfl
        clear hold hdep hK0
        go_simp
        exact hK.out _ _ (Below.refl _ _) rfl
      refine steps_cons 53 rfl ?_ ?_
      · intro T D' w hB0 hold hdep K hK0
        have hK := Lib.hid hK0
        have q50 : T[50]?.getD undef = .bool true := dep hdep 2 (by kernel_rfl) rfl rfl
        have q52 : T[52]?.getD undef = .bool true := dep hdep 4 (by kernel_rfl) rfl rfl
        clear hold hdep hK0
        go_simp
        exact hK.out _ _ (Below.refl _ _) rfl
      refine steps_cons 54 rfl ?_ ?_
      · intro T D' w hB0 hold hdep K hK0
        have hK := Lib.hid hK0
        have q53 : T[53]?.getD undef = .bool true := dep hdep 5 (by kernel_rfl) rfl rfl
        clear hold hdep hK0
        go_simp
        exact hK.out _ _ (Below.refl _ _) rfl
      refine steps_cons 55 rfl ?_ ?_
      · intro T D' w hB0 hold hdep K hK0
        have hK := Lib.hid hK0
        have h13 : T[13]?.getD undef = .int .i64 0 := hold 13 rfl
        clear hold hdep hK0
        go_simp
        exact hK.out _ _ (Below.refl _ _) rfl
      refine steps_cons 56 rfl ?_ ?_
      · intro T D' w hB0 hold hdep K hK0
        have hK := Lib.hid hK0
        have q55 : T[55]?.getD undef = .int .i64 0 := dep hdep 7 (by kernel_rfl) rfl rfl
        clear hold hdep hK0
        go_simp
        exact hK.out _ _ (Below.refl _ _) rfl
      refine steps_cons 57 rfl ?_ ?_
      · intro T D' w hB0 hold hdep K hK0
        have hK := Lib.hid hK0
        have q54 : T[54]?.getD undef = .bool true := dep hdep 6 (by kernel_rfl) rfl rfl
        have q56 : T[56]?.getD undef = .bool true := dep hdep 8 (by kernel_rfl) rfl rfl
        clear hold hdep hK0
        go_simp
        exact hK.out _ _ (Below.refl _ _) rfl
      refine steps_cons 58 rfl ?_ ?_
      · intro T D' w hB0 hold hdep K hK0
        have hK := Lib.hid hK0
        have q57 : T[57]?.getD undef = .bool true := dep hdep 9 (by kernel_rfl) rfl rfl
        clear hold hdep hK0
        go_simp
        exact hK.out _ _ (Below.refl _ _) rfl
      refine steps_cons 59 rfl ?_ ?_
      · intro T D' w hB0 hold hdep K hK0
        have hK := Lib.hid hK0
        have h7 : T[7]?.getD undef = .pointer (some ⟨p4, 0, none⟩) := hold 7 rfl
        clear hold hdep hK0
        go_simp
        exact hK.out _ _ (Below.refl _ _) rfl
      refine steps_cons 60 rfl ?_ ?_
      · intro T D' w hB0 hold hdep K hK0
        have hK := Lib.hid hK0
        have q59 : T[59]?.getD undef = .pointer (some ⟨p4, 1, none⟩) := dep hdep 11 (by kernel_rfl) rfl rfl
        clear hold hdep hK0
        obtain ⟨c0, c1, c2, c3⟩ := row4 ((K7.out.keep hB0).at 3 rfl)
        go_simp
        exact hK.out _ _ (Below.refl _ _) rfl
      refine steps_cons 61 rfl ?_ ?_
      · intro T D' w hB0 hold hdep K hK0
        have hK := Lib.hid hK0
        have q60 : T[60]?.getD undef = .slice za4 (TJ).length zc4 := dep hdep 12 (by kernel_rfl) rfl rfl
        clear hold hdep hK0
        have e := HTl.out
        go_simp
        exact hK.out _ _ (Below.refl _ _) rfl
      refine steps_cons 62 rfl ?_ ?_
      · intro T D' w hB0 hold hdep K hK0
        have hK := Lib.hid hK0
        have h5 : T[5]?.getD undef = .pointer (some ⟨S, 0, none⟩) := hold 5 rfl
        clear hold hdep hK0
        go_simp
        exact hK.out _ _ (Below.refl _ _) rfl
      refine steps_cons 63 rfl ?_ ?_
      · intro T D' w hB0 hold hdep K hK0
        have hK := Lib.hid hK0
        have q62 : T[62]?.getD undef = .pointer (some ⟨S, 1, none⟩) := dep hdep 14 (by kernel_rfl) rfl rfl
        clear hold hdep hK0
        obtain ⟨c0, c1, c2, c3⟩ := row4 ((K7.out.keep hB0).at 4 rfl)
        go_simp
        exact hK.out _ _ (Below.refl _ _) rfl
      refine steps_cons 64 rfl ?_ ?_
      · intro T D' w hB0 hold hdep K hK0
        have hK := Lib.hid hK0
        have q63 : T[63]?.getD undef = .slice ga nT gc := dep hdep 15 (by kernel_rfl) rfl rfl
        clear hold hdep hK0
        go_simp
        exact hK.out _ _ (Below.refl _ _) rfl
      refine steps_cons 65 rfl ?_ ?_
      · intro T D' w hB0 hold hdep K hK0
        have hK := Lib.hid hK0
        have q61 : T[61]?.getD undef = .int .i64 (nT : Int) := dep hdep 13 (by kernel_rfl) rfl rfl
        have q64 : T[64]?.getD undef = .int .i64 (nT : Int) := dep hdep 16 (by kernel_rfl) rfl rfl
        clear hold hdep hK0
        go_simp
        exact hK.out _ _ (Below.refl _ _) rfl
      refine steps_cons 66 rfl ?_ ?_
      · intro T D' w hB0 hold hdep K hK0
        have hK := Lib.hid hK0
        have q58 : T[58]?.getD undef = .bool true := dep hdep 10 (by kernel_rfl) rfl rfl
        have q65 : T[65]?.getD undef = .bool true := dep hdep 17 (by kernel_rfl) rfl rfl
        clear hold hdep hK0
        go_simp
        exact hK.out _ _ (Below.refl _ _) rfl
      refine steps_cons 67 rfl ?_ ?_
      · intro T D' w hB0 hold hdep K hK0
        have hK := Lib.hid hK0
        have q66 : T[66]?.getD undef = .bool true := dep hdep 18 (by kernel_rfl) rfl rfl
        clear hold hdep hK0
        go_simp
        exact hK.out _ _ (Below.refl _ _) rfl
      refine steps_cons 68 rfl ?_ ?_
      · intro T D' w hB0 hold hdep K hK0
        have hK := Lib.hid hK0
        have h14 : T[14]?.getD undef = .func (.func 16) #[] #[] := hold 14 rfl
        clear hold hdep hK0
        go_simp
        exact hK.out _ _ (Below.refl _ _) rfl
      refine steps_cons 69 rfl ?_ ?_
      · intro T D' w hB0 hold hdep K hK0
        have hK := Lib.hid hK0
        have h7 : T[7]?.getD undef = .pointer (some ⟨p4, 0, none⟩) := hold 7 rfl
        clear hold hdep hK0
        obtain ⟨c0, c1, c2, c3⟩ := row4 ((K7.out.keep hB0).at 3 rfl)
        go_simp
        exact hK.out _ _ (Below.refl _ _) rfl
      refine steps_cons 70 rfl ?_ ?_
      · intro T D' w hB0 hold hdep K hK0
        have hK := Lib.hid hK0
        have h9 : T[9]?.getD undef = .pointer (some ⟨p5, 0, none⟩) := hold 9 rfl
        clear hold hdep hK0
        obtain ⟨c0, c1, c2, c3⟩ := row4 ((K7.out.keep hB0).at 2 rfl)
        go_simp
        exact hK.out _ _ (Below.refl _ _) rfl
      refine steps_cons 71 rfl ?_ ?_
      · intro T D' w hB0 hold hdep K hK0
        have hK := Lib.hid hK0
        have q68 : T[68]?.getD undef = .func (.func 16) #[] #[] := dep hdep 20 (by kernel_rfl) rfl rfl
        have q69 : T[69]?.getD undef = .agg #[.slice ra4 D.length rc4, .slice za4 (TJ).length zc4, .slice la4 (flatL (TJ.map Prod.fst) LJ).length lc4, .slice sa4 0 sc4] := dep hdep 21 (by kernel_rfl) rfl rfl
        have q70 : T[70]?.getD undef = .agg #[.slice ra5 D.length rc5, .slice za5 (TJ).length zc5, .slice la5 (flatL (TJ.map Prod.fst) (flatL (TJ.map Prod.fst) LJ)).length lc5, .slice sa5 0 sc5] := dep hdep 22 (by kernel_rfl) rfl rfl
        clear hold hdep hK0
        go_simp
        refine (same_A (HP4.out.keep hB0).A (SrcA.cong HFi.out.flat_flat (HP5.out.keep hB0).A)).mono ?_
        rintro _ V ⟨rfl, hb⟩
        exact hK.out _ _ hb rfl
      refine steps_cons 72 rfl ?_ ?_
      · intro T D' w hB0 hold hdep K hK0
        have hK := Lib.hid hK0
        have q67 : T[67]?.getD undef = .bool true := dep hdep 19 (by kernel_rfl) rfl rfl
        have q71 : T[71]?.getD undef = .bool true := dep hdep 23 (by kernel_rfl) rfl rfl
        clear hold hdep hK0
        go_simp
        exact hK.out _ _ (Below.refl _ _) rfl
      refine steps_cons 73 rfl ?_ ?_
      · intro T D' w hB0 hold hdep K hK0
        have hK := Lib.hid hK0
        have q72 : T[72]?.getD undef = .bool true := dep hdep 24 (by kernel_rfl) rfl rfl
        clear hold hdep hK0
        go_simp
        exact hK.out _ _ (Below.refl _ _) rfl
      refine steps_cons 74 rfl ?_ ?_
      · intro T D' w hB0 hold hdep K hK0
        have hK := Lib.hid hK0
        have h14 : T[14]?.getD undef = .func (.func 16) #[] #[] := hold 14 rfl
        clear hold hdep hK0
        go_simp
        exact hK.out _ _ (Below.refl _ _) rfl
      refine steps_cons 75 rfl ?_ ?_
      · intro T D' w hB0 hold hdep K hK0
        have hK := Lib.hid hK0
        have h11 : T[11]?.getD undef = .pointer (some ⟨p6, 0, none⟩) := hold 11 rfl
        clear hold hdep hK0
        obtain ⟨c0, c1, c2, c3⟩ := row4 ((K7.out.keep hB0).at 1 rfl)
        go_simp
        exact hK.out _ _ (Below.refl _ _) rfl
      refine steps_cons 76 rfl ?_ ?_
      · intro T D' w hB0 hold hdep K hK0
        have hK := Lib.hid hK0
        have h11 : T[11]?.getD undef = .pointer (some ⟨p6, 0, none⟩) := hold 11 rfl
        clear hold hdep hK0
        obtain ⟨c0, c1, c2, c3⟩ := row4 ((K7.out.keep hB0).at 1 rfl)
        go_simp
        exact hK.out _ _ (Below.refl _ _) rfl
      refine steps_cons 77 rfl ?_ ?_
      · intro T D' w hB0 hold hdep K hK0
        have hK := Lib.hid hK0
        have q76 : T[76]?.getD undef = .agg #[.slice ra6 D.length rc6, .slice za6 (CT).length zc6, .slice la6 (CL).length lc6, .slice sa6 0 sc6] := dep hdep 28 (by kernel_rfl) rfl rfl
        clear hold hdep hK0
        go_simp
        refine (sortW (HP6.out.keep hB0) HFs.out HSms.out (stb_again HCT.out) (stb_again HCL.out)).mono ?_
        rintro _ V ⟨v, rfl, hs, hb⟩
        exact hK.out _ _ hb hs.A
      refine steps_cons 78 rfl ?_ ?_
      · intro T D' w hB0 hold hdep K hK0
        have hK := Lib.hid hK0
        have q74 : T[74]?.getD undef = .func (.func 16) #[] #[] := dep hdep 26 (by kernel_rfl) rfl rfl
        have q75 : T[75]?.getD undef = .agg #[.slice ra6 D.length rc6, .slice za6 (CT).length zc6, .slice la6 (CL).length lc6, .slice sa6 0 sc6] := dep hdep 27 (by kernel_rfl) rfl rfl
        have q77 : Ko.S (.src D CT CL []) w (T[77]?.getD undef) := dep hdep 29 (by kernel_rfl) rfl rfl
        clear hold hdep hK0
        have H1 := Lib.hid q77
        clear q77
        go_simp
        refine (same_A (HP6.out.keep hB0).A H1.out).mono ?_
        rintro _ V ⟨rfl, hb⟩
        exact hK.out _ _ hb rfl
      refine steps_cons 79 rfl ?_ ?_
      · intro T D' w hB0 hold hdep K hK0
        have hK := Lib.hid hK0
        have q73 : T[73]?.getD undef = .bool true := dep hdep 25 (by kernel_rfl) rfl rfl
        have q78 : T[78]?.getD undef = .bool true := dep hdep 30 (by kernel_rfl) rfl rfl
        clear hold hdep hK0
        go_simp
        exact hK.out _ _ (Below.refl _ _) rfl
      refine steps_cons 80 rfl ?_ ?_
      · intro T D' w hB0 hold hdep K hK0
        have hK := Lib.hid hK0
        have q79 : T[79]?.getD undef = .bool true := dep hdep 31 (by kernel_rfl) rfl rfl
        clear hold hdep hK0
        go_simp
        exact hK.out _ _ (Below.refl _ _) rfl
      refine steps_cons 81 rfl ?_ ?_
      · intro T D' w hB0 hold hdep K hK0
        have hK := Lib.hid hK0
        have h14 : T[14]?.getD undef = .func (.func 16) #[] #[] := hold 14 rfl
        clear hold hdep hK0
        go_simp
        exact hK.out _ _ (Below.refl _ _) rfl
      refine steps_cons 82 rfl ?_ ?_
      · intro T D' w hB0 hold hdep K hK0
        have hK := Lib.hid hK0
        have h12 : T[12]?.getD undef = .pointer (some ⟨p7, 0, none⟩) := hold 12 rfl
        clear hold hdep hK0
        obtain ⟨c0, c1, c2, c3⟩ := row4 ((K7.out.keep hB0).at 0 rfl)
        go_simp
        exact hK.out _ _ (Below.refl _ _) rfl
      refine steps_cons 83 rfl ?_ ?_
      · intro T D' w hB0 hold hdep K hK0
        have hK := Lib.hid hK0
        have h7 : T[7]?.getD undef = .pointer (some ⟨p4, 0, none⟩) := hold 7 rfl
        clear hold hdep hK0
        obtain ⟨c0, c1, c2, c3⟩ := row4 ((K7.out.keep hB0).at 3 rfl)
        go_simp
        exact hK.out _ _ (Below.refl _ _) rfl
      refine steps_cons 84 rfl ?_ ?_
      · intro T D' w hB0 hold hdep K hK0
        have hK := Lib.hid hK0
        have q83 : T[83]?.getD undef = .agg #[.slice ra4 D.length rc4, .slice za4 (TJ).length zc4, .slice la4 (flatL (TJ.map Prod.fst) LJ).length lc4, .slice sa4 0 sc4] := dep hdep 35 (by kernel_rfl) rfl rfl
        clear hold hdep hK0
        go_simp
        refine (sortW (HP4.out.keep hB0) HFf.out HSmf.out HCT.out HSf.out).mono ?_
        rintro _ V ⟨v, rfl, hs, hb⟩
        exact hK.out _ _ hb hs.A
      refine steps_cons 85 rfl ?_ ?_
      · intro T D' w hB0 hold hdep K hK0
        have hK := Lib.hid hK0
        have q81 : T[81]?.getD undef = .func (.func 16) #[] #[] := dep hdep 33 (by kernel_rfl) rfl rfl
        have q82 : T[82]?.getD undef = .agg #[.slice ra7 D.length rc7, .slice za7 (CT).length zc7, .slice la7 (flatL (CT.map Prod.fst) CL).length lc7, .slice sa7 0 sc7] := dep hdep 34 (by kernel_rfl) rfl rfl
        have q84 : Ko.S (.src D CT (flatL (CT.map Prod.fst) CL) []) w (T[84]?.getD undef) := dep hdep 36 (by kernel_rfl) rfl rfl
        clear hold hdep hK0
        have H1 := Lib.hid q84
        clear q84
        go_simp
        refine (same_A (HP7.out.keep hB0).A H1.out).mono ?_
        rintro _ V ⟨rfl, hb⟩
        exact hK.out _ _ hb rfl
      refine steps_cons 86 rfl ?_ ?_
      · intro T D' w hB0 hold hdep K hK0
        have hK := Lib.hid hK0
        have q80 : T[80]?.getD undef = .bool true := dep hdep 32 (by kernel_rfl) rfl rfl
        have q85 : T[85]?.getD undef = .bool true := dep hdep 37 (by kernel_rfl) rfl rfl
        clear hold hdep hK0
        go_simp
        exact hK.out _ _ (Below.refl _ _) rfl
      refine steps_cons 87 rfl ?_ ?_
      · intro T D' w hB0 hold hdep K hK0
        have hK := Lib.hid hK0
        have q86 : T[86]?.getD undef = .bool true := dep hdep 38 (by kernel_rfl) rfl rfl
        clear hold hdep hK0
        go_simp
        exact hK.out _ _ (Below.refl _ _) rfl
      refine steps_cons 88 rfl ?_ ?_
      · intro T D' w hB0 hold hdep K hK0
        have hK := Lib.hid hK0
        have h11 : T[11]?.getD undef = .pointer (some ⟨p6, 0, none⟩) := hold 11 rfl
        clear hold hdep hK0
        go_simp
        exact hK.out _ _ (Below.refl _ _) rfl
      refine steps_cons 89 rfl ?_ ?_
      · intro T D' w hB0 hold hdep K hK0
        have hK := Lib.hid hK0
        have q88 : T[88]?.getD undef = .pointer (some ⟨p6, 0, none⟩) := dep hdep 40 (by kernel_rfl) rfl rfl
        clear hold hdep hK0
        obtain ⟨c0, c1, c2, c3⟩ := row4 ((K7.out.keep hB0).at 1 rfl)
        go_simp
        exact hK.out _ _ (Below.refl _ _) rfl
      refine steps_cons 90 rfl ?_ ?_
      · intro T D' w hB0 hold hdep K hK0
        have hK := Lib.hid hK0
        have h5 : T[5]?.getD undef = .pointer (some ⟨S, 0, none⟩) := hold 5 rfl
        clear hold hdep hK0
        go_simp
        exact hK.out _ _ (Below.refl _ _) rfl
      refine steps_cons 91 rfl ?_ ?_
      · intro T D' w hB0 hold hdep K hK0
        have hK := Lib.hid hK0
        have q90 : T[90]?.getD undef = .pointer (some ⟨S, 0, none⟩) := dep hdep 42 (by kernel_rfl) rfl rfl
        clear hold hdep hK0
        obtain ⟨c0, c1, c2, c3⟩ := row4 ((K7.out.keep hB0).at 4 rfl)
        go_simp
        exact hK.out _ _ (Below.refl _ _) rfl
      refine steps_cons 92 rfl ?_ ?_
      · intro T D' w hB0 hold hdep K hK0
        have hK := Lib.hid hK0
        have q89 : T[89]?.getD undef = .slice ra6 D.length rc6 := dep hdep 41 (by kernel_rfl) rfl rfl
        have q91 : T[91]?.getD undef = .slice ra D.length rc := dep hdep 43 (by kernel_rfl) rfl rfl
        clear hold hdep hK0
        go_simp
        refine (equal_ruq D _ _ w (HP6.out.keep hB0).ru (HP9.out.keep hB0).ru).mono ?_
        rintro _ V ⟨rfl, hb⟩
        exact hK.out _ _ hb rfl
      refine steps_cons 93 rfl ?_ ?_
      · intro T D' w hB0 hold hdep K hK0
        have hK := Lib.hid hK0
        have q87 : T[87]?.getD undef = .bool true := dep hdep 39 (by kernel_rfl) rfl rfl
        have q92 : T[92]?.getD undef = .bool true := dep hdep 44 (by kernel_rfl) rfl rfl
        clear hold hdep hK0
        go_simp
        exact hK.out _ _ (Below.refl _ _) rfl
      refine steps_cons 94 rfl ?_ ?_
      · intro T D' w hB0 hold hdep K hK0
        have hK := Lib.hid hK0
        have q93 : T[93]?.getD undef = .bool true := dep hdep 45 (by kernel_rfl) rfl rfl
        clear hold hdep hK0
        go_simp
        exact hK.out _ _ (Below.refl _ _) rfl
      refine steps_cons 95 rfl ?_ ?_
      · intro T D' w hB0 hold hdep K hK0
        have hK := Lib.hid hK0
        have h7 : T[7]?.getD undef = .pointer (some ⟨p4, 0, none⟩) := hold 7 rfl
        clear hold hdep hK0
        go_simp
        exact hK.out _ _ (Below.refl _ _) rfl
      refine steps_cons 96 rfl ?_ ?_
      · intro T D' w hB0 hold hdep K hK0
        have hK := Lib.hid hK0
        have q95 : T[95]?.getD undef = .pointer (some ⟨p4, 0, none⟩) := dep hdep 47 (by kernel_rfl) rfl rfl
        clear hold hdep hK0
        obtain ⟨c0, c1, c2, c3⟩ := row4 ((K7.out.keep hB0).at 3 rfl)
        go_simp
        exact hK.out _ _ (Below.refl _ _) rfl
      refine steps_cons 97 rfl ?_ ?_
      · intro T D' w hB0 hold hdep K hK0
        have hK := Lib.hid hK0
        have h5 : T[5]?.getD undef = .pointer (some ⟨S, 0, none⟩) := hold 5 rfl
        clear hold hdep hK0
        go_simp
        exact hK.out _ _ (Below.refl _ _) rfl
      refine steps_cons 98 rfl ?_ ?_
      · intro T D' w hB0 hold hdep K hK0
        have hK := Lib.hid hK0
        have q97 : T[97]?.getD undef = .pointer (some ⟨S, 0, none⟩) := dep hdep 49 (by kernel_rfl) rfl rfl
        clear hold hdep hK0
        obtain ⟨c0, c1, c2, c3⟩ := row4 ((K7.out.keep hB0).at 4 rfl)
        go_simp
        exact hK.out _ _ (Below.refl _ _) rfl
      refine steps_cons 99 rfl ?_ ?_
      · intro T D' w hB0 hold hdep K hK0
        have hK := Lib.hid hK0
        have q96 : T[96]?.getD undef = .slice ra4 D.length rc4 := dep hdep 48 (by kernel_rfl) rfl rfl
        have q98 : T[98]?.getD undef = .slice ra D.length rc := dep hdep 50 (by kernel_rfl) rfl rfl
        clear hold hdep hK0
        go_simp
        refine (equal_ruq D _ _ w (HP4.out.keep hB0).ru (HP9.out.keep hB0).ru).mono ?_
        rintro _ V ⟨rfl, hb⟩
        exact hK.out _ _ hb rfl
      refine steps_cons 100 rfl ?_ ?_
      · intro T D' w hB0 hold hdep K hK0
        have hK := Lib.hid hK0
        have q94 : T[94]?.getD undef = .bool true := dep hdep 46 (by kernel_rfl) rfl rfl
        have q99 : T[99]?.getD undef = .bool true := dep hdep 51 (by kernel_rfl) rfl rfl
        clear hold hdep hK0
        go_simp
        exact hK.out _ _ (Below.refl _ _) rfl
      refine steps_cons 101 rfl ?_ ?_
      · intro T D' w hB0 hold hdep K hK0
        have hK := Lib.hid hK0
        have q100 : T[100]?.getD undef = .bool true := dep hdep 52 (by kernel_rfl) rfl rfl
        clear hold hdep hK0
        go_simp
        exact hK.out _ _ (Below.refl _ _) rfl
      refine steps_cons 102 rfl ?_ ?_
      · intro T D' w hB0 hold hdep K hK0
        have hK := Lib.hid hK0
        clear hold hdep hK0
        go_simp
        refine (works35_any w).mono ?_
        rintro _ V ⟨rfl, hb⟩
        exact hK.out _ _ hb rfl
      refine steps_cons 103 rfl ?_ ?_
      · intro T D' w hB0 hold hdep K hK0
        have hK := Lib.hid hK0
        have q101 : T[101]?.getD undef = .bool true := dep hdep 53 (by kernel_rfl) rfl rfl
        have q102 : T[102]?.getD undef = .bool true := dep hdep 54 (by kernel_rfl) rfl rfl
        clear hold hdep hK0
        go_simp
        exact hK.out _ _ (Below.refl _ _) rfl
      refine steps_cons 4 rfl ?_ ?_
      · intro T D' w hB0 hold hdep K hK0
        have hK := Lib.hid hK0
        have q103 : T[103]?.getD undef = .bool true := dep hdep 55 (by kernel_rfl) rfl rfl
        clear hold hdep hK0
        go_simp
        exact hK.out _ _ (Below.refl _ _) rfl
      exact steps_nil
    case hend2 =>
      intro T' w hsz hB0 hold hS
      have e2 : T'[4]?.getD undef = .bool true := hS 4 (by rfl)
      have K10 := Lib.hid (K7.out.keep hB0)
      obtain ⟨G2, hG2⟩ : ∃ G : Nat → Value, ∀ t, T'[t]?.getD undef = G t := ⟨_, fun _ => rfl⟩
      have e := tmps_lit T' 104 hsz
      simp only [hG2] at e
      have e' : T' = #[G2 0, G2 1, G2 2, G2 3, G2 4, G2 5, G2 6, G2 7, G2 8, G2 9, G2 10, G2 11, G2 12, G2 13, G2 14, G2 15, G2 16, G2 17, G2 18, G2 19, G2 20, G2 21, G2 22, G2 23, G2 24, G2 25, G2 26, G2 27, G2 28, G2 29, G2 30, G2 31, G2 32, G2 33, G2 34, G2 35, G2 36, G2 37, G2 38, G2 39, G2 40, G2 41, G2 42, G2 43, G2 44, G2 45, G2 46, G2 47, G2 48, G2 49, G2 50, G2 51, G2 52, G2 53, G2 54, G2 55, G2 56, G2 57, G2 58, G2 59, G2 60, G2 61, G2 62, G2 63, G2 64, G2 65, G2 66, G2 67, G2 68, G2 69, G2 70, G2 71, G2 72, G2 73, G2 74, G2 75, G2 76, G2 77, G2 78, G2 79, G2 80, G2 81, G2 82, G2 83, G2 84, G2 85, G2 86, G2 87, G2 88, G2 89, G2 90, G2 91, G2 92, G2 93, G2 94, G2 95, G2 96, G2 97, G2 98, G2 99, G2 100, G2 101, G2 102, G2 103] := e.trans rfl
      rw [hG2] at e2
      clear hold hS e hG2 hsz hB0
      rw [e', e2]
      clear e' e2
      go_wp2_with fail
      go_ret
      exact ⟨rfl, K10.out.below⟩
end Go.Proofs.YtnffecoohkanhaaDoor.Px
