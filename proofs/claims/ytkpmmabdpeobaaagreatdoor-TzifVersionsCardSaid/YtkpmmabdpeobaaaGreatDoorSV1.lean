/- bigend.size and bigend.Put: a number's bytes behind some bytes. The method put of tzif.writer: numbers' bytes behind what is written. The method header of tzif.writer. The method types of tzif.writer. -/
import Derived.Test.YtkpmmabdpeobaaaGreatDoorSU42
import Derived.Test.YtkpmmabdpeobaaaGreatDoorSU39
import Derived.Deep.RegionHeldLaw
namespace Go.Proofs.YtkpmmabdpeobaaaGreatDoor.Px
open Go.RowKit
open Tz
theorem size_ok (sz : Nat) (hsz : sz = 1 ∨ sz = 4 ∨ sz = 8) (W : World) : Calls Tryz.prog 107 #[.int .i64 (sz : Int)] W fun e w' => e = .returned (.bool true) ∧ w' = W := by
 rcases hsz with rfl | rfl | rfl
 all_goals
  go_enter Tryz.func107, Tryz.ntmps107
  go_wp2
  go_ret
  exact ⟨rfl, rfl⟩
set_option maxHeartbeats 4000000 in
set_option maxRecDepth 100000 in
theorem put_big (l : B) (v : Value) (W : World) (h : BytesV W v l) (sz : Nat) (hsz : sz = 1 ∨ sz = 4 ∨ sz = 8) (x : Int) (hx : fits sz x) (hmax : l.length ≤ 900000) :
 Calls Tryz.prog 86 #[v, .int .i64 (sz : Int), .int .i64 x] W fun e w' => ∃ ov, e = .returned (.tuple #[ov, .int .i64 0]) ∧ Kp [] [bRow ov (l ++ beN sz x)] W w' := by
 have CS := Lib.hid (size_ok sz hsz)
 have CC := Lib.hid (clone_u8 l v W h (by omega))
 have HX := Lib.hid hx
 have HS := Lib.hid hsz
 clear h hx hsz
 go_enter Tryz.func86, Tryz.ntmps86
 go_wp2_with fail
 refine (CS.out _).mono ?_
 rintro _ W' ⟨rfl, rfl⟩
 have g0 : (0 : Int) ≤ 8 * (sz : Int) - 1 := by have := HS.out; omega
 have g1 : 8 * (sz : Int) - 1 ≤ 64 := by have := HS.out; omega
 have g2 : 1 ≤ sz := by have := HS.out; omega
 have g3 : sz ≤ 8 := by have := HS.out; omega
 have hq := quo_fits HS.out HX.out
 have h64 := fits_64 HS.out HX.out
 obtain ⟨h64a, h64b⟩ := h64
 obtain ⟨q, hq0⟩ : ∃ q, x / 2 ^ (8 * sz - 1) = q := ⟨_, rfl⟩
 rw [hq0] at hq
 go_upto_region 4 with fail
 rw [hq0]
 clear hq0
 go_cut [24] (fun v24 wr => v24 = .bool false ∧ wr = W')
 case first =>
  rcases hq with rfl | rfl
  · go_wp2_with fail
    go_meet
    exact ⟨rfl, rfl⟩
  · go_wp2_with fail
    go_meet
    exact ⟨rfl, rfl⟩
 case rest =>
  clear hq
  obtain ⟨rfl, rfl⟩ := hcut
  go_wp2_with fail
  refine CC.out.mono ?_
  rintro _ w1 ⟨ov, rfl, hk⟩
  have K1 := Lib.hid hk
  clear hk
  go_wp2_with fail
  go_loopw [9, 28] (fun v9 v28 wr => ∃ i : Nat, i ≤ sz ∧ v28 = .int .i64 (i : Int) ∧ Kp [] [⟨v9, 5, 1, l.length + i, (l ++ (beN sz x).take i).map u8v⟩] wc wr) (fun _ v28 _ => sz - (intOf v28).toNat)
  case atStart =>
   refine ⟨0, by omega, rfl, ?_⟩
   rw [List.take_zero, List.append_nil]
   exact K1.out
  case round =>
   obtain ⟨i, hi, rfl, hk⟩ := hrel
   obtain ⟨oa, oc, rfl⟩ : ∃ a c, u9 = .slice a (l.length + i) c := own_slice (hk.row 0 rfl)
   by_cases hlt : i < sz
   · obtain ⟨v', w2, hr, hk2⟩ := append_byte hk (byt (x / 256 ^ (sz - 1 - i))) (by omega)
     have HR := Lib.hid hr
     have HT := Lib.hid (beN_take (x := x) hlt)
     have K2 := Lib.hid hk2
     have hc : ((byt (x / 256 ^ (sz - 1 - i))).toNat : Int) = x / 2 ^ (8 * (sz - 1 - i)) % 256 := by rw [byt_nat, pow_256]
     rw [hc] at HR
     clear hk hr hk2 hc K1 CC CS
     have g4 : (0 : Int) ≤ 8 * ((sz : Int) - 1 - (i : Int)) := by omega
     go_wp2_with ((at_builtin; refine wpList_append_run rfl _ _ 32 32 rfl _ _ v' w2 rfl rfl HR.out ?_))
     go_roundw
     case rel =>
      refine ⟨i + 1, by omega, by go_num, ?_⟩
      rw [HT.out, ← List.append_assoc]
      exact K2.out
     case measure => simp [intOf]; omega
   · obtain rfl : i = sz := by omega
     have K2 := Lib.hid hk
     rw [beN_all, bRow_is _ _ (by rw [List.length_append, beN_len])] at K2
     clear hk K1 CC CS
     go_wp2_with fail
     refine bodyPost_ret (v := .tuple #[.slice oa (l.length + i) oc, .int .i64 0]) (by simp [results, Tryz.results86, go_sem]) rfl ⟨_, rfl, K2.out⟩
end Go.Proofs.YtkpmmabdpeobaaaGreatDoor.Px
namespace Go.Proofs.YtkpmmabdpeobaaaGreatDoor.Px
open Go.RowKit
open Tz
theorem beN_wrap8 (x : Int) : fits 1 (IntKind.i8.wrap x) ∧ beN 1 (IntKind.i8.wrap x) = beN 1 x := by
 have h : IntKind.i8.wrap x = if 128 ≤ x % 256 then x % 256 - 256 else x % 256 := by
  unfold IntKind.wrap
  simp [IntKind.bits, IntKind.signed]
 rw [h]
 refine ⟨fits_1 (by split <;> omega) (by split <;> omega), ?_⟩
 rw [beN1, beN1, byt_mod (y := x) (by split <;> omega)]
theorem be_len (sz : Nat) (l : B) (ns : List Int) : (l ++ ns.flatMap (beN sz)).length = l.length + sz * ns.length := by
 rw [List.length_append, rows_len (w := sz) _ (fun _ _ => beN_len _ _)]
def wrO (sv : Value) : Obj := .cells #[sv, .int .i64 0] 79 (0, 0)
def intsO (ns : List Int) : Obj := .cells (ns.map (Value.int .i64)).toArray 2 (0, 0)
theorem set_at {α : Type} {L : List α} {k : Nat} {x y : α} (h : L[k]? = some x) : (L.set k y)[k]? = some y := by
 rw [List.getElem?_set_self (List.getElem?_eq_some_iff.1 h).1]
theorem set_back {α : Type} {L : List α} {k : Nat} {x : α} (h : L[k]? = some x) : L.set k x = L := by
 obtain ⟨h1, h2⟩ := List.getElem?_eq_some_iff.1 h
 rw [← h2]
 exact List.set_getElem_self h1
set_option maxHeartbeats 4000000 in
set_option maxRecDepth 100000 in
theorem wput_any {L : List (Nat × Obj)} {R : List Rw} {W X : World} (k wb vb : Nat) (sv : Value) (l : B) (ns : List Int) (sz : Nat) (h : Kp ((vb, intsO ns) :: L) (bRow sv l :: R) W X) (hk : L[k]? = some (wb, wrO sv)) (hsz : sz = 1 ∨ sz = 4 ∨ sz = 8)
 (hfit : ∀ x ∈ ns, sz = 1 ∨ fits sz x) (h64 : ∀ x ∈ ns, -9223372036854775808 ≤ x ∧ x ≤ 9223372036854775807) (hmax : l.length + 8 * ns.length ≤ 900000) :
 Calls Tryz.prog 39 #[.pointer (some ⟨wb, 0, none⟩), .int .i64 (sz : Int), .slice (some ⟨vb, 0, none⟩) ns.length ns.length] X fun e Y =>
  e = .returned (.tuple #[]) ∧ ∃ ov, Kp ((vb, intsO ns) :: L.set k (wb, wrO ov)) (bRow ov (l ++ ns.flatMap (beN sz)) :: R) W Y := by
 have K0 := Lib.hid h
 have HK := Lib.hid hk
 have HS := Lib.hid hsz
 have HF := Lib.hid hfit
 have H64 := Lib.hid h64
 obtain ⟨N, hN⟩ : ∃ n, ns.length = n := ⟨_, rfl⟩
 rw [hN] at hmax ⊢
 have HN := Lib.hid hN
 have g0 : 1 ≤ sz ∧ sz ≤ 8 := by omega
 obtain ⟨g0, g1⟩ := g0
 clear h hk hsz hfit h64 hN
 go_enter Tryz.func39, Tryz.ntmps39
 go_wp2_with fail
 go_loopw [12] (fun v12 wr => ∃ (i : Nat) (ov : Value), i ≤ N ∧ v12 = .int .i64 (i : Int) ∧ Kp ((vb, intsO ns) :: L.set k (wb, wrO ov)) (bRow ov (l ++ (ns.take i).flatMap (beN sz)) :: R) W wr) (fun v12 _ => N - (intOf v12).toNat)
 case atStart =>
  refine ⟨0, sv, by omega, rfl, ?_⟩
  rw [List.take_zero, List.flatMap_nil, List.append_nil, set_back HK.out]
  exact K0.out
 case round =>
  obtain ⟨i, ov, hi, rfl, hp⟩ := hrel
  have KR := Lib.hid hp
  clear hp K0
  by_cases hlt : i < N
  · obtain ⟨x, hx⟩ : ∃ x, ns[i]? = some x := ⟨_, List.getElem?_eq_getElem (by rw [HN.out]; exact hlt)⟩
    have hxm := List.mem_of_getElem? hx
    have kx := cells_at (KR.out.at 0 rfl) i
    rw [show (ns.map (Value.int .i64)).toArray[i]? = some (.int .i64 x) by simp [hx]] at kx
    have hkk := set_at (y := (wb, wrO ov)) HK.out
    have kw := cells_at (KR.out.at (k + 1) hkk) 0
    have kf := free_at (KR.out.at (k + 1) hkk) 0
    have kz := KR.out.lt (k + 1) hkk
    have hx64 := H64.out x hxm
    obtain ⟨x0, x1⟩ := hx64
    have HXF := Lib.hid (HF.out x hxm)
    have HTK := Lib.hid (show ns.take (i + 1) = ns.take i ++ [x] by rw [List.take_add_one, hx]; rfl)
    clear hx hxm
    go_upto_if 17 with fail
    go_cut [7] from 17 (fun v7 wx => ∃ y : Int, v7 = .int .i64 y ∧ (fits sz y ∧ beN sz y = beN sz x) ∧ wx = wr)
    case first =>
     by_cases h1 : sz = 1
     · subst h1
       have h2 := beN_wrap8 x
       obtain ⟨z, hz⟩ : ∃ z, IntKind.i8.wrap x = z := ⟨_, rfl⟩
       rw [hz] at h2
       have H2 := Lib.hid h2
       have z0 : -128 ≤ z := by have := h2.1; unfold fits at this; omega
       have z1 : z < 128 := by have := h2.1; unfold fits at this; omega
       clear h2
       go_wp2_with fail
       go_meet
       exact ⟨z, rfl, H2.out, rfl⟩
     · have h1' : ((sz : Int) == 1) = false := by simpa using (show ¬ (sz : Int) = 1 by omega)
       have h3 : fits sz x := by rcases HXF.out with h | h; exact absurd h h1; exact h
       go_wp2_with fail
       go_meet
       exact ⟨x, rfl, ⟨h3, rfl⟩, rfl⟩
    case rest =>
     obtain ⟨y, rfl, ⟨hy1, hy2⟩, rfl⟩ := hcut
     have hlen : (l ++ (ns.take i).flatMap (beN sz)).length ≤ 900000 := by
      rw [be_len, List.length_take, HN.out]
      have : sz * min i N ≤ 8 * N := Nat.mul_le_mul g1 (Nat.min_le_right _ _)
      omega
     have CP := Lib.hid (put_big _ ov wc (BytesV.own (KR.out.row 0 rfl) rfl) sz HS.out y hy1 hlen)
     rw [hy2] at CP
     have HL := Lib.hid hlen
     clear hy1 hy2 hlen
     go_wp2_with fail
     refine CP.out.mono ?_
     rintro _ w2 ⟨ov2, rfl, hk2⟩
     have KA := (KR.out.adopt hk2).less (S := _ :: R) (List.Sublist.cons_cons _ (List.sublist_cons_self _ _))
     obtain ⟨l2, hl2⟩ : ∃ m, l ++ (ns.take i).flatMap (beN sz) ++ beN sz x = m := ⟨_, rfl⟩
     have HL2 := Lib.hid (show l ++ (ns.take (i + 1)).flatMap (beN sz) = l2 by rw [HTK.out, List.flatMap_append, ← List.append_assoc, List.flatMap_cons, List.flatMap_nil, List.append_nil]; exact hl2)
     rw [hl2] at KA hk2
     obtain ⟨oa, oc, rfl⟩ := bRow_slice (hk2.row 0 rfl)
     have KS := KA.set (k + 1) hkk 0 (.slice oa l2.length oc) rfl
     rw [List.set_cons_succ, List.set_set] at KS
     have KS := Lib.hid KS
     have KA := Lib.hid KA
     clear hk2 CP kw kf kz kx hl2
     have kw := cells_at (KA.out.at (k + 1) hkk) 0
     have kf := free_at (KA.out.at (k + 1) hkk) 0
     have kz := KA.out.lt (k + 1) hkk
     go_wp2_with fail
     go_roundw
     case rel =>
      refine ⟨i + 1, .slice oa l2.length oc, by omega, by go_num, ?_⟩
      rw [HL2.out]
      exact KS.out
     case measure => simp [intOf]; omega
  · obtain rfl : i = N := by omega
    have K9 := KR.out
    rw [List.take_of_length_le (by rw [HN.out]; exact Nat.le_refl _)] at K9
    have K9 := Lib.hid K9
    go_wp2_with fail
    go_end0
    exact ⟨rfl, ov, K9.out⟩
end Go.Proofs.YtkpmmabdpeobaaaGreatDoor.Px
namespace Go.Proofs.YtkpmmabdpeobaaaGreatDoor.Px
open Go.RowKit
open Tz
theorem wr_store {L : List (Nat × Obj)} {R : List Rw} {W X : World} {k wb : Nat} {sv v : Value} (h : Kp L R W X) (hk : L[k]? = some (wb, wrO sv)) : Kp (L.set k (wb, wrO v)) R W (X.setCell ⟨wb, 0, none⟩ v) := h.set k hk 0 v rfl
theorem wr_again {L : List (Nat × Obj)} {R : List Rw} {W X : World} {k wb : Nat} {sv u v : Value} (h : Kp (L.set k (wb, wrO u)) R W X) (hk : L[k]? = some (wb, wrO sv)) : Kp (L.set k (wb, wrO v)) R W (X.setCell ⟨wb, 0, none⟩ v) := by
 have := wr_store (v := v) h (set_at hk)
 rwa [List.set_set] at this
theorem six_fit {tr ty ch : Int} (h1 : 0 ≤ tr ∧ tr ≤ 2147483647) (h2 : 0 ≤ ty ∧ ty ≤ 2147483647) (h3 : 0 ≤ ch ∧ ch ≤ 2147483647) : (∀ x ∈ [0, 0, 0, tr, ty, ch], 4 = 1 ∨ fits 4 x) ∧ (∀ x ∈ [0, 0, 0, tr, ty, ch], -9223372036854775808 ≤ x ∧ x ≤ 9223372036854775807) := by
 refine ⟨fun x hx => .inr ?_, fun x hx => ?_⟩
 · simp only [List.mem_cons, List.not_mem_nil, or_false] at hx
   rcases hx with rfl | rfl | rfl | rfl | rfl | rfl <;> exact fits_4 (by omega) (by omega)
 · simp only [List.mem_cons, List.not_mem_nil, or_false] at hx
   rcases hx with rfl | rfl | rfl | rfl | rfl | rfl <;> omega
set_option maxHeartbeats 4000000 in
set_option maxRecDepth 100000 in
theorem head_any {L : List (Nat × Obj)} {R : List Rw} {W X : World} (k wb : Nat) (sv : Value) (l : B) (v tr ty ch : Int) (h : Kp L (bRow sv l :: R) W X) (hk : L[k]? = some (wb, wrO sv)) (hv : 0 ≤ v ∧ v ≤ 9)
 (h1 : 0 ≤ tr ∧ tr ≤ 2147483647) (h2 : 0 ≤ ty ∧ ty ≤ 2147483647) (h3 : 0 ≤ ch ∧ ch ≤ 2147483647) (hmax : l.length ≤ 800000) :
 Calls Tryz.prog 38 #[.pointer (some ⟨wb, 0, none⟩), .int .i64 v, .int .i64 tr, .int .i64 ty, .int .i64 ch] X fun e Y =>
  e = .returned (.tuple #[]) ∧ ∃ ov, Kp (L.set k (wb, wrO ov)) (bRow ov (l ++ headB v tr ty ch) :: R) W Y := by
 obtain ⟨a0, c0, rfl⟩ := bRow_slice (h.row 0 rfl)
 have kw := cells_at (h.at k hk) 0
 have kf := free_at (h.at k hk) 0
 have kz := h.lt k hk
 obtain ⟨v1, w1, hr1, hk1⟩ := append_str h ⟨#[84, 90, 105, 102]⟩ (by show l.length + 4 ≤ 1000000; omega)
 rw [bRow_is v1 _ (by rw [List.length_append]; rfl), show l ++ (⟨#[84, 90, 105, 102]⟩ : ByteArray).data.toList = l ++ [84, 90, 105, 102] from rfl] at hk1
 obtain ⟨l1, hl1⟩ : ∃ m, l ++ [84, 90, 105, 102] = m := ⟨_, rfl⟩
 rw [hl1] at hk1
 have hn1 : l1.length = l.length + 4 := by rw [← hl1]; simp
 obtain ⟨a1, c1, rfl⟩ := bRow_slice (hk1.row 0 rfl)
 have kw1 := cells_at (hk1.at k hk) 0
 have kf1 := free_at (hk1.at k hk) 0
 have kz1 := hk1.lt k hk
 have hs1 := wr_store (v := .slice a1 l1.length c1) hk1 hk
 obtain ⟨X1, hX1⟩ : ∃ Z, w1.setCell ⟨wb, 0, none⟩ (.slice a1 l1.length c1) = Z := ⟨_, rfl⟩
 rw [hX1] at hs1
 have kw2 := cells_at (hs1.at k (set_at hk)) 0
 obtain ⟨v2, w2, hr2, hk2⟩ := append_byte hs1 (byt (48 + v)) (by rw [hn1]; omega)
 rw [bRow_is v2 _ (by rw [List.length_append]; rfl)] at hk2
 rw [byt_nat, Int.emod_eq_of_lt (by omega) (by omega)] at hr2
 obtain ⟨l2, hl2⟩ : ∃ m, l1 ++ [byt (48 + v)] = m := ⟨_, rfl⟩
 rw [hl2] at hk2
 have hn2 : l2.length = l.length + 5 := by rw [← hl2]; simp; omega
 obtain ⟨a2, c2, rfl⟩ := bRow_slice (hk2.row 0 rfl)
 have kw3 := cells_at (hk2.at k (set_at hk)) 0
 have kf3 := free_at (hk2.at k (set_at hk)) 0
 have kz3 := hk2.lt k (set_at hk)
 have hs2 := wr_again (v := .slice a2 l2.length c2) hk2 hk
 obtain ⟨X2, hX2⟩ : ∃ Z, w2.setCell ⟨wb, 0, none⟩ (.slice a2 l2.length c2) = Z := ⟨_, rfl⟩
 rw [hX2] at hs2
 have kw4 := cells_at (hs2.at k (set_at hk)) 0
 obtain ⟨v3, w3, hr3, hk3⟩ := append_zeros hs2 15 (by omega) (by rw [hn2]; omega)
 rw [bRow_is v3 _ (by rw [List.length_append, List.length_replicate])] at hk3
 obtain ⟨l3, hl3⟩ : ∃ m, l2 ++ List.replicate 15 0 = m := ⟨_, rfl⟩
 rw [hl3] at hk3
 have hn3 : l3.length = l.length + 20 := by rw [← hl3]; simp; omega
 obtain ⟨a3, c3, rfl⟩ := bRow_slice (hk3.row 0 rfl)
 have kw5 := cells_at (hk3.at k (set_at hk)) 0
 have kf5 := free_at (hk3.at k (set_at hk)) 0
 have kz5 := hk3.lt k (set_at hk)
 have hs3 := wr_again (v := .slice a3 l3.length c3) hk3 hk
 obtain ⟨X3, hX3⟩ : ∃ Z, w3.setCell ⟨wb, 0, none⟩ (.slice a3 l3.length c3) = Z := ⟨_, rfl⟩
 rw [hX3] at hs3
 obtain ⟨f1, f2⟩ := six_fit h1 h2 h3
 have CP := Lib.hid (wput_any k wb X3.heap.size (.slice a3 l3.length c3) l3 [0, 0, 0, tr, ty, ch] 4 (hs3.alloc (.cells #[.int .i64 0, .int .i64 0, .int .i64 0, .int .i64 tr, .int .i64 ty, .int .i64 ch] 2)) (set_at hk) (by omega) f1 f2 (by rw [hn3]; show _ + 48 ≤ _; omega))
 have HE := Lib.hid (show l3 ++ [0, 0, 0, tr, ty, ch].flatMap (beN 4) = l ++ headB v tr ty ch by
  rw [← hl3, ← hl2, ← hl1]
  unfold headB
  simp only [List.flatMap_cons, List.flatMap_nil, List.append_nil, List.append_assoc]
  rfl)
 have HR1 := Lib.hid hr1
 have HR2 := Lib.hid hr2
 have HR3 := Lib.hid hr3
 have HX1 := Lib.hid hX1
 have HX2 := Lib.hid hX2
 have HX3 := Lib.hid hX3
 clear h hk1 hk2 hk3 hs1 hs2 hs3 hl1 hl2 hl3 hn1 hn2 hn3 hr1 hr2 hr3 hX1 hX2 hX3 f1 f2
 go_enter Tryz.func38, Tryz.ntmps38
 go_upto_region 1 with (at_builtin; refine wpList_append_run rfl _ _ 32 9 rfl _ _ _ w1 rfl rfl HR1.out ?_)
 rw [HX1.out]
 obtain ⟨hv0, hv9⟩ := hv
 clear kw kf kz kw1 kf1 kz1 HR1 HX1
 go_upto_region 2 with (at_builtin; refine wpList_append_run rfl _ _ 32 32 rfl _ _ _ w2 rfl rfl HR2.out ?_)
 rw [HX2.out]
 clear kw2 kw3 kf3 kz3 HR2 HX2
 go_upto_region 3 with (at_builtin; refine wpList_append_run rfl _ _ 32 3 rfl _ _ _ w3 rfl rfl HR3.out ?_)
 rw [HX3.out]
 clear kw4 kw5 kf5 kz5 HR3 HX3
 go_wp2_with fail
 refine CP.out.mono ?_
 rintro _ Y ⟨rfl, ov, hK⟩
 rw [HE.out, List.set_set] at hK
 have HK := Lib.hid hK.drop
 clear hK CP
 go_wp2_with fail
 go_end0
 exact ⟨rfl, ov, HK.out⟩
end Go.Proofs.YtkpmmabdpeobaaaGreatDoor.Px
namespace Go.Proofs.YtkpmmabdpeobaaaGreatDoor.Px
open Go.RowKit
open Tz Tb
def dstI (b : Bool) : Int := if b then 1 else 0
theorem typ_bytes (P : B) (t : Lc) : beN 4 t.off ++ [dstI t.dst, plc P t].flatMap (beN 1) = typB P t := by
 have e : [dstI t.dst, plc P t].flatMap (beN 1) = [byt (dstI t.dst), byt (plc P t)] := by
  rw [List.flatMap_cons, List.flatMap_cons, List.flatMap_nil, beN1, beN1]
  rfl
 rw [e]
 unfold typB dstI
 cases t.dst <;> rfl
set_option maxHeartbeats 4000000 in
set_option maxRecDepth 100000 in
theorem wtypes_any {L : List (Nat × Obj)} {R : List Rw} {W X : World} (k wb : Nat) (sv : Value) (l : B) (ts : List Lc) (lv pv : Value) (P : B) (j : Nat) (h : Kp L (bRow sv l :: R) W X) (hk : L[k]? = some (wb, wrO sv)) (hl : LcV W lv ts)
 (hp : R[j]? = some ⟨pv, 3, 1, ts.length, (ts.map (plc P)).map (Value.int .i64)⟩) (hoff : ∀ t ∈ ts, -54000 ≤ t.off ∧ t.off ≤ 54000) (hpl : ∀ t ∈ ts, 0 ≤ plc P t ∧ plc P t ≤ 255) (hm : ts.length ≤ 1000) (hmax : l.length ≤ 700000) (hP : P.length ≤ 1000) :
 Calls Tryz.prog 40 #[.pointer (some ⟨wb, 0, none⟩), lv, pv, .string (bs P)] X fun e Y =>
  e = .returned (.tuple #[]) ∧ ∃ ov, Kp (L.set k (wb, wrO ov)) (bRow ov (l ++ (ts.flatMap (typB P) ++ P)) :: R) W Y := by
 obtain ⟨la, lc, rfl, _, _⟩ := hl.slice
 have HL := Lib.hid (fun h0 => hl.all h0)
 have K0 := Lib.hid h
 have HK := Lib.hid hk
 have HO := Lib.hid hoff
 have HPl := Lib.hid hpl
 have HPr := Lib.hid hp
 obtain ⟨pa, pc, rfl⟩ : ∃ a c, pv = .slice a ts.length c := own_slice (h.row (j + 1) hp)
 obtain ⟨N, hN⟩ : ∃ n, ts.length = n := ⟨_, rfl⟩
 rw [hN] at HPr HL hm ⊢
 have HN := Lib.hid hN
 obtain ⟨S, hS⟩ : ∃ s, bs P = s := ⟨_, rfl⟩
 have HS := Lib.hid hS
 rw [hS]
 clear h hk hl hoff hpl hp hN hS
 go_enter Tryz.func40, Tryz.ntmps40
 go_wp2_with fail
 go_loopw [13] (fun v13 wr => ∃ (i : Nat) (ov : Value), i ≤ N ∧ v13 = .int .i64 (i : Int) ∧ Kp (L.set k (wb, wrO ov)) (bRow ov (l ++ (ts.take i).flatMap (typB P)) :: R) W wr) (fun v13 _ => N - (intOf v13).toNat)
 case atStart =>
  refine ⟨0, sv, by omega, rfl, ?_⟩
  rw [List.take_zero, List.flatMap_nil, List.append_nil, set_back HK.out]
  exact K0.out
 case round =>
  obtain ⟨i, ov, hi, rfl, hp⟩ := hrel
  have KR := Lib.hid hp
  clear hp K0
  by_cases hlt : i < N
  · obtain ⟨⟨lo, ld, lb⟩, hx⟩ : ∃ x, ts[i]? = some x := ⟨_, List.getElem?_eq_getElem (by rw [HN.out]; exact hlt)⟩
    have hxm := List.mem_of_getElem? hx
    obtain ⟨b, o, c, e1, _, _, hb, hcell⟩ := HL.out (by omega)
    simp only [Value.slice.injEq] at e1
    obtain ⟨rfl, -, -⟩ := e1
    obtain ⟨c0, c1, c2⟩ := hcell i _ hx
    dsimp only at c0 c1 c2
    have k0 := (KR.out.below.cell (p := ⟨b, o + i * 3, none⟩) hb).trans c0
    have k1 := (KR.out.below.cell (p := ⟨b, o + i * 3 + 1, none⟩) hb).trans c1
    have k2 := (KR.out.below.cell (p := ⟨b, o + i * 3 + 2, none⟩) hb).trans c2
    have HTK := Lib.hid (show ts.take (i + 1) = ts.take i ++ [⟨lo, ld, lb⟩] by rw [List.take_add_one, hx]; rfl)
    have HO1 := Lib.hid (HO.out _ hxm)
    have HP1 := Lib.hid (HPl.out _ hxm)
    have HPat := Lib.hid (show ((ts.map (plc P)).map (Value.int .i64))[i]? = some (.int .i64 (plc P ⟨lo, ld, lb⟩)) by rw [List.getElem?_map, List.getElem?_map, hx]; rfl)
    clear hx hxm hcell c0 c1 c2
    go_upto_region 3 with fail
    have KA := KR.out.alloc (.cells #[.int .i64 lo, .bool ld, .string lb] 28)
    obtain ⟨wa, hwa⟩ : ∃ z, wr.alloc (.cells #[.int .i64 lo, .bool ld, .string lb] 28) = z := ⟨_, rfl⟩
    obtain ⟨q, hq⟩ : ∃ z, wr.heap.size = z := ⟨_, rfl⟩
    rw [hwa, hq] at KA ⊢
    obtain ⟨⟨x0, x1, x2⟩, _, _, _⟩ := row3 (KA.at 0 rfl)
    have hlen : (l ++ (ts.take i).flatMap (typB P)).length ≤ 706000 := by
     rw [List.length_append, rows_len (w := 6) _ (fun _ _ => typB_len _ _), List.length_take]
     have : min i ts.length ≤ 1000 := by have := HN.out; omega
     omega
    have HLn := Lib.hid hlen
    obtain ⟨la1, hla⟩ : ∃ m, l ++ (ts.take i).flatMap (typB P) = m := ⟨_, rfl⟩
    rw [hla] at KA hlen
    have HLa := Lib.hid hla
    obtain ⟨o0, o1⟩ := HO1.out
    obtain ⟨p0, p1⟩ := HP1.out
    dsimp only at o0 o1
    have CP1 := Lib.hid (wput_any (k + 1) wb wa.heap.size ov la1 [lo] 4 (KA.alloc (.cells #[.int .i64 lo] 2)) (set_at HK.out) (by omega) (fun x hx => .inr (by rw [List.mem_singleton.1 hx]; exact fits_4 (by omega) (by omega))) (fun x hx => by rw [List.mem_singleton.1 hx]; omega) (by show la1.length + 8 ≤ 900000; omega))
    have KA := Lib.hid KA
    clear hwa hq k0 k1 k2 hla
    go_wp2_with fail
    refine CP1.out.mono ?_
    rintro _ w1 ⟨rfl, ov1, hk1⟩
    rw [List.set_cons_succ, List.set_set] at hk1
    have K1 := hk1.drop
    rw [show [lo].flatMap (beN 4) = beN 4 lo by simp] at K1
    have K1 := Lib.hid K1
    clear hk1 CP1 x0 x1 x2 KA
    obtain ⟨⟨x0, x1, x2⟩, _, _, _⟩ := row3 (K1.out.at 0 rfl)
    obtain ⟨pp, hpp⟩ : ∃ z, plc P ⟨lo, ld, lb⟩ = z := ⟨_, rfl⟩
    rw [hpp] at HPat p0 p1
    have HPp := Lib.hid hpp
    clear hpp
    have hrow := K1.out.row (j + 1) HPr.out
    obtain ⟨gp, rfl, -, -, -, -⟩ := own_some hrow (by dsimp only; have := HN.out; omega)
    have kp := own_cell hrow HPat.out
    clear hrow
    have CP2 := fun d (hd : d = dstI ld) => Lib.hid (wput_any (k + 1) wb w1.heap.size ov1 (la1 ++ beN 4 lo) [d, pp] 1 (K1.out.alloc (.cells #[.int .i64 d, .int .i64 pp] 2)) (set_at HK.out) (by omega) (fun x hx => .inl rfl) (fun x hx => by
     subst hd
     have : 0 ≤ dstI ld ∧ dstI ld ≤ 1 := by cases ld <;> decide
     simp only [List.mem_cons, List.not_mem_nil, or_false] at hx
     rcases hx with rfl | rfl <;> omega) (by rw [List.length_append, beN_len]; show la1.length + 4 + 16 ≤ 900000; omega))
    have HE1 := Lib.hid (fun d (hd : d = dstI ld) => show l ++ (ts.take (i + 1)).flatMap (typB P) = la1 ++ beN 4 lo ++ [d, pp].flatMap (beN 1) by
     have e := typ_bytes P ⟨lo, ld, lb⟩
     rw [HPp.out] at e
     rw [HTK.out, List.flatMap_append, ← List.append_assoc, HLa.out, List.flatMap_cons, List.flatMap_nil, List.append_nil, ← e, hd, ← List.append_assoc])
    cases ld
    all_goals
     first
     | have CP3 := CP2 0 rfl
     | have CP3 := CP2 1 rfl
     clear CP2
     go_wp2_with fail
     refine CP3.out.mono ?_
     rintro _ w2 ⟨rfl, ov2, hk2⟩
     rw [List.set_cons_succ, List.set_set] at hk2
     have K2 := Lib.hid hk2.drop.drop
     clear hk2 CP3
     go_wp2_with fail
     go_roundw
     case rel =>
      refine ⟨i + 1, ov2, by omega, by go_num, ?_⟩
      rw [HE1.out _ rfl]
      exact K2.out
     case measure => simp [intOf]; omega
  · obtain rfl : i = N := by omega
    have hlen : (l ++ ts.flatMap (typB P)).length ≤ 706000 := by
     rw [List.length_append, rows_len (w := 6) _ (fun _ _ => typB_len _ _)]
     have := HN.out
     omega
    have hK := KR.out
    rw [List.take_of_length_le (by rw [HN.out]; exact Nat.le_refl _)] at hK
    obtain ⟨l1, hl1⟩ : ∃ m, l ++ ts.flatMap (typB P) = m := ⟨_, rfl⟩
    rw [hl1] at hK hlen
    obtain ⟨a1, c1, rfl⟩ := bRow_slice (hK.row 0 rfl)
    have kw := cells_at (hK.at k (set_at HK.out)) 0
    have hs : S.size = P.length := by rw [← HS.out]; exact bs_size P
    have hs2 : S.data.toList = P := by rw [← HS.out]; rfl
    obtain ⟨v2, w2, hr2, hk2⟩ := append_str hK S (by rw [hs]; omega)
    rw [hs2, bRow_is v2 _ (by rw [List.length_append, hs])] at hk2
    obtain ⟨l2, hl2⟩ : ∃ m, l1 ++ P = m := ⟨_, rfl⟩
    rw [hl2] at hk2
    obtain ⟨a2, c2, rfl⟩ := bRow_slice (hk2.row 0 rfl)
    have kw1 := cells_at (hk2.at k (set_at HK.out)) 0
    have kf1 := free_at (hk2.at k (set_at HK.out)) 0
    have kz1 := hk2.lt k (set_at HK.out)
    have K3 := Lib.hid (wr_again (v := .slice a2 l2.length c2) hk2 HK.out)
    have HR2 := Lib.hid hr2
    have HE := Lib.hid (show l ++ (ts.flatMap (typB P) ++ P) = l2 by rw [← List.append_assoc, hl1, hl2])
    clear hK hk2 hr2 hl1 hl2 hs hs2 hlen KR
    go_wp2_with (at_builtin; refine wpList_append_run rfl _ _ 32 9 rfl _ _ _ w2 rfl rfl HR2.out ?_)
    go_end0
    rw [HE.out]
    exact ⟨rfl, _, K3.out⟩
end Go.Proofs.YtkpmmabdpeobaaaGreatDoor.Px
