/- The functions zones and targets of package links: maps from names to first indexes. -/
import Derived.Test.YtnffecoohkanhaaGreatDoorYLnA
namespace Go.Proofs.YtnffecoohkanhaaGreatDoor.Px
open Go.RowKit
open Go.Maps (Keyed)

/-- a map from names to the first index of each -/
def MapOf (N : List (List UInt8)) (m : Nat) (X : World) : Prop := ∃ n D, n ≤ N.length ∧ X.ownsMap Tryz.prog 9 (plainElem Tryz.prog 3) m n D ∧ FnOf D (firstG N)
theorem MapOf.keep {N : List (List UInt8)} {m : Nat} {X Y : World} (h : MapOf N m X) (hB : Below X.heap.size X Y) : MapOf N m Y := by
  obtain ⟨n, D, h1, h2, h3⟩ := h
  exact ⟨n, D, h1, h2.kept (grown_below hB) (by simp), h3⟩
theorem MapOf.lt {N : List (List UInt8)} {m : Nat} {X : World} (h : MapOf N m X) : m < X.heap.size := by
  obtain ⟨n, D, _, h2, _⟩ := h
  exact h2.lt
set_option maxHeartbeats 8000000 in
set_option maxRecDepth 100000 in
theorem zones_any (rv zv lv sv : Value) (Z : List (Zo)) (W : World) (h : ZoV W zv Z) (hf : ∀ x ∈ Z, x.1.length ≤ maxLen) (hmax : Z.length ≤ 1000000) :
    Calls Tryz.prog 21 #[.agg #[rv, zv, lv, sv]] W fun e w' => ∃ m, e = .returned (.map (some m)) ∧ MapOf (znames Z) m w' ∧ W.heap.size ≤ m ∧ Below W.heap.size W w' := by
  obtain ⟨a, c, rfl, hc1, hc2⟩ := h.slA
  have hall := fun h0 => h.allA h0
  obtain ⟨n, hn⟩ : ∃ n, Z.length = n := ⟨_, rfl⟩
  rw [hn] at hall hmax hc1 ⊢
  unfold maxLen at hc2
  have HA := Lib.hid hall
  have HN := Lib.hid hn
  have HF := Lib.hid hf
  have K0 := Lib.hid (((Km.of (Kp.start W)).allocAt W.heap.size rfl (.cells #[rv, .slice a n c, lv, sv] 30)).made 9 3)
  rw [World.size_alloc] at K0
  have KB := Lib.hid ((Km.of (Kp.start W)).allocAt W.heap.size rfl (.cells #[rv, .slice a n c, lv, sv] 30))
  have b1 : (W.alloc (.cells #[rv, .slice a n c, lv, sv] 30)).cell? ⟨W.heap.size, 1, none⟩ = some (.slice a n c) := cells_at (KB.out.kp.at 0 rfl) 1
  have b2 : ((W.alloc (.cells #[rv, .slice a n c, lv, sv] 30)).alloc (.map #[] 0)).cell? ⟨W.heap.size, 1, none⟩ = some (.slice a n c) := cells_at (K0.out.kp.at 0 rfl) 1
  have T0 := Lib.hid (show ∃ nm D, nm ≤ 0 ∧ Km [(W.heap.size, .cells #[rv, .slice a n c, lv, sv] 30 (0, 0))] [] [⟨W.heap.size + 1, 9, 3, nm, D⟩] W _ ∧ FnOf D (firstG (znames (Z.take 0))) from ⟨0, _, Nat.le_refl _, K0.out, FnOf.empty⟩)
  have hmm := fun (n : Int) (w : World) => run_makeMap_hint (P := Tryz.prog) Tryz.underlying59 n w
  clear h hall hn hf K0 KB
  go_enter Tryz.func21, Tryz.ntmps21
  go_wp2_with fail
  clear hmm b1 b2
  go_loopw [4, 5, 6, 7, 15] (fun _ _ _ _ i15 wr => ∃ i : Nat, i ≤ n ∧ i15 = .int .i64 (i : Int) ∧ ∃ nm D, nm ≤ i ∧ Km [(W.heap.size, .cells #[rv, .slice a n c, lv, sv] 30 (0, 0))] [] [⟨W.heap.size + 1, 9, 3, nm, D⟩] W wr ∧ FnOf D (firstG (znames (Z.take i)))) (fun _ _ _ _ i15 _ => n - (intOf i15).toNat)
  case atStart => exact ⟨0, by omega, rfl, T0.out⟩
  case round =>
    obtain ⟨i, hi', rfl, nm, D, hnm, hK, hD⟩ := hrel
    have HK := Lib.hid hK
    have HD := Lib.hid hD
    clear hK hD T0
    by_cases hlt : i < n
    · obtain ⟨b, o, c', e1, _, _, hb, hcell⟩ := HA.out (by omega)
      simp only [Value.slice.injEq] at e1
      obtain ⟨rfl, _, rfl⟩ := e1
      obtain ⟨x, hx⟩ : ∃ x, Z[i]? = some x := ⟨_, List.getElem?_eq_getElem (by rw [HN.out]; exact hlt)⟩
      obtain ⟨q0, q1⟩ := zo_at Z hx
      have k0 := (HK.out.below.cell (p := ⟨b, o + i * 2, none⟩) hb).trans (hcell _ _ q0)
      have k1 := (HK.out.below.cell (p := ⟨b, o + i * 2 + 1, none⟩) hb).trans (hcell _ _ q1)
      have hbw := Nat.lt_of_lt_of_le hb HK.out.below.size
      have htk : znames (Z.take (i + 1)) = znames (Z.take i) ++ [x.1] := by
        unfold znames
        rw [List.take_add_one, hx, List.map_append]
        rfl
      have hkey := Lib.hid (keyN_is (HF.out x (List.mem_of_getElem? hx)))
      have hln : (znames (Z.take i)).length = i := by
        unfold znames
        rw [List.length_map, List.length_take, HN.out]
        omega
      obtain ⟨N0, hN0⟩ : ∃ N, znames (Z.take i) = N := ⟨_, rfl⟩
      rw [hN0] at HD htk hln
      have HIn := Lib.hid (firstG_in N0 x.1)
      have HTk := Lib.hid htk
      have HLn := Lib.hid hln
      obtain ⟨x1, x2, x3, x4⟩ := x
      dsimp only at k0 k1 hkey HIn HTk
      have KA := Lib.hid (HK.out.allocAt wr.heap.size rfl (.cells #[.string (bs x1), .slice x2 x3 x4] 42))
      obtain ⟨m0, m1⟩ := row2 (KA.out.kp.at 0 rfl)
      obtain ⟨s1, hs1⟩ : ∃ s, bs x1 = s := ⟨_, rfl⟩
      rw [hs1] at k0 hkey KA m0
      clear hx hcell q0 q1 htk hln hs1 hN0
      by_cases hm : x1 ∈ N0
      · rw [if_pos hm] at HIn
        obtain ⟨p, hp⟩ : ∃ p, posA N0 x1 = p := ⟨_, rfl⟩
        rw [hp] at HIn
        have HS1 := Lib.hid (show (firstG N0 (keyN x1)).getD (.lit (.int .i64 0)) = .lit (.int .i64 (p : Int)) by rw [HIn.out]; rfl)
        have HS2 := Lib.hid (show (firstG N0 (keyN x1)).isSome = true by rw [HIn.out]; rfl)
        have HG := Lib.hid (firstG_old hm)
        clear hp hm
        go_wp2_with (first
          | (at_lookup; refine wpList_look_ok_int _ rfl _ _ 59 rfl 9 3 .i64 str_keyed Tryz.underlying59 Tryz.underlying3 (zero_int _) (W.heap.size + 1) nm D (firstG N0) HD.out rfl (KA.out.map _ (List.mem_cons_self ..)) _ (keyN x1) rfl hkey.out (p : Int) HS1.out true HS2.out ?_)
          | go_in)
        go_roundw
        case rel =>
          refine ⟨i + 1, by omega, by go_num, nm, D, by omega, KA.out.drop, ?_⟩
          rw [HTk.out, HG.out]
          exact HD.out
        case measure => simp [intOf]; omega
      · rw [if_neg hm] at HIn
        have HS1 := Lib.hid (show (firstG N0 (keyN x1)).getD (.lit (.int .i64 0)) = .lit (.int .i64 0) by rw [HIn.out]; rfl)
        have HS2 := Lib.hid (show (firstG N0 (keyN x1)).isSome = false by rw [HIn.out]; rfl)
        have HG := Lib.hid (firstG_new hm)
        have hwf : (Lit.int .i64 (i : Int)).wf = true := wf_64 (by omega)
        have hnml : nm < maxLen := by unfold maxLen; omega
        have hval := Lib.hid (plainElem_int (H := Unit) (P := Tryz.prog) (q := .i64) Tryz.underlying3 hwf)
        obtain ⟨u3, hu3, ou3, gu3⟩ := (KA.out.map _ (List.mem_cons_self ..)).update str_keyed Tryz.underlying59 hnml hkey.out hval.out
        dsimp only at hu3
        have KF := Lib.hid (KA.out.turn gu3 ou3)
        clear ou3 gu3 hm hwf
        go_wp2_with (first
          | (at_lookup; refine wpList_look_ok_int _ rfl _ _ 59 rfl 9 3 .i64 str_keyed Tryz.underlying59 Tryz.underlying3 (zero_int _) (W.heap.size + 1) nm D (firstG N0) HD.out rfl (KA.out.map _ (List.mem_cons_self ..)) _ (keyN x1) rfl hkey.out 0 HS1.out false HS2.out ?_)
          | go_in)
        go_roundw
        case rel =>
          refine ⟨i + 1, by omega, by go_num, nm + 1, _, by omega, KF.out.drop, ?_⟩
          rw [HTk.out, HG.out, HLn.out]
          exact HD.out.put (keyN_lit x1) _
        case measure => simp [intOf]; omega
    · obtain rfl : i = n := by omega
      have hLt : Z.take i = Z := List.take_of_length_le (by rw [HN.out]; exact Nat.le_refl _)
      have hd := HD.out
      rw [hLt] at hd
      have HD2 := Lib.hid hd
      have hnn : nm ≤ (znames Z).length := by unfold znames; rw [List.length_map, HN.out]; exact hnm
      have HNN := Lib.hid hnn
      clear hLt hd hnn
      go_wp2_with fail
      refine bodyPost_ret (v := .map (some (W.heap.size + 1))) (by simp [results, Tryz.results21, go_sem]) rfl ⟨_, rfl, ⟨nm, D, HNN.out, HK.out.map _ (List.mem_cons_self ..), HD2.out⟩, by omega, HK.out.below⟩
set_option maxHeartbeats 8000000 in
set_option maxRecDepth 100000 in
theorem targets_any (rv zv lv sv : Value) (L : List (List UInt8 × List UInt8)) (W : World) (h : LkV W lv L) (hf : ∀ x ∈ L, x.1.length ≤ maxLen) (hmax : L.length ≤ 1000000) :
    Calls Tryz.prog 23 #[.agg #[rv, zv, lv, sv]] W fun e w' => ∃ m, e = .returned (.map (some m)) ∧ MapOf (Lk.nm L) m w' ∧ W.heap.size ≤ m ∧ Below W.heap.size W w' := by
  obtain ⟨a, c, rfl, hc1, hc2⟩ := h.slA
  have hall := fun h0 => h.allA h0
  obtain ⟨n, hn⟩ : ∃ n, L.length = n := ⟨_, rfl⟩
  rw [hn] at hall hmax hc1 ⊢
  unfold maxLen at hc2
  have HA := Lib.hid hall
  have HN := Lib.hid hn
  have HF := Lib.hid hf
  have K0 := Lib.hid (((Km.of (Kp.start W)).allocAt W.heap.size rfl (.cells #[rv, zv, .slice a n c, sv] 30)).made 9 3)
  rw [World.size_alloc] at K0
  have KB := Lib.hid ((Km.of (Kp.start W)).allocAt W.heap.size rfl (.cells #[rv, zv, .slice a n c, sv] 30))
  have b1 : (W.alloc (.cells #[rv, zv, .slice a n c, sv] 30)).cell? ⟨W.heap.size, 2, none⟩ = some (.slice a n c) := cells_at (KB.out.kp.at 0 rfl) 2
  have b2 : ((W.alloc (.cells #[rv, zv, .slice a n c, sv] 30)).alloc (.map #[] 0)).cell? ⟨W.heap.size, 2, none⟩ = some (.slice a n c) := cells_at (K0.out.kp.at 0 rfl) 2
  have T0 := Lib.hid (show ∃ nm D, nm ≤ 0 ∧ Km [(W.heap.size, .cells #[rv, zv, .slice a n c, sv] 30 (0, 0))] [] [⟨W.heap.size + 1, 9, 3, nm, D⟩] W _ ∧ FnOf D (firstG (Lk.nm (L.take 0))) from ⟨0, _, Nat.le_refl _, K0.out, FnOf.empty⟩)
  have hmm := fun (n : Int) (w : World) => run_makeMap_hint (P := Tryz.prog) Tryz.underlying59 n w
  clear h hall hn hf K0 KB
  go_enter Tryz.func23, Tryz.ntmps23
  go_wp2_with fail
  clear hmm b1 b2
  go_loopw [4, 5, 6, 7, 15] (fun _ _ _ _ i15 wr => ∃ i : Nat, i ≤ n ∧ i15 = .int .i64 (i : Int) ∧ ∃ nm D, nm ≤ i ∧ Km [(W.heap.size, .cells #[rv, zv, .slice a n c, sv] 30 (0, 0))] [] [⟨W.heap.size + 1, 9, 3, nm, D⟩] W wr ∧ FnOf D (firstG (Lk.nm (L.take i)))) (fun _ _ _ _ i15 _ => n - (intOf i15).toNat)
  case atStart => exact ⟨0, by omega, rfl, T0.out⟩
  case round =>
    obtain ⟨i, hi', rfl, nm, D, hnm, hK, hD⟩ := hrel
    have HK := Lib.hid hK
    have HD := Lib.hid hD
    clear hK hD T0
    by_cases hlt : i < n
    · obtain ⟨b, o, c', e1, _, _, hb, hcell⟩ := HA.out (by omega)
      simp only [Value.slice.injEq] at e1
      obtain ⟨rfl, _, rfl⟩ := e1
      obtain ⟨x, hx⟩ : ∃ x, L[i]? = some x := ⟨_, List.getElem?_eq_getElem (by rw [HN.out]; exact hlt)⟩
      obtain ⟨q0, q1⟩ := lk_at L hx
      have k0 := (HK.out.below.cell (p := ⟨b, o + i * 2, none⟩) hb).trans (hcell _ _ q0)
      have k1 := (HK.out.below.cell (p := ⟨b, o + i * 2 + 1, none⟩) hb).trans (hcell _ _ q1)
      have hbw := Nat.lt_of_lt_of_le hb HK.out.below.size
      have htk : Lk.nm (L.take (i + 1)) = Lk.nm (L.take i) ++ [x.1] := by
        unfold Lk.nm
        rw [List.take_add_one, hx, List.map_append]
        rfl
      have hkey := Lib.hid (keyN_is (HF.out x (List.mem_of_getElem? hx)))
      have hln : (Lk.nm (L.take i)).length = i := by
        unfold Lk.nm
        rw [List.length_map, List.length_take, HN.out]
        omega
      obtain ⟨N0, hN0⟩ : ∃ N, Lk.nm (L.take i) = N := ⟨_, rfl⟩
      rw [hN0] at HD htk hln
      have HIn := Lib.hid (firstG_in N0 x.1)
      have HTk := Lib.hid htk
      have HLn := Lib.hid hln
      obtain ⟨x1, x2⟩ := x
      dsimp only at k0 k1 hkey HIn HTk
      have KA := Lib.hid (HK.out.allocAt wr.heap.size rfl (.cells #[.string (bs x2), .string (bs x1)] 44))
      obtain ⟨m0, m1⟩ := row2 (KA.out.kp.at 0 rfl)
      obtain ⟨s1, hs1⟩ : ∃ s, bs x1 = s := ⟨_, rfl⟩
      rw [hs1] at k1 hkey KA m1
      clear hx hcell q0 q1 htk hln hs1 hN0
      by_cases hm : x1 ∈ N0
      · rw [if_pos hm] at HIn
        obtain ⟨p, hp⟩ : ∃ p, posA N0 x1 = p := ⟨_, rfl⟩
        rw [hp] at HIn
        have HS1 := Lib.hid (show (firstG N0 (keyN x1)).getD (.lit (.int .i64 0)) = .lit (.int .i64 (p : Int)) by rw [HIn.out]; rfl)
        have HS2 := Lib.hid (show (firstG N0 (keyN x1)).isSome = true by rw [HIn.out]; rfl)
        have HG := Lib.hid (firstG_old hm)
        clear hp hm
        go_wp2_with (first
          | (at_lookup; refine wpList_look_ok_int _ rfl _ _ 59 rfl 9 3 .i64 str_keyed Tryz.underlying59 Tryz.underlying3 (zero_int _) (W.heap.size + 1) nm D (firstG N0) HD.out rfl (KA.out.map _ (List.mem_cons_self ..)) _ (keyN x1) rfl hkey.out (p : Int) HS1.out true HS2.out ?_)
          | go_in)
        go_roundw
        case rel =>
          refine ⟨i + 1, by omega, by go_num, nm, D, by omega, KA.out.drop, ?_⟩
          rw [HTk.out, HG.out]
          exact HD.out
        case measure => simp [intOf]; omega
      · rw [if_neg hm] at HIn
        have HS1 := Lib.hid (show (firstG N0 (keyN x1)).getD (.lit (.int .i64 0)) = .lit (.int .i64 0) by rw [HIn.out]; rfl)
        have HS2 := Lib.hid (show (firstG N0 (keyN x1)).isSome = false by rw [HIn.out]; rfl)
        have HG := Lib.hid (firstG_new hm)
        have hwf : (Lit.int .i64 (i : Int)).wf = true := wf_64 (by omega)
        have hnml : nm < maxLen := by unfold maxLen; omega
        have hval := Lib.hid (plainElem_int (H := Unit) (P := Tryz.prog) (q := .i64) Tryz.underlying3 hwf)
        obtain ⟨u3, hu3, ou3, gu3⟩ := (KA.out.map _ (List.mem_cons_self ..)).update str_keyed Tryz.underlying59 hnml hkey.out hval.out
        dsimp only at hu3
        have KF := Lib.hid (KA.out.turn gu3 ou3)
        clear ou3 gu3 hm hwf
        go_wp2_with (first
          | (at_lookup; refine wpList_look_ok_int _ rfl _ _ 59 rfl 9 3 .i64 str_keyed Tryz.underlying59 Tryz.underlying3 (zero_int _) (W.heap.size + 1) nm D (firstG N0) HD.out rfl (KA.out.map _ (List.mem_cons_self ..)) _ (keyN x1) rfl hkey.out 0 HS1.out false HS2.out ?_)
          | go_in)
        go_roundw
        case rel =>
          refine ⟨i + 1, by omega, by go_num, nm + 1, _, by omega, KF.out.drop, ?_⟩
          rw [HTk.out, HG.out, HLn.out]
          exact HD.out.put (keyN_lit x1) _
        case measure => simp [intOf]; omega
    · obtain rfl : i = n := by omega
      have hLt : L.take i = L := List.take_of_length_le (by rw [HN.out]; exact Nat.le_refl _)
      have hd := HD.out
      rw [hLt] at hd
      have HD2 := Lib.hid hd
      have hnn : nm ≤ (Lk.nm L).length := by unfold Lk.nm; rw [List.length_map, HN.out]; exact hnm
      have HNN := Lib.hid hnn
      clear hLt hd hnn
      go_wp2_with fail
      refine bodyPost_ret (v := .map (some (W.heap.size + 1))) (by simp [results, Tryz.results23, go_sem]) rfl ⟨_, rfl, ⟨nm, D, HNN.out, HK.out.map _ (List.mem_cons_self ..), HD2.out⟩, by omega, HK.out.below⟩
end Go.Proofs.YtnffecoohkanhaaGreatDoor.Px
