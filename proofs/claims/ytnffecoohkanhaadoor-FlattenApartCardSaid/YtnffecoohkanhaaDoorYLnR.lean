/- The reference's way of following names (chapter 15): zone, link, Known, Find. -/
import Derived.Test.YtnffecoohkanhaaDoorYLnG
namespace Go.Proofs.YtnffecoohkanhaaDoor.Px
open Go.RowKit
open Go.Maps (Keyed)
open Lk

theorem ba_eq {a b : ByteArray} (h : a.toList = b.toList) : a = b := by
  rw [ByteArray.toList_eq, ByteArray.toList_eq] at h
  obtain ⟨⟨a⟩⟩ := a
  obtain ⟨⟨b⟩⟩ := b
  simpa using h
theorem bs_inj {a b : List UInt8} (h : bs a = bs b) : a = b := by
  have := congrArg (fun x : ByteArray => x.data.toList) h
  exact this
section
variable {α : Type} [DecidableEq α]
theorem posA_first : ∀ (l : List α) (i : Nat) (x : α), l[i]? = some x → x ∉ l.take i → posA l x = i
  | [], _, _, h, _ => by simp at h
  | y :: r, 0, x, h, _ => by
    have : y = x := by simpa using h
    rw [posA_cons, if_pos this]
  | y :: r, i + 1, x, h, hn => by
    rw [List.getElem?_cons_succ] at h
    rw [List.take_succ_cons, List.mem_cons] at hn
    rw [posA_cons, if_neg (fun e => hn (.inl e.symm)), posA_first r i x h (fun q => hn (.inr q))]
end
theorem not_take_succ {α : Type} {l : List α} {i : Nat} {x y : α} (h : l[i]? = some y) (hn : x ∉ l.take i) (hy : y ≠ x) : x ∉ l.take (i + 1) := by
  rw [List.take_add_one, h]
  intro q
  rcases List.mem_append.1 q with q | q
  · exact hn q
  · rw [Option.toList_some, List.mem_singleton] at q
    exact hy q.symm
/-- the index of the first, or -1 -/
def idx1 (N : List (List UInt8)) (n : List UInt8) : Int := if n ∈ N then (posA N n : Int) else -1
theorem idx1_in {N : List (List UInt8)} {i : Nat} {n : List UInt8} (h : N[i]? = some n) (hn : n ∉ N.take i) : idx1 N n = (i : Int) := by
  unfold idx1
  rw [if_pos (List.mem_of_getElem? h), posA_first N i n h hn]
theorem idx1_out {N : List (List UInt8)} {n : List UInt8} (h : n ∉ N) : idx1 N n = -1 := by
  unfold idx1
  rw [if_neg h]
set_option maxHeartbeats 4000000 in
set_option maxRecDepth 100000 in
theorem zone_exact (rv zv lv sv : Value) (Z : List Zo) (q : List UInt8) (W : World) (h : ZoV W zv Z) (hmax : Z.length ≤ 1000000) :
    Calls Tryd.prog 54 #[.agg #[rv, zv, lv, sv], .string (bs q)] W fun e w' => e = .returned (.int .i64 (idx1 (znames Z) q)) ∧ w' = W.alloc (.cells #[rv, zv, lv, sv] 27) := by
  obtain ⟨a, c, rfl, hc1, hc2⟩ := h.slA
  have hall := fun h0 => h.allA h0
  obtain ⟨n, hn⟩ : ∃ n, Z.length = n := ⟨_, rfl⟩
  rw [hn] at hall hmax hc1 ⊢
  unfold maxLen at hc2
  have HA := Lib.hid hall
  have HN := Lib.hid hn
  obtain ⟨R, hR⟩ : ∃ R, idx1 (znames Z) q = R := ⟨_, rfl⟩
  rw [hR]
  have HR := Lib.hid hR
  have KB := Lib.hid ((Kp.start W).allocAt W.heap.size rfl (.cells #[rv, .slice a n c, lv, sv] 27))
  obtain ⟨W1, hW1⟩ : ∃ X, W.alloc (.cells #[rv, .slice a n c, lv, sv] 27) = X := ⟨_, rfl⟩
  have HWE := Lib.hid hW1
  rw [hW1] at KB
  obtain ⟨v0, v1, v2, v3⟩ := row4 (KB.out.at 0 rfl)
  obtain ⟨sq, hsq⟩ : ∃ s, bs q = s := ⟨_, rfl⟩
  rw [hsq]
  have HQ := Lib.hid hsq
  clear h hall hn hR hsq
  go_enter Tryd.func54, Tryd.ntmps54
  go_wp2_with fail
  go_loopw [5] (fun i5 wr => ∃ i : Nat, i ≤ n ∧ i5 = .int .i64 (i : Int) ∧ q ∉ (znames Z).take i ∧ wr = W1) (fun i5 _ => n - (intOf i5).toNat)
  case atStart => exact ⟨0, by omega, rfl, by simp, by first | rfl | exact hW1⟩
  case round =>
    obtain ⟨i, hi', rfl, hno, rfl⟩ := hrel
    have HO := Lib.hid hno
    clear hno
    try clear hW1
    by_cases hlt : i < n
    · obtain ⟨b, o, c', e1, _, _, hb, hcell⟩ := HA.out (by omega)
      simp only [Value.slice.injEq] at e1
      obtain ⟨rfl, _, rfl⟩ := e1
      obtain ⟨x, hx⟩ : ∃ x, Z[i]? = some x := ⟨_, List.getElem?_eq_getElem (by rw [HN.out]; exact hlt)⟩
      obtain ⟨q0, q1⟩ := zo_at Z hx
      have k0 := (KB.out.below.cell (p := ⟨b, o + i * 2, none⟩) hb).trans (hcell _ _ q0)
      have k1 := (KB.out.below.cell (p := ⟨b, o + i * 2 + 1, none⟩) hb).trans (hcell _ _ q1)
      have hbw := Nat.lt_of_lt_of_le hb KB.out.below.size
      have hzx := znames_at hx
      have hst := fun (hy : x.1 ≠ q) => not_take_succ hzx HO.out hy
      have hse := fun (hy : x.1 = q) => idx1_in (hy ▸ hzx) HO.out
      by_cases he : x.1 = q
      · have hR := hse he
        rw [HR.out] at hR
        subst hR
        obtain ⟨x1, x2⟩ := x
        dsimp only at k0 k1 he
        rw [he, HQ.out] at k0
        clear hx hcell q0 q1 hzx hst hse he
        go_wp2_with fail
        refine bodyPost_ret (v := .int .i64 (i : Int)) (by simp [results, Tryd.results54, go_sem]) rfl ⟨rfl, HWE.out.symm⟩
      · have HT := Lib.hid (hst he)
        obtain ⟨x1, x2⟩ := x
        dsimp only at k0 k1 he
        have hq3 : ¬ bs x1 = sq := fun e => he (bs_inj (e.trans HQ.out.symm))
        have hq2 : ¬ (bs x1).toList = sq.toList := fun e => hq3 (ba_eq e)
        have hq : ((bs x1).toList == sq.toList) = false := by rw [beq_eq_false_iff_ne]; exact hq2
        obtain ⟨s1, hs1⟩ : ∃ s, bs x1 = s := ⟨_, rfl⟩
        rw [hs1] at k0 hq hq2 hq3
        clear hx hcell q0 q1 hzx hst hse he hs1
        go_wp2_with fail
        go_roundw
        case rel => exact ⟨i + 1, by omega, by go_num, HT.out, by first | trivial | rfl⟩
        case measure => simp [intOf]; omega
    · obtain rfl : i = n := by omega
      have hR := HR.out
      rw [idx1_out (by have := HO.out; rwa [List.take_of_length_le (by rw [znames_len, HN.out]; exact Nat.le_refl _)] at this)] at hR
      subst hR
      go_wp2_with fail
      refine bodyPost_ret (v := .int .i64 (-1)) (by simp [results, Tryd.results54, go_sem]) rfl ⟨rfl, HWE.out.symm⟩
theorem zone_ref (rv zv lv sv : Value) (Z : List Zo) (q : List UInt8) (W : World) (h : ZoV W zv Z) (hmax : Z.length ≤ 1000000) :
    Calls Tryd.prog 54 #[.agg #[rv, zv, lv, sv], .string (bs q)] W fun e w' => e = .returned (.int .i64 (idx1 (znames Z) q)) ∧ Below W.heap.size W w' :=
  (zone_exact rv zv lv sv Z q W h hmax).mono fun e w' ⟨he, hw⟩ => ⟨he, by rw [hw]; exact (Below.refl _ W).alloc (Nat.le_refl _) _⟩
set_option maxHeartbeats 4000000 in
set_option maxRecDepth 100000 in
theorem link_exact (rv zv lv sv : Value) (L : List (List UInt8 × List UInt8)) (q : List UInt8) (W : World) (h : LkV W lv L) (hmax : L.length ≤ 1000000) :
    Calls Tryd.prog 55 #[.agg #[rv, zv, lv, sv], .string (bs q)] W fun e w' => e = .returned (.int .i64 (idx1 (nm L) q)) ∧ w' = W.alloc (.cells #[rv, zv, lv, sv] 27) := by
  obtain ⟨a, c, rfl, hc1, hc2⟩ := h.slA
  have hall := fun h0 => h.allA h0
  obtain ⟨n, hn⟩ : ∃ n, L.length = n := ⟨_, rfl⟩
  rw [hn] at hall hmax hc1 ⊢
  unfold maxLen at hc2
  have HA := Lib.hid hall
  have HN := Lib.hid hn
  obtain ⟨R, hR⟩ : ∃ R, idx1 (nm L) q = R := ⟨_, rfl⟩
  rw [hR]
  have HR := Lib.hid hR
  have KB := Lib.hid ((Kp.start W).allocAt W.heap.size rfl (.cells #[rv, zv, .slice a n c, sv] 27))
  obtain ⟨W1, hW1⟩ : ∃ X, W.alloc (.cells #[rv, zv, .slice a n c, sv] 27) = X := ⟨_, rfl⟩
  have HWE := Lib.hid hW1
  rw [hW1] at KB
  obtain ⟨v0, v1, v2, v3⟩ := row4 (KB.out.at 0 rfl)
  obtain ⟨sq, hsq⟩ : ∃ s, bs q = s := ⟨_, rfl⟩
  rw [hsq]
  have HQ := Lib.hid hsq
  clear h hall hn hR hsq
  go_enter Tryd.func55, Tryd.ntmps55
  go_wp2_with fail
  go_loopw [5] (fun i5 wr => ∃ i : Nat, i ≤ n ∧ i5 = .int .i64 (i : Int) ∧ q ∉ (nm L).take i ∧ wr = W1) (fun i5 _ => n - (intOf i5).toNat)
  case atStart => exact ⟨0, by omega, rfl, by simp, by first | rfl | exact hW1⟩
  case round =>
    obtain ⟨i, hi', rfl, hno, rfl⟩ := hrel
    have HO := Lib.hid hno
    clear hno
    try clear hW1
    by_cases hlt : i < n
    · obtain ⟨b, o, c', e1, _, _, hb, hcell⟩ := HA.out (by omega)
      simp only [Value.slice.injEq] at e1
      obtain ⟨rfl, _, rfl⟩ := e1
      obtain ⟨x, hx⟩ : ∃ x, L[i]? = some x := ⟨_, List.getElem?_eq_getElem (by rw [HN.out]; exact hlt)⟩
      obtain ⟨q0, q1⟩ := lk_at L hx
      have k0 := (KB.out.below.cell (p := ⟨b, o + i * 2, none⟩) hb).trans (hcell _ _ q0)
      have k1 := (KB.out.below.cell (p := ⟨b, o + i * 2 + 1, none⟩) hb).trans (hcell _ _ q1)
      have hbw := Nat.lt_of_lt_of_le hb KB.out.below.size
      have hzx := nm_at hx
      have hst := fun (hy : x.1 ≠ q) => not_take_succ hzx HO.out hy
      have hse := fun (hy : x.1 = q) => idx1_in (hy ▸ hzx) HO.out
      by_cases he : x.1 = q
      · have hR := hse he
        rw [HR.out] at hR
        subst hR
        obtain ⟨x1, x2⟩ := x
        dsimp only at k0 k1 he
        rw [he, HQ.out] at k1
        clear hx hcell q0 q1 hzx hst hse he
        go_wp2_with fail
        refine bodyPost_ret (v := .int .i64 (i : Int)) (by simp [results, Tryd.results55, go_sem]) rfl ⟨rfl, HWE.out.symm⟩
      · have HT := Lib.hid (hst he)
        obtain ⟨x1, x2⟩ := x
        dsimp only at k0 k1 he
        have hq3 : ¬ bs x1 = sq := fun e => he (bs_inj (e.trans HQ.out.symm))
        have hq2 : ¬ (bs x1).toList = sq.toList := fun e => hq3 (ba_eq e)
        have hq : ((bs x1).toList == sq.toList) = false := by rw [beq_eq_false_iff_ne]; exact hq2
        obtain ⟨s1, hs1⟩ : ∃ s, bs x1 = s := ⟨_, rfl⟩
        rw [hs1] at k1 hq hq2 hq3
        clear hx hcell q0 q1 hzx hst hse he hs1
        go_wp2_with fail
        go_roundw
        case rel => exact ⟨i + 1, by omega, by go_num, HT.out, by first | trivial | rfl⟩
        case measure => simp [intOf]; omega
    · obtain rfl : i = n := by omega
      have hR := HR.out
      rw [idx1_out (by have := HO.out; rwa [List.take_of_length_le (by rw [nm_len, HN.out]; exact Nat.le_refl _)] at this)] at hR
      subst hR
      go_wp2_with fail
      refine bodyPost_ret (v := .int .i64 (-1)) (by simp [results, Tryd.results55, go_sem]) rfl ⟨rfl, HWE.out.symm⟩
theorem link_ref (rv zv lv sv : Value) (L : List (List UInt8 × List UInt8)) (q : List UInt8) (W : World) (h : LkV W lv L) (hmax : L.length ≤ 1000000) :
    Calls Tryd.prog 55 #[.agg #[rv, zv, lv, sv], .string (bs q)] W fun e w' => e = .returned (.int .i64 (idx1 (nm L) q)) ∧ Below W.heap.size W w' :=
  (link_exact rv zv lv sv L q W h hmax).mono fun e w' ⟨he, hw⟩ => ⟨he, by rw [hw]; exact (Below.refl _ W).alloc (Nat.le_refl _) _⟩
theorem idx1_known (N : List (List UInt8)) (n : List UInt8) : 0 ≤ idx1 N n ↔ n ∈ N := by
  unfold idx1
  by_cases h : n ∈ N
  · rw [if_pos h]
    exact ⟨fun _ => h, fun _ => Int.natCast_nonneg _⟩
  · rw [if_neg h]
    exact ⟨fun q => by omega, fun q => absurd q h⟩
set_option maxHeartbeats 4000000 in
set_option maxRecDepth 100000 in
theorem known_ref (rv zv lv sv : Value) (Z : List Zo) (L : List (List UInt8 × List UInt8)) (q : List UInt8) (W : World) (h : SrcV W zv lv Z L) (hz : Z.length ≤ 1000000) (hmax : L.length ≤ 1000000) :
    Calls Tryd.prog 56 #[.agg #[rv, zv, lv, sv], .string (bs q)] W fun e w' => e = .returned (.bool (decide (q ∈ znames Z ∨ q ∈ nm L))) ∧ Below W.heap.size W w' := by
  have KB := Lib.hid ((Kp.start W).allocAt W.heap.size rfl (.cells #[rv, zv, lv, sv] 27))
  have HH := Lib.hid h
  obtain ⟨W1, hW1⟩ : ∃ X, W.alloc (.cells #[rv, zv, lv, sv] 27) = X := ⟨_, rfl⟩
  rw [hW1] at KB
  obtain ⟨v0, v1, v2, v3⟩ := row4 (KB.out.at 0 rfl)
  have CZ := Lib.hid (zone_ref rv zv lv sv Z q W1 (h.zo.keep KB.out.below) hz)
  have CL := Lib.hid (fun (Y : World) (hB : Below W.heap.size W Y) => link_ref rv zv lv sv L q Y (h.lk.keep hB) hmax)
  obtain ⟨r, hr⟩ : ∃ r, decide (q ∈ znames Z ∨ q ∈ nm L) = r := ⟨_, rfl⟩
  rw [hr]
  have h1 := idx1_known (znames Z) q
  have h2 := idx1_known (nm L) q
  obtain ⟨c1, hc1⟩ : ∃ c, idx1 (znames Z) q = c := ⟨_, rfl⟩
  obtain ⟨c2, hc2⟩ : ∃ c, idx1 (nm L) q = c := ⟨_, rfl⟩
  rw [hc1] at h1 CZ
  rw [hc2] at h2 CL
  have hr' : decide (0 ≤ c1 ∨ 0 ≤ c2) = r := by rw [← hr]; exact decide_eq_decide.2 (or_congr h1 h2)
  clear hr h1 h2 hc1 hc2 h
  obtain ⟨sq, hsq⟩ : ∃ s, bs q = s := ⟨_, rfl⟩
  rw [hsq] at CZ CL ⊢
  have HW := Lib.hid hW1
  clear hsq
  by_cases hz1 : 0 ≤ c1
  · have : r = true := by rw [← hr']; exact decide_eq_true (.inl hz1)
    subst this
    clear hr'
    go_enter Tryd.func56, Tryd.ntmps56
    go_wp2_with (first
      | (go_at_call 54; refine (CZ.out).mono ?_; rintro e X ⟨rfl, hb⟩; have K1 := Lib.hid (KB.out.keep hb); obtain ⟨u0, u1, u2, u3⟩ := row4 (K1.out.at 0 rfl); clear hb)
      | go_in)
    refine bodyPost_ret (v := .bool true) (by simp [results, Tryd.results56, go_sem]) rfl ⟨rfl, K1.out.below⟩
  · have hr2 : decide (0 ≤ c2) = r := by rw [← hr']; exact decide_eq_decide.2 ⟨.inr, fun q => q.elim (fun q => absurd q hz1) id⟩
    clear hr'
    by_cases hz2 : 0 ≤ c2
    · have : r = true := by rw [← hr2]; exact decide_eq_true hz2
      subst this
      clear hr2
      go_enter Tryd.func56, Tryd.ntmps56
      go_wp2_with (first
        | (go_at_call 54; refine (CZ.out).mono ?_; rintro e X ⟨rfl, hb⟩; have K1 := Lib.hid (KB.out.keep hb); obtain ⟨u0, u1, u2, u3⟩ := row4 (K1.out.at 0 rfl); clear hb)
        | (go_at_call 55; refine (CL.out _ K1.out.below).mono ?_; rintro e Y ⟨rfl, hb⟩; have K2 := Lib.hid (K1.out.keep hb); clear hb)
        | go_in)
      refine bodyPost_ret (v := .bool true) (by simp [results, Tryd.results56, go_sem]) rfl ⟨rfl, K2.out.below⟩
    · have : r = false := by rw [← hr2]; exact decide_eq_false hz2
      subst this
      clear hr2
      go_enter Tryd.func56, Tryd.ntmps56
      go_wp2_with (first
        | (go_at_call 54; refine (CZ.out).mono ?_; rintro e X ⟨rfl, hb⟩; have K1 := Lib.hid (KB.out.keep hb); obtain ⟨u0, u1, u2, u3⟩ := row4 (K1.out.at 0 rfl); clear hb)
        | (go_at_call 55; refine (CL.out _ K1.out.below).mono ?_; rintro e Y ⟨rfl, hb⟩; have K2 := Lib.hid (K1.out.keep hb); clear hb)
        | go_in)
      refine bodyPost_ret (v := .bool false) (by simp [results, Tryd.results56, go_sem]; try omega) rfl ⟨rfl, K2.out.below⟩
set_option maxHeartbeats 8000000 in
set_option maxRecDepth 100000 in
theorem find_ref (rv zv lv sv : Value) (Z : List Zo) (L : List (List UInt8 × List UInt8)) (q : List UInt8) (W : World) (h : SrcV W zv lv Z L) (hz : Z.length ≤ 1000000) (hmax : L.length ≤ 1000000) :
    Calls Tryd.prog 32 #[.agg #[rv, zv, lv, sv], .string (bs q)] W fun e w' => e = .returned (.tuple #[.int .i64 ((findL (znames Z) L q).1 : Int), .int .i64 (findL (znames Z) L q).2]) ∧ Below W.heap.size W w' := by
  obtain ⟨a, c, rfl, hc1, hc2⟩ := h.lk.slA
  have hall := fun h0 => h.lk.allA h0
  have CZ := Lib.hid (fun (Y : World) (q : List UInt8) (hB : Below W.heap.size W Y) => zone_ref rv zv (.slice a L.length c) sv Z q Y (h.zo.keep hB) hz)
  have CL := Lib.hid (fun (Y : World) (q : List UInt8) (hB : Below W.heap.size W Y) => link_ref rv zv (.slice a L.length c) sv L q Y (h.lk.keep hB) hmax)
  obtain ⟨R, hR⟩ : ∃ R, findL (znames Z) L q = R := ⟨_, rfl⟩
  rw [hR]
  unfold findL at hR
  obtain ⟨n, hn⟩ : ∃ n, L.length = n := ⟨_, rfl⟩
  rw [hn] at hall hmax hc1 CZ CL hR ⊢
  unfold maxLen at hc2
  have HA := Lib.hid hall
  have HN := Lib.hid hn
  have HR := Lib.hid hR
  have KB := Lib.hid ((Kp.start W).allocAt W.heap.size rfl (.cells #[rv, zv, .slice a n c, sv] 27))
  obtain ⟨W1, hW1⟩ : ∃ X, W.alloc (.cells #[rv, zv, .slice a n c, sv] 27) = X := ⟨_, rfl⟩
  rw [hW1] at KB
  obtain ⟨v0, v1, v2, v3⟩ := row4 (KB.out.at 0 rfl)
  clear h hall hn hR
  go_enter Tryd.func32, Tryd.ntmps32
  go_wp2_with fail
  clear v0 v1 v2 v3
  go_loopw [1, 6, 7, 8] (fun s1 i6 _ _ wr => ∃ i : Nat, i ≤ n + 1 ∧ i6 = .int .i64 (i : Int) ∧ (∃ cur, s1 = .string (bs cur) ∧ findG (znames Z) L (n + 1 - i) cur = R) ∧ Below W1.heap.size W1 wr) (fun _ i6 _ _ _ => n + 1 - (intOf i6).toNat)
  case atStart => exact ⟨0, by omega, rfl, ⟨q, rfl, HR.out⟩, by first | exact Below.refl _ _ | (rw [hW1]; exact Below.refl _ _)⟩
  case round =>
    obtain ⟨i, hi', rfl, ⟨cur, rfl, hf⟩, hB⟩ := hrel
    have HB := Lib.hid hB
    have HK := Lib.hid (KB.out.keep HB.out)
    obtain ⟨u0, u1, u2, u3⟩ := row4 (HK.out.at 0 rfl)
    clear hB
    try clear hW1
    by_cases hlt : i < n + 1
    · obtain ⟨k', hk'⟩ : ∃ k', n + 1 - i = k' + 1 := ⟨n - i, by omega⟩
      rw [hk'] at hf
      have hkk : n + 1 - (i + 1) = k' := by omega
      have hstep : findG (znames Z) L (k' + 1) cur = if cur ∈ znames Z then ((znames Z).idxOf cur, 0) else if cur ∈ nm L then findG (znames Z) L k' (tgt L cur) else (0, 9) := rfl
      rw [hstep] at hf
      have CZx := Lib.hid (fun (Y : World) => CZ.out Y cur)
      have CLx := Lib.hid (fun (Y : World) => CL.out Y cur)
      by_cases hzi : cur ∈ znames Z
      · rw [if_pos hzi, ← posA_idx] at hf
        have hx : idx1 (znames Z) cur = (posA (znames Z) cur : Int) := by unfold idx1; rw [if_pos hzi]
        rw [hx] at CZx
        obtain ⟨p, hp⟩ : ∃ p, posA (znames Z) cur = p := ⟨_, rfl⟩
        rw [hp] at CZx hf
        subst hf
        obtain ⟨sc, hsc⟩ : ∃ s, bs cur = s := ⟨_, rfl⟩
        rw [hsc] at CZx ⊢
        clear hsc hp hx hzi hstep CZ CL CLx
        go_wp2_with (first
          | (go_at_call 54; refine (CZx.out _ HK.out.below).mono ?_; rintro e X ⟨rfl, hb⟩; have K1 := Lib.hid (HK.out.keep hb); clear hb)
          | go_in)
        refine bodyPost_ret (v := .tuple #[.int .i64 (p : Int), .int .i64 0]) (by simp [results, Tryd.results32, go_sem]) rfl ⟨rfl, K1.out.below⟩
      · rw [if_neg hzi] at hf
        rw [idx1_out hzi] at CZx
        by_cases hli : cur ∈ nm L
        · rw [if_pos hli] at hf
          obtain ⟨p, t, hp, hpq, hpl, htg⟩ := tgt_at hli
          have hx : idx1 (nm L) cur = (p : Int) := by unfold idx1; rw [if_pos hli, hp]
          rw [hx] at CLx
          rw [htg] at hf
          rw [HN.out] at hpq
          obtain ⟨b, o, c', e1, _, _, hb, hcell⟩ := HA.out (by omega)
          simp only [Value.slice.injEq] at e1
          obtain ⟨rfl, _, rfl⟩ := e1
          obtain ⟨q0, q1⟩ := lk_at L hpl
          have hc0 := Lib.hid (show W.cell? ⟨b, o + p * 2, none⟩ = some (.string (bs t)) from hcell _ _ q0)
          have HF := Lib.hid hf
          obtain ⟨sc, hsc⟩ : ∃ s, bs cur = s := ⟨_, rfl⟩
          rw [hsc] at CZx CLx ⊢
          obtain ⟨stt, hst⟩ : ∃ s, bs t = s := ⟨_, rfl⟩
          rw [hst] at hc0
          have HST := Lib.hid hst
          clear hsc hp hx hzi hli hstep CZ CL hpl htg hcell q0 q1 hst hf
          go_wp2_with (first
            | (go_at_call 54; refine (CZx.out _ HK.out.below).mono ?_; rintro e X ⟨rfl, hb⟩; have K1 := Lib.hid (HK.out.keep hb); have HB1 := Lib.hid (HB.out.trans (hb.mono HB.out.size)); obtain ⟨y0, y1, y2, y3⟩ := row4 (K1.out.at 0 rfl); clear hb)
            | (go_at_call 55; refine (CLx.out _ K1.out.below).mono ?_; rintro e Y ⟨rfl, hb2⟩; have K2 := Lib.hid (K1.out.keep hb2); have HB2 := Lib.hid (HB1.out.trans (hb2.mono HB1.out.size)); obtain ⟨z0, z1, z2, z3⟩ := row4 (K2.out.at 0 rfl); have k0 := (K2.out.below.cell (p := ⟨b, o + p * 2, none⟩) hb).trans hc0.out; have hbw := Nat.lt_of_lt_of_le hb K2.out.below.size; clear hb2)
            | go_in)
          go_roundw
          case rel => exact ⟨i + 1, by omega, by go_num, ⟨t, by rw [HST.out], by rw [hkk]; exact HF.out⟩, HB2.out⟩
          case measure => simp [intOf]; omega
        · rw [if_neg hli] at hf
          subst hf
          rw [idx1_out hli] at CLx
          obtain ⟨sc, hsc⟩ : ∃ s, bs cur = s := ⟨_, rfl⟩
          rw [hsc] at CZx CLx ⊢
          clear hsc hzi hli hstep CZ CL
          go_wp2_with (first
            | (go_at_call 54; refine (CZx.out _ HK.out.below).mono ?_; rintro e X ⟨rfl, hb⟩; have K1 := Lib.hid (HK.out.keep hb); obtain ⟨y0, y1, y2, y3⟩ := row4 (K1.out.at 0 rfl); clear hb)
            | (go_at_call 55; refine (CLx.out _ K1.out.below).mono ?_; rintro e Y ⟨rfl, hb2⟩; have K2 := Lib.hid (K1.out.keep hb2); clear hb2)
            | go_in)
          refine bodyPost_ret (v := .tuple #[.int .i64 0, .int .i64 9]) (by simp [results, Tryd.results32, go_sem]) rfl ⟨rfl, K2.out.below⟩
    · obtain rfl : i = n + 1 := by omega
      rw [Nat.sub_self] at hf
      have : R = (0, 11) := hf.symm
      subst this
      clear hf
      go_wp2_with fail
      refine bodyPost_ret (v := .tuple #[.int .i64 0, .int .i64 11]) (by simp [results, Tryd.results32, go_sem]) rfl ⟨rfl, HK.out.below⟩
end Go.Proofs.YtnffecoohkanhaaDoor.Px
