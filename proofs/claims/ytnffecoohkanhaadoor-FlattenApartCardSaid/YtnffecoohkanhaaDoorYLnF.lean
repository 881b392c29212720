/- The function named of package links: the first zone with which something is wrong. -/
import Derived.Test.YtnffecoohkanhaaDoorM20
import Derived.Test.YtnffecoohkanhaaDoorYNzZ
namespace Go.Proofs.YtnffecoohkanhaaDoor.Px
open Go.RowKit
open Go.Maps (Keyed)
open Lk

/-- what 'named' answers -/
def namedL (Z : List (List UInt8)) : (Int × Int) × Int := match scan (zoneE Z zoneOk) Z.length with
  | some i => ((2, (i : Int)), zoneE Z zoneOk i)
  | none => ((0, 0), 0)
theorem named_some {Z : List (List UInt8)} {i : Nat} (hi : i < Z.length) (h0 : zoneE Z zoneOk i ≠ 0) (h : ∀ j, j < i → zoneE Z zoneOk j = 0) : namedL Z = ((2, (i : Int)), zoneE Z zoneOk i) := by
  unfold namedL
  rw [scan_some hi h0 h]
theorem named_none {Z : List (List UInt8)} (h : ∀ j, j < Z.length → zoneE Z zoneOk j = 0) : namedL Z = ((0, 0), 0) := by
  unfold namedL
  rw [scan_none h]
theorem getD_of {α : Type} {l : List α} {i : Nat} {x : α} (h : l[i]? = some x) (d : α) : l.getD i d = x := by rw [List.getD, h]; rfl
theorem znames_at {Z : List Zo} {i : Nat} {x : Zo} (h : Z[i]? = some x) : (znames Z)[i]? = some x.1 := by unfold znames; rw [List.getElem?_map, h]; rfl
theorem znames_len (Z : List Zo) : (znames Z).length = Z.length := by unfold znames; rw [List.length_map]
set_option maxHeartbeats 8000000 in
set_option maxRecDepth 100000 in
theorem named_any (rv zv lv sv : Value) (Z : List Zo) (m1 : Nat) (W : World) (h : ZoV W zv Z) (h1 : MapOf (znames Z) m1 W) (hf : ∀ x ∈ Z, x.1.length ≤ maxLen) (hmax : Z.length ≤ 1000000) :
    Calls Tryd.prog 49 #[.agg #[rv, zv, lv, sv], .map (some m1)] W fun e w' => e = .returned (.tuple #[.agg #[.int .i64 (namedL (znames Z)).1.1, .int .i64 (namedL (znames Z)).1.2, .int .i64 0], .int .i64 (namedL (znames Z)).2]) ∧ Below W.heap.size W w' := by
  obtain ⟨a, c, rfl, hc1, hc2⟩ := h.slA
  have hall := fun h0 => h.allA h0
  obtain ⟨n, hn⟩ : ∃ n, Z.length = n := ⟨_, rfl⟩
  rw [hn] at hall hmax hc1 ⊢
  unfold maxLen at hc2
  have HA := Lib.hid hall
  have HN := Lib.hid hn
  have HF := Lib.hid hf
  have H1 := Lib.hid h1
  obtain ⟨R, hR⟩ : ∃ R, namedL (znames Z) = R := ⟨_, rfl⟩
  rw [hR]
  have HR := Lib.hid hR
  obtain ⟨R1, R2⟩ := R
  obtain ⟨Ra, Rb⟩ := R1
  have K0 := Lib.hid (((Kp.start W).allocAt W.heap.size rfl (.cells #[rv, .slice a n c, lv, sv] 27)).allocAt (W.heap.size + 1) (by simp) (.cells #[.int .i64 0, .int .i64 0, .int .i64 0] 71))
  have b1 : ((W.alloc (.cells #[rv, .slice a n c, lv, sv] 27)).alloc (.cells #[.int .i64 0, .int .i64 0, .int .i64 0] 71)).cell? ⟨W.heap.size, 1, none⟩ = some (.slice a n c) := cells_at (K0.out.at 1 rfl) 1
  clear h hall hn hf h1 hR
  go_enter Tryd.func49, Tryd.ntmps49
  go_wp2_with fail
  clear b1
  go_loopw [6, 7, 8, 12] (fun _ _ _ i12 wr => ∃ i : Nat, i ≤ n ∧ i12 = .int .i64 (i : Int) ∧ (∀ j, j < i → zoneE (znames Z) zoneOk j = 0) ∧ Kp [(W.heap.size + 1, .cells #[.int .i64 0, .int .i64 0, .int .i64 0] 71 (0, 0)), (W.heap.size, .cells #[rv, .slice a n c, lv, sv] 27 (0, 0))] [] W wr) (fun _ _ _ i12 _ => n - (intOf i12).toNat)
  case atStart => exact ⟨0, by omega, rfl, fun j hj => by omega, K0.out⟩
  case round =>
    obtain ⟨i, hi', rfl, hz, hK⟩ := hrel
    have HK := Lib.hid hK
    have HZ := Lib.hid hz
    clear hK hz K0
    by_cases hlt : i < n
    · obtain ⟨b, o, c', e1, _, _, hb, hcell⟩ := HA.out (by omega)
      simp only [Value.slice.injEq] at e1
      obtain ⟨rfl, _, rfl⟩ := e1
      obtain ⟨x, hx⟩ : ∃ x, Z[i]? = some x := ⟨_, List.getElem?_eq_getElem (by rw [HN.out]; exact hlt)⟩
      obtain ⟨q0, q1⟩ := zo_at Z hx
      have k0 := (HK.out.below.cell (p := ⟨b, o + i * 2, none⟩) hb).trans (hcell _ _ q0)
      have k1 := (HK.out.below.cell (p := ⟨b, o + i * 2 + 1, none⟩) hb).trans (hcell _ _ q1)
      have hbw := Nat.lt_of_lt_of_le hb HK.out.below.size
      have hxl := HF.out x (List.mem_of_getElem? hx)
      have hkey := Lib.hid (keyN_is hxl)
      have hzx := znames_at hx
      have hin : x.1 ∈ znames Z := List.mem_of_getElem? hzx
      have hil : i < (znames Z).length := by rw [znames_len, HN.out]; exact hlt
      have hE : zoneE (znames Z) zoneOk i = if zoneOk x.1 = false then 9 else if posA (znames Z) x.1 ≠ i then 10 else 0 := by
        unfold zoneE
        rw [getD_of hzx, posA_idx]
      have HIn := Lib.hid (firstG_in (znames Z) x.1)
      rw [if_pos hin] at HIn
      obtain ⟨p, hp⟩ : ∃ p, posA (znames Z) x.1 = p := ⟨_, rfl⟩
      rw [hp] at HIn hE
      have HS1 := Lib.hid (show (firstG (znames Z) (keyN x.1)).getD (.lit (.int .i64 0)) = .lit (.int .i64 (p : Int)) by rw [HIn.out]; rfl)
      have hpl : p < (znames Z).length := by rw [← hp, posA_idx]; exact List.idxOf_lt_length_of_mem hin
      rw [znames_len, HN.out] at hpl
      obtain ⟨x1, x2, x3, x4⟩ := x
      dsimp only at k0 k1 hkey HS1 hE hxl
      have KA := Lib.hid ((HK.out.allocAt wr.heap.size rfl (.cells #[.string (bs x1), .slice x2 x3 x4] 40)).allocAt (wr.heap.size + 1) (by simp) (.cells #[.int .i64 2, .int .i64 (i : Int), .int .i64 0] 71))
      have hzone := Lib.hid (fun (Y : World) => zone_any (bs x1) hxl Y)
      have m0 : ((wr.alloc (.cells #[.string (bs x1), .slice x2 x3 x4] 40)).alloc (.cells #[.int .i64 2, .int .i64 (i : Int), .int .i64 0] 71)).cell? ⟨wr.heap.size, 0, none⟩ = some (.string (bs x1)) := cells_at (KA.out.at 1 rfl) 0
      obtain ⟨g, hg⟩ : ∃ g, zoneOk (bs x1).data.toList = g := ⟨_, rfl⟩
      rw [hg] at hzone
      have hg2 : zoneOk x1 = g := hg
      rw [hg2] at hE
      obtain ⟨s1, hs1⟩ : ∃ s, bs x1 = s := ⟨_, rfl⟩
      rw [hs1] at k0 hkey KA m0 hzone
      have HE := Lib.hid hE
      have HIl := Lib.hid hil
      clear hx hcell q0 q1 hs1 hp hin hzx hg hg2 hE HIn hxl hil
      cases g with
      | false =>
        rw [if_pos rfl] at HE
        have HNm := Lib.hid (named_some HIl.out (by rw [HE.out]; decide) HZ.out)
        rw [HR.out, HE.out] at HNm
        have e0 := HNm.out
        simp only [Prod.mk.injEq] at e0
        obtain ⟨⟨rfl, rfl⟩, rfl⟩ := e0
        go_wp2_with (first
          | (go_at_call 50; refine (hzone.out _).mono ?_; rintro e X ⟨rfl, hb2⟩; have K2 := Lib.hid (KA.out.keep hb2); obtain ⟨⟨y0, y1, y2⟩, _⟩ := row3 (K2.out.at 0 rfl); obtain ⟨⟨f0, f1, f2⟩, f3, f4, f5⟩ := row3 (K2.out.at 2 rfl); clear hb2)
          | go_in)
        have KF := Lib.hid (((K2.out.set 2 rfl 0 (.int .i64 2) rfl).set 2 rfl 1 (.int .i64 (i : Int)) rfl).set 2 rfl 2 (.int .i64 0) rfl)
        obtain ⟨⟨r0, r1, r2⟩, _⟩ := row3 (KF.out.at 2 rfl)
        refine bodyPost_ret (v := .tuple #[.agg #[.int .i64 2, .int .i64 (i : Int), .int .i64 0], .int .i64 9]) (by simp [results, Tryd.results49, go_sem, r0, r1, r2]) rfl ⟨rfl, KF.out.below⟩
      | true =>
        rw [if_neg (by decide)] at HE
        by_cases hpi : p = i
        · rw [if_neg (fun q => q hpi)] at HE
          go_wp2_with (first
            | (go_at_call 50; refine (hzone.out _).mono ?_; rintro e X ⟨rfl, hb2⟩; have K2 := Lib.hid (KA.out.keep hb2); obtain ⟨⟨y0, y1, y2⟩, _⟩ := row3 (K2.out.at 0 rfl); obtain ⟨y3, y4⟩ := row2 (K2.out.at 1 rfl); obtain ⟨N1, D1, _, ho1, hf1⟩ := H1.out.keep K2.out.below; have HO1 := Lib.hid ho1; have HF1 := Lib.hid hf1; clear hb2 ho1 hf1)
            | (at_lookup; refine wpList_look_int _ rfl _ _ 98 rfl 9 3 .i64 str_keyed Tryd.underlying98 Tryd.underlying3 (zero_int _) m1 N1 D1 (firstG (znames Z)) HF1.out rfl HO1.out _ (keyN x1) rfl hkey.out (p : Int) HS1.out ?_)
            | go_in)
          go_roundw
          case rel =>
            refine ⟨i + 1, by omega, by go_num, fun j hj => ?_, K2.out.drop.drop⟩
            by_cases hj2 : j < i
            · exact HZ.out j hj2
            · obtain rfl : j = i := by omega
              exact HE.out
          case measure => simp [intOf]; omega
        · rw [if_pos hpi] at HE
          have HNm := Lib.hid (named_some HIl.out (by rw [HE.out]; decide) HZ.out)
          rw [HR.out, HE.out] at HNm
          have e0 := HNm.out
          simp only [Prod.mk.injEq] at e0
          obtain ⟨⟨rfl, rfl⟩, rfl⟩ := e0
          have hpi2 : ¬ (p : Int) = (i : Int) := by omega
          go_wp2_with (first
            | (go_at_call 50; refine (hzone.out _).mono ?_; rintro e X ⟨rfl, hb2⟩; have K2 := Lib.hid (KA.out.keep hb2); obtain ⟨⟨y0, y1, y2⟩, _⟩ := row3 (K2.out.at 0 rfl); obtain ⟨y3, y4⟩ := row2 (K2.out.at 1 rfl); obtain ⟨⟨f0, f1, f2⟩, f3, f4, f5⟩ := row3 (K2.out.at 2 rfl); obtain ⟨N1, D1, _, ho1, hf1⟩ := H1.out.keep K2.out.below; have HO1 := Lib.hid ho1; have HF1 := Lib.hid hf1; clear hb2 ho1 hf1)
            | (at_lookup; refine wpList_look_int _ rfl _ _ 98 rfl 9 3 .i64 str_keyed Tryd.underlying98 Tryd.underlying3 (zero_int _) m1 N1 D1 (firstG (znames Z)) HF1.out rfl HO1.out _ (keyN x1) rfl hkey.out (p : Int) HS1.out ?_)
            | go_in)
          have KF := Lib.hid (((K2.out.set 2 rfl 0 (.int .i64 2) rfl).set 2 rfl 1 (.int .i64 (i : Int)) rfl).set 2 rfl 2 (.int .i64 0) rfl)
          obtain ⟨⟨r0, r1, r2⟩, _⟩ := row3 (KF.out.at 2 rfl)
          refine bodyPost_ret (v := .tuple #[.agg #[.int .i64 2, .int .i64 (i : Int), .int .i64 0], .int .i64 10]) (by simp [results, Tryd.results49, go_sem, r0, r1, r2]) rfl ⟨rfl, KF.out.below⟩
    · obtain rfl : i = n := by omega
      have hnm := named_none (Z := znames Z) (fun j hj => HZ.out j (by rw [znames_len, HN.out] at hj; exact hj))
      rw [HR.out] at hnm
      simp only [Prod.mk.injEq] at hnm
      obtain ⟨⟨rfl, rfl⟩, rfl⟩ := hnm
      obtain ⟨⟨y0, y1, y2⟩, y3, y4, y5⟩ := row3 (HK.out.at 0 rfl)
      go_wp2_with fail
      have KF := Lib.hid (((HK.out.set 0 rfl 0 (.int .i64 0) rfl).set 0 rfl 1 (.int .i64 0) rfl).set 0 rfl 2 (.int .i64 0) rfl)
      obtain ⟨⟨r0, r1, r2⟩, _⟩ := row3 (KF.out.at 0 rfl)
      refine bodyPost_ret (v := .tuple #[.agg #[.int .i64 0, .int .i64 0, .int .i64 0], .int .i64 0]) (by simp [results, Tryd.results49, go_sem, r0, r1, r2]) rfl ⟨rfl, KF.out.below⟩
end Go.Proofs.YtnffecoohkanhaaDoor.Px
