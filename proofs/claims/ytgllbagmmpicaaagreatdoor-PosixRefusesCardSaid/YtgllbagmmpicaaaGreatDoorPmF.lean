/- The law PosixRefuses returns true: the walk. -/
import Derived.Test.YtgllbagmmpicaaaGreatDoorPmX
import Derived.Test.YtgllbagmmpicaaaGreatDoorPmQ
import Derived.Test.YtgllbagmmpicaaaGreatDoorPmR
import Derived.Test.YtgllbagmmpicaaaGreatDoorKn
import Derived.Test.YtgllbagmmpicaaaGreatDoorPwX
import Derived.Test.YtgllbagmmpicaaaGreatDoorPxW
import Derived.Test.YtgllbagmmpicaaaGreatDoorPzR
import Derived.Outline
namespace Go.Proofs.YtgllbagmmpicaaaGreatDoor.Px
open Go.RowKit
open Civ

/-- a TZ that is not right, in a block behind some others -/
def RefAt (b : Nat) (w : World) (v : Value) (X : World) : Prop :=
  v = .pointer (some ⟨b, 0, none⟩) ∧ ∃ p : Pos, Known [(b, .cells p.cells 25)] w X ∧ p.ok = false ∧ p.std.size ≤ 100 ∧ p.dst.size ≤ 100
theorem ok_no {p : Pos} (h : p.stdB = false ∨ (p.noneB = false ∧ p.dstB = false)) : p.ok = false := by
  unfold Pos.ok
  rcases h with h | ⟨h1, h2⟩
  · rw [h]; rfl
  · rw [h1, h2]; simp
theorem none_no {c : ByteArray} {d k1 d1 m1 w1 s1 k2 d2 m2 w2 s2 : Int} (h : c.toList.isEmpty = false ∨ k1 ≠ 0) : noneQ c d k1 d1 m1 w1 s1 k2 d2 m2 w2 s2 = false := by
  unfold noneQ
  rcases h with h | h
  · rw [h]; rfl
  · rw [show decide (k1 = 0) = false from decide_eq_false h]; simp
theorem std_no {p : Pos} (h : nameOk p.std.data.toList = false ∨ offB p.stdOff = false) : p.stdB = false := by
  unfold Pos.stdB
  rcases h with h | h <;> rw [h] <;> simp
theorem dst_no {p : Pos} (h : nameOk p.dst.data.toList = false ∨ offB p.dstOff = false ∨ p.start.ok = false ∨ p.stop.ok = false) : p.dstB = false := by
  unfold Pos.dstB
  rcases h with h | h | h | h <;> rw [h] <;> simp
theorem dt_no {d : Dt} (h : ¬ d.ok = true) : d.ok = false := by simpa using h
theorem off_no {x : Int} (h : x < -89999 ∨ 89999 < x) : offB x = false := by
  cases e : offB x
  · rfl
  · rw [offB_iff] at e; omega
theorem far_at {p : Pos} (hp : p.ok = true) {t : Int} (h : t < -36028797018963968 ∨ 36028797018963968 < t) : atP p t = (Loc 0 false ⟨#[]⟩, 3) := by
  unfold atP
  rw [if_neg (show ¬ p.ok = false by rw [hp]; decide), if_pos h]
theorem bad_at {p : Pos} (hp : p.ok = false) (t : Int) : atP p t = (Loc 0 false ⟨#[]⟩, 2) := by
  unfold atP
  rw [if_pos hp]
theorem twelve (k : Int) : k % 12 = 0 ∨ k % 12 = 1 ∨ k % 12 = 2 ∨ k % 12 = 3 ∨ k % 12 = 4 ∨ k % 12 = 5 ∨ k % 12 = 6 ∨ k % 12 = 7 ∨ k % 12 = 8 ∨ k % 12 = 9 ∨ k % 12 = 10 ∨ k % 12 = 11 := by omega
theorem bs_three (l : List UInt8) : (bs l).extract 0 3 = bs (l.take 3) := by
  unfold bs
  apply ByteArray.ext
  rw [ByteArray.data_extract]
  apply Array.ext'
  simp
theorem szok {n : Nat} (h : n ≤ 7) : n ≤ 100 := by omega
theorem row4 {X : World} {b : Nat} {T : TypeId} {x0 x1 x2 x3 : Value} (h : X.heap[b]? = some (.cells #[x0, x1, x2, x3] T (0, 0))) : X.cell? ⟨b, 0, none⟩ = some x0 ∧ X.cell? ⟨b, 1, none⟩ = some x1 ∧ X.cell? ⟨b, 2, none⟩ = some x2 ∧ X.cell? ⟨b, 3, none⟩ = some x3 := ⟨cells_at h 0, cells_at h 1, cells_at h 2, cells_at h 3⟩
theorem row7 {X : World} {b : Nat} {T : TypeId} {x0 x1 x2 x3 x4 x5 x6 : Value} (h : X.heap[b]? = some (.cells #[x0, x1, x2, x3, x4, x5, x6] T (0, 0))) : X.cell? ⟨b, 0, none⟩ = some x0 ∧ X.cell? ⟨b, 1, none⟩ = some x1 ∧ X.cell? ⟨b, 2, none⟩ = some x2 ∧ X.cell? ⟨b, 3, none⟩ = some x3 ∧ X.cell? ⟨b, 4, none⟩ = some x4 ∧ X.cell? ⟨b, 5, none⟩ = some x5 ∧ X.cell? ⟨b, 6, none⟩ = some x6 := ⟨cells_at h 0, cells_at h 1, cells_at h 2, cells_at h 3, cells_at h 4, cells_at h 5, cells_at h 6⟩
set_option maxHeartbeats 16000000 in
set_option maxRecDepth 100000 in
theorem posixRefuses_cells (n0 n1 o0 o1 k0 k1 d0 d1 s0 s1 : Int) (q : Bool) (hd : Drf.In ⟨n0, n1, o0, o1, k0, k1, d0, d1, s0, s1, q⟩) (m n t : Int) (m_0 : 0 ≤ m) (n_0 : 0 ≤ n) (n_1 : n ≤ 4294967295) (W : World) (hE : EnvAt W) :
    Calls Tryz.prog 9 #[.agg #[.int .u8 n0, .int .u8 n1, .int .u8 o0, .int .u8 o1, .int .u8 k0, .int .u8 k1, .int .u8 d0, .int .u8 d1, .int .u8 s0, .int .u8 s1, .bool q], .int .u8 m, .int .u32 n, .int .i64 t] W fun e w' => e = .returned (.bool true) ∧ Below W.heap.size W w' := by
  have hd0 : Drf.In ⟨n0, n1, o0, o1, k0, k1, d0, d1, s0, s1, false⟩ := ⟨hd.n0, hd.n1, hd.o0, hd.o1, hd.k0, hd.k1, hd.d0, hd.d1, hd.s0, hd.s1⟩
  have CM := Lib.hid (fun w => made_cells n0 n1 o0 o1 k0 k1 d0 d1 s0 s1 false hd0 w)
  have hok := made_ok _ hd0
  have hsz := made_size ⟨n0, n1, o0, o1, k0, k1, d0, d1, s0, s1, false⟩
  have hne := made_ne (d := ⟨n0, n1, o0, o1, k0, k1, d0, d1, s0, s1, false⟩) rfl
  have h74 := (made_back hd0).2
  have h3 := print_three (d := ⟨n0, n1, o0, o1, k0, k1, d0, d1, s0, s1, false⟩) rfl
  have CPR := Lib.hid (fun w hE => prt_any (Drf.made ⟨n0, n1, o0, o1, k0, k1, d0, d1, s0, s1, false⟩) (by omega) (by omega) w hE)
  rw [made_print hd0] at CPR
  have f0 := bad_more (d := ⟨n0, n1, o0, o1, k0, k1, d0, d1, s0, s1, false⟩) hd0 rfl (r := [32]) (by simp) (by decide) (hdn_cons _ (by decide)) (by simp)
  have f1 := bad_space hd0
  have f2 := bad_more (d := ⟨n0, n1, o0, o1, k0, k1, d0, d1, s0, s1, false⟩) hd0 rfl (r := [44]) (by simp) (by decide) (hdn_cons _ (by decide)) (by simp)
  have f3 := bad_slash (d := ⟨n0, n1, o0, o1, k0, k1, d0, d1, s0, s1, false⟩) hd0 rfl
  have f4 := bad_more (d := ⟨n0, n1, o0, o1, k0, k1, d0, d1, s0, s1, false⟩) hd0 rfl (r := [44, 74, 49]) (by simp) (by decide) (hdn_cons _ (by decide)) (by simp)
  have f5 := bad_quote (d := ⟨n0, n1, o0, o1, k0, k1, d0, d1, s0, s1, false⟩) hd0 rfl
  have f6 := bad_take (d := ⟨n0, n1, o0, o1, k0, k1, d0, d1, s0, s1, false⟩) rfl
  obtain ⟨P, hP⟩ : ∃ P, Drf.made ⟨n0, n1, o0, o1, k0, k1, d0, d1, s0, s1, false⟩ = P := ⟨_, rfl⟩
  rw [hP] at CM hok hsz hne h74 h3 CPR f0 f1 f2 f3 f4 f5 f6
  obtain ⟨l, hl⟩ : ∃ l, printL P = l := ⟨_, rfl⟩
  rw [hl] at h74 h3 CPR f0 f1 f2 f3 f4 f5 f6
  have hz := bs_size l
  have P0 := Lib.hid (fun w hE => parse_any (l ++ [32]) w hE)
  have P1 := Lib.hid (fun w hE => parse_any (32 :: l) w hE)
  have P2 := Lib.hid (fun w hE => parse_any (l ++ [44]) w hE)
  have P3 := Lib.hid (fun w hE => parse_any (l ++ [47]) w hE)
  have P4 := Lib.hid (fun w hE => parse_any (l ++ [44, 74, 49]) w hE)
  have P5 := Lib.hid (fun w hE => parse_any (60 :: l) w hE)
  have P6 := Lib.hid (fun w hE => parse_any (l.take 3) w hE)
  rw [fin_two, f0, ← Off.bs_add] at P0
  rw [fin_two, f1, show (32 :: l : List UInt8) = [32] ++ l from rfl, ← Off.bs_add] at P1
  rw [fin_two, f2, ← Off.bs_add] at P2
  rw [fin_two, f3, ← Off.bs_add] at P3
  rw [fin_two, f4, ← Off.bs_add] at P4
  rw [fin_two, f5, show (60 :: l : List UInt8) = [60] ++ l from rfl, ← Off.bs_add] at P5
  rw [fin_two, f6, ← bs_three] at P6
  dsimp only at CPR
  obtain ⟨S, hS⟩ : ∃ S, bs l = S := ⟨_, rfl⟩
  rw [hS] at P0 P1 P2 P3 P4 P5 P6 CPR hz
  rw [show bs [32] = ⟨#[32]⟩ from rfl] at P0 P1
  rw [show bs [44] = ⟨#[44]⟩ from rfl] at P2
  rw [show bs [47] = ⟨#[47]⟩ from rfl] at P3
  rw [show bs [44, 74, 49] = ⟨#[44, 74, 49]⟩ from rfl] at P4
  rw [show bs [60] = ⟨#[60]⟩ from rfl] at P5
  have z3 : 3 ≤ S.size := by omega
  have z74 : S.size ≤ 74 := by omega
  have z3i : (3 : Int) ≤ (S.size : Int) := by omega
  have z3j : decide ((S.size : Int) < 3) = false := decide_eq_false (by omega)
  have CA := Lib.hid (fun x (hx : x < -36028797018963968 ∨ 36028797018963968 < x) w hB hK => show Calls Tryz.prog 17 #[P.val, .int .i64 x] w fun e w' => e = .returned (.tuple #[Loc 0 false ⟨#[]⟩, .int .i64 3]) ∧ Below w.heap.size w w' by have := at_any P x (by omega) (by omega) w hB hK; rwa [far_at hok hx] at this)
  obtain ⟨b0, b1⟩ : -89999 ≤ P.stdOff ∧ P.stdOff ≤ 89999 := by have := (ok_parts hok hne).2.2.1; rwa [offB_iff] at this
  obtain ⟨v0, v1⟩ : -89999 ≤ P.dstOff ∧ P.dstOff ≤ 89999 := by have := (ok_parts hok hne).2.2.2; rwa [offB_iff] at this
  have HST := Lib.hid ((Dt.ok_iff _).1 (ok_parts hok hne).1)
  have HNE := Lib.hid hne
  have HE := Lib.hid hE
  have HZ := Lib.hid hsz
  have h12 := twelve m
  have hm12 : m.tmod 12 = m % 12 := Int.tmod_eq_emod_of_nonneg m_0
  obtain ⟨M, hM⟩ : ∃ M, m % 12 = M := ⟨_, rfl⟩
  rw [hM] at h12 hm12
  clear hM
  have hx0 : ¬ 9223372036854775807 < S.size + (⟨#[32]⟩ : ByteArray).size := by show ¬ 9223372036854775807 < S.size + 1; omega
  have hx1 : ¬ 9223372036854775807 < (⟨#[32]⟩ : ByteArray).size + S.size := by show ¬ 9223372036854775807 < 1 + S.size; omega
  have hx2 : ¬ 9223372036854775807 < S.size + (⟨#[44]⟩ : ByteArray).size := by show ¬ 9223372036854775807 < S.size + 1; omega
  have hx3 : ¬ 9223372036854775807 < S.size + (⟨#[47]⟩ : ByteArray).size := by show ¬ 9223372036854775807 < S.size + 1; omega
  have hx4 : ¬ 9223372036854775807 < S.size + (⟨#[44, 74, 49]⟩ : ByteArray).size := by show ¬ 9223372036854775807 < S.size + 3; omega
  have hx5 : ¬ 9223372036854775807 < (⟨#[60]⟩ : ByteArray).size + S.size := by show ¬ 9223372036854775807 < 1 + S.size; omega
  clear hok hsz hne h74 h3 f0 f1 f2 f3 f4 f5 f6 hP hl hz hS hE hd hd0
  obtain ⟨a, b, c, o, ⟨e1, e2, e3, e4, e5⟩, ⟨g1, g2, g3, g4, g5⟩⟩ := P
  unfold Pos.val at CM CPR CA
  unfold Pos.val Pos.zero Dt.zero at P0 P1 P2 P3 P4 P5 P6
  rw [show bs [] = ⟨#[]⟩ from rfl] at P0 P1 P2 P3 P4 P5 P6
  unfold Loc at CA
  dsimp only at CM CPR CA P0 P1 P2 P3 P4 P5 P6 b0 b1 v0 v1 HST HNE HZ
  go_enter Tryz.func9, Tryz.ntmps9
  go_wp2_with fail
  refine (CM.out _).mono ?_
  rintro _ V ⟨rfl, hb⟩
  have K0 := Lib.hid (((Known.start W).alloc (.cells #[.int .u8 n0, .int .u8 n1, .int .u8 o0, .int .u8 o1, .int .u8 k0, .int .u8 k1, .int .u8 d0, .int .u8 d1, .int .u8 s0, .int .u8 s1, .bool false] 41)).keep hb)
  have K := Lib.hid ((K0.out.alloc (.cells #[.string a, .int .i64 b, .string c, .int .i64 o, .int .i64 e1, .int .i64 e2, .int .i64 e3, .int .i64 e4, .int .i64 e5, .int .i64 g1, .int .i64 g2, .int .i64 g3, .int .i64 g4, .int .i64 g5] 25)).allocAt (V.heap.size + 1) (by simp) (.cells #[.int .i64 (36028797018963969 + n), .int .i64 (-36028797018963969 - n), .int .i64 9223372036854775807, .int .i64 (-9223372036854775808)] 2))
  clear hb
  go_wp2_with fail
  go_loopw [12, 13, 14, 37] (fun _ _ _ i wr => ∃ k : Nat, k ≤ 4 ∧ i = .int .i64 k ∧ Known [(V.heap.size + 1, .cells #[.int .i64 (36028797018963969 + n), .int .i64 (-36028797018963969 - n), .int .i64 9223372036854775807, .int .i64 (-9223372036854775808)] 2), (V.heap.size, .cells #[.string a, .int .i64 b, .string c, .int .i64 o, .int .i64 e1, .int .i64 e2, .int .i64 e3, .int .i64 e4, .int .i64 e5, .int .i64 g1, .int .i64 g2, .int .i64 g3, .int .i64 g4, .int .i64 g5] 25)] W wr) (fun _ _ _ i _ => 4 - (intOf i).toNat)
  case atStart => exact ⟨0, by omega, rfl, K.out.pick (by simp)⟩
  case round =>
    obtain ⟨k, hk, rfl, hK⟩ := hrel
    have KR := Lib.hid hK
    clear hK K
    by_cases hlt : k < 4
    · obtain ⟨x, hx, hxb⟩ : ∃ x, wr.cell? ⟨V.heap.size + 1, k, none⟩ = some (.int .i64 x) ∧ (x < -36028797018963968 ∨ 36028797018963968 < x) := by
        obtain ⟨y0, y1, y2, y3⟩ := row4 (KR.out.at 0 rfl)
        rcases (show k = 0 ∨ k = 1 ∨ k = 2 ∨ k = 3 by omega) with rfl | rfl | rfl | rfl
        · exact ⟨_, y0, by omega⟩
        · exact ⟨_, y1, by omega⟩
        · exact ⟨_, y2, by omega⟩
        · exact ⟨_, y3, by omega⟩
      obtain ⟨p0, p1, p2, p3, p4, p5, p6, p7, p8, p9, p10, p11, p12, p13⟩ := row14 (KR.out.at 1 rfl)
      go_wp2_with fail
      refine (CA.out x hxb _ (HE.out.keep KR.out.below).before (HE.out.keep KR.out.below).kinds).mono ?_
      rintro _ X ⟨rfl, hb⟩
      have KS := Lib.hid (((KR.out.keep hb).alloc (.cells #[.int .i64 0, .bool false, .string ⟨#[]⟩] 35)).drop)
      clear hb p0 p1 p2 p3 p4 p5 p6 p7 p8 p9 p10 p11 p12 p13
      go_wp2_with fail
      go_roundw
      case rel => first | exact ⟨k + 1, by omega, by go_num, KS.out⟩ | ((repeat apply Exists.intro); exact ⟨⟨k + 1, by omega, by go_num, KS.out⟩, rfl⟩)
      case measure => simp [intOf]; omega
    · obtain rfl : k = 4 := by omega
      clear CA
      obtain ⟨p0, p1, p2, p3, p4, p5, p6, p7, p8, p9, p10, p11, p12, p13⟩ := row14 (KR.out.at 1 rfl)
      go_wp2_with fail
      refine (CPR.out _ (HE.out.keep KR.out.below)).mono ?_
      rintro _ B ⟨rfl, hb⟩
      have KB := Lib.hid (((KR.out.keep hb).drop).alloc (.cells #[.string (S ++ ⟨#[32]⟩), .string (⟨#[32]⟩ ++ S), .string (S ++ ⟨#[44]⟩), .string (S ++ ⟨#[47]⟩), .string (S ++ ⟨#[44, 74, 49]⟩), .string (⟨#[60]⟩ ++ S), .string (S.extract 0 3)] 9))
      clear hb p0 p1 p2 p3 p4 p5 p6 p7 p8 p9 p10 p11 p12 p13 CPR
      go_wp2_with fail
      go_loopw [18, 19, 20, 83] (fun _ _ _ i wr => ∃ k : Nat, k ≤ 7 ∧ i = .int .i64 k ∧ Known [(B.heap.size, .cells #[.string (S ++ ⟨#[32]⟩), .string (⟨#[32]⟩ ++ S), .string (S ++ ⟨#[44]⟩), .string (S ++ ⟨#[47]⟩), .string (S ++ ⟨#[44, 74, 49]⟩), .string (⟨#[60]⟩ ++ S), .string (S.extract 0 3)] 9), (V.heap.size, .cells #[.string a, .int .i64 b, .string c, .int .i64 o, .int .i64 e1, .int .i64 e2, .int .i64 e3, .int .i64 e4, .int .i64 e5, .int .i64 g1, .int .i64 g2, .int .i64 g3, .int .i64 g4, .int .i64 g5] 25)] W wr) (fun _ _ _ i _ => 7 - (intOf i).toNat)
      case atStart => exact ⟨0, by omega, rfl, KB.out⟩
      case round =>
        obtain ⟨k, hk, rfl, hK⟩ := hrel
        have KT := Lib.hid hK
        clear hK KB
        by_cases hlt2 : k < 7
        · obtain ⟨x, hx, CX⟩ : ∃ x, wr.cell? ⟨B.heap.size, k, none⟩ = some (.string x) ∧ Hid (∀ (w : World), EnvAt w → Calls Tryz.prog 11 #[.string x] w fun e w' => e = .returned (.tuple #[.agg #[.string ⟨#[]⟩, .int .i64 0, .string ⟨#[]⟩, .int .i64 0, .int .i64 0, .int .i64 0, .int .i64 0, .int .i64 0, .int .i64 0, .int .i64 0, .int .i64 0, .int .i64 0, .int .i64 0, .int .i64 0], .int .i64 5]) ∧ Below w.heap.size w w') := by
            obtain ⟨y0, y1, y2, y3, y4, y5, y6⟩ := row7 (KT.out.at 0 rfl)
            rcases (show k = 0 ∨ k = 1 ∨ k = 2 ∨ k = 3 ∨ k = 4 ∨ k = 5 ∨ k = 6 by omega) with rfl | rfl | rfl | rfl | rfl | rfl | rfl
            · exact ⟨_, y0, P0⟩
            · exact ⟨_, y1, P1⟩
            · exact ⟨_, y2, P2⟩
            · exact ⟨_, y3, P3⟩
            · exact ⟨_, y4, P4⟩
            · exact ⟨_, y5, P5⟩
            · exact ⟨_, y6, P6⟩
          clear P0 P1 P2 P3 P4 P5 P6
          go_wp2_with fail
          refine (CX.out _ (HE.out.keep KT.out.below)).mono ?_
          rintro _ X ⟨rfl, hb⟩
          have KU := Lib.hid (((KT.out.keep hb).alloc (.cells #[.string ⟨#[]⟩, .int .i64 0, .string ⟨#[]⟩, .int .i64 0, .int .i64 0, .int .i64 0, .int .i64 0, .int .i64 0, .int .i64 0, .int .i64 0, .int .i64 0, .int .i64 0, .int .i64 0, .int .i64 0] 25)).drop)
          clear hb
          go_wp2_with fail
          go_roundw
          case rel => first | exact ⟨k + 1, by omega, by go_num, KU.out⟩ | ((repeat apply Exists.intro); exact ⟨⟨k + 1, by omega, by go_num, KU.out⟩, rfl⟩)
          case measure => simp [intOf]; omega
        · obtain rfl : k = 7 := by omega
          clear P0 P1 P2 P3 P4 P5 P6
          obtain ⟨p0, p1, p2, p3, p4, p5, p6, p7, p8, p9, p10, p11, p12, p13⟩ := row14 (KT.out.at 1 rfl)
          have zz1 := KT.out.lt 1 rfl
          have KD6 := Lib.hid (show Known [(V.heap.size, .cells #[.string a, .int .i64 b, .string c, .int .i64 o, .int .i64 e1, .int .i64 e2, .int .i64 e3, .int .i64 e4, .int .i64 e5, .int .i64 g1, .int .i64 g2, .int .i64 g3, .int .i64 g4, .int .i64 g5] 25)] W wr from KT.out.drop)
          go_upto_block 4 with fail
          go_cut [21] (fun v wx => RefAt (wr.heap.size) W v wx)
          case first =>
            rcases h12 with rfl | rfl | rfl | rfl | rfl | rfl | rfl | rfl | rfl | rfl | rfl | rfl
            · go_wp2_with fail
              go_meet
              exact ⟨rfl, ⟨⟨#[65, 66]⟩, b, c, o, ⟨e1, e2, e3, e4, e5⟩, ⟨g1, g2, g3, g4, g5⟩⟩, (KD6.out.alloc _).pick (List.Sublist.cons_cons _ (List.nil_sublist _)), ok_no (.inl (std_no (.inl (by rfl)))), by show (2 : Nat) ≤ 100; decide, szok HZ.out.2⟩
            · go_wp2_with fail
              go_meet
              exact ⟨rfl, ⟨⟨#[65, 66, 67, 68, 69, 70, 71, 72]⟩, b, c, o, ⟨e1, e2, e3, e4, e5⟩, ⟨g1, g2, g3, g4, g5⟩⟩, (KD6.out.alloc _).pick (List.Sublist.cons_cons _ (List.nil_sublist _)), ok_no (.inl (std_no (.inl (by rfl)))), by show (8 : Nat) ≤ 100; decide, szok HZ.out.2⟩
            · go_wp2_with fail
              go_meet
              exact ⟨rfl, ⟨a, b, ⟨#[65, 32, 66]⟩, o, ⟨e1, e2, e3, e4, e5⟩, ⟨g1, g2, g3, g4, g5⟩⟩, (KD6.out.alloc _).pick (List.Sublist.cons_cons _ (List.nil_sublist _)), ok_no (.inr ⟨none_no (.inl (by rw [ByteArray.toList_eq]; rfl)), dst_no (.inl (by rfl))⟩), szok HZ.out.1, by show (3 : Nat) ≤ 100; decide⟩
            · go_wp2_with fail
              go_meet
              exact ⟨rfl, ⟨a, 90000 + n, c, o, ⟨e1, e2, e3, e4, e5⟩, ⟨g1, g2, g3, g4, g5⟩⟩, (KD6.out.alloc _).pick (List.Sublist.cons_cons _ (List.nil_sublist _)), ok_no (.inl (std_no (.inr (off_no (.inr (by show 89999 < 90000 + n; omega)))))), szok HZ.out.1, szok HZ.out.2⟩
            · go_wp2_with fail
              go_meet
              exact ⟨rfl, ⟨a, b, c, -90000 - n, ⟨e1, e2, e3, e4, e5⟩, ⟨g1, g2, g3, g4, g5⟩⟩, (KD6.out.alloc _).pick (List.Sublist.cons_cons _ (List.nil_sublist _)), ok_no (.inr ⟨none_no (.inl HNE.out), dst_no (.inr (.inl (off_no (.inl (by show -90000 - n < -89999; omega)))))⟩), szok HZ.out.1, szok HZ.out.2⟩
            · go_wp2_with fail
              go_meet
              exact ⟨rfl, ⟨a, b, c, o, ⟨4 + n, e2, e3, e4, e5⟩, ⟨g1, g2, g3, g4, g5⟩⟩, (KD6.out.alloc _).pick (List.Sublist.cons_cons _ (List.nil_sublist _)), ok_no (.inr ⟨none_no (.inl HNE.out), dst_no (.inr (.inr (.inl (dt_no (fun h => by rw [Dt.ok_iff] at h; dsimp only at h; omega)))))⟩), szok HZ.out.1, szok HZ.out.2⟩
            · go_wp2_with fail
              go_meet
              exact ⟨rfl, ⟨a, b, c, o, ⟨e1, e2, e3, e4, e5⟩, ⟨-n, g2, g3, g4, g5⟩⟩, (KD6.out.alloc _).pick (List.Sublist.cons_cons _ (List.nil_sublist _)), ok_no (.inr ⟨none_no (.inl HNE.out), dst_no (.inr (.inr (.inr (dt_no (fun h => by rw [Dt.ok_iff] at h; dsimp only at h; omega)))))⟩), szok HZ.out.1, szok HZ.out.2⟩
            · go_wp2_with fail
              go_meet
              exact ⟨rfl, ⟨a, b, c, o, ⟨e1, e2, e3, e4, 604800 + n⟩, ⟨g1, g2, g3, g4, g5⟩⟩, (KD6.out.alloc _).pick (List.Sublist.cons_cons _ (List.nil_sublist _)), ok_no (.inr ⟨none_no (.inl HNE.out), dst_no (.inr (.inr (.inl (dt_no (fun h => by rw [Dt.ok_iff] at h; dsimp only at h; omega)))))⟩), szok HZ.out.1, szok HZ.out.2⟩
            · go_wp2_with fail
              go_meet
              exact ⟨rfl, ⟨a, b, c, o, ⟨e1, e2, e3, e4, e5⟩, ⟨g1, g2, g3, g4, -604800 - n⟩⟩, (KD6.out.alloc _).pick (List.Sublist.cons_cons _ (List.nil_sublist _)), ok_no (.inr ⟨none_no (.inl HNE.out), dst_no (.inr (.inr (.inr (dt_no (fun h => by rw [Dt.ok_iff] at h; dsimp only at h; omega)))))⟩), szok HZ.out.1, szok HZ.out.2⟩
            · go_wp2_with fail
              go_meet
              exact ⟨rfl, ⟨a, b, c, o, ⟨1, 366 + n, 0, 0, 0⟩, ⟨g1, g2, g3, g4, g5⟩⟩, (KD6.out.alloc _).pick (List.Sublist.cons_cons _ (List.nil_sublist _)), ok_no (.inr ⟨none_no (.inl HNE.out), dst_no (.inr (.inr (.inl (dt_no (fun h => by rw [Dt.ok_iff] at h; dsimp only at h; omega)))))⟩), szok HZ.out.1, szok HZ.out.2⟩
            · go_wp2_with fail
              go_meet
              exact ⟨rfl, ⟨a, b, c, o, ⟨e1, e2, e3, e4, e5⟩, ⟨3, 0, 3, 6 + n, 0⟩⟩, (KD6.out.alloc _).pick (List.Sublist.cons_cons _ (List.nil_sublist _)), ok_no (.inr ⟨none_no (.inl HNE.out), dst_no (.inr (.inr (.inr (dt_no (fun h => by rw [Dt.ok_iff] at h; dsimp only at h; omega)))))⟩), szok HZ.out.1, szok HZ.out.2⟩
            · go_wp2_with fail
              go_meet
              exact ⟨rfl, ⟨a, b, ⟨#[]⟩, o, ⟨e1, e2, e3, e4, e5⟩, ⟨g1, g2, g3, g4, g5⟩⟩, (KD6.out.alloc _).pick (List.Sublist.cons_cons _ (List.nil_sublist _)), ok_no (.inr ⟨none_no (.inr (by have := HST.out; show e1 ≠ 0; omega)), dst_no (.inl (by rfl))⟩), szok HZ.out.1, by show (0 : Nat) ≤ 100; decide⟩
          case rest =>
            obtain ⟨rfl, p, hK, hp, za, zc⟩ := hcut
            have CC := Lib.hid (check_any p (by omega) (by omega))
            have CP := Lib.hid (fun w hE => prt_any p (by omega) (by omega) w hE)
            have CT := Lib.hid (fun w hB hK => at_any p t (by omega) (by omega) w hB hK)
            rw [hp] at CC
            rw [show printP p = ([], 2) by unfold printP; rw [hp]; rfl] at CP
            rw [bad_at hp] at CT
            obtain ⟨a', b', c', o', ⟨e1', e2', e3', e4', e5'⟩, ⟨g1', g2', g3', g4', g5'⟩⟩ := p
            unfold Pos.val at CC CP CT
            unfold Loc at CT
            rw [show bs [] = ⟨#[]⟩ from rfl] at CP
            unfold codeE at CC
            dsimp only at CC CP CT
            have K := Lib.hid hK
            clear hK hp za zc
            clear b0 b1 v0 v1 h12 hm12 z3 z74 z3i z3j hx0 hx1 hx2 hx3 hx4 hx5 p0 p1 p2 p3 p4 p5 p6 p7 p8 p9 p10 p11 p12 p13 zz1
            obtain ⟨p0, p1, p2, p3, p4, p5, p6, p7, p8, p9, p10, p11, p12, p13⟩ := row14 (K.out.at 0 rfl)
            have zz0 := K.out.lt 0 rfl
            go_wp2_with fail
            refine (CP.out _ (HE.out.keep K.out.below)).mono ?_
            rintro _ C1 ⟨rfl, hb⟩
            have KC1 := Lib.hid (K.out.keep hb)
            clear hb p0 p1 p2 p3 p4 p5 p6 p7 p8 p9 p10 p11 p12 p13 zz0
            obtain ⟨p0, p1, p2, p3, p4, p5, p6, p7, p8, p9, p10, p11, p12, p13⟩ := row14 (KC1.out.at 0 rfl)
            have zz0 := KC1.out.lt 0 rfl
            go_wp2_with fail
            refine (CT.out _ (HE.out.keep KC1.out.below).before (HE.out.keep KC1.out.below).kinds).mono ?_
            rintro _ C2 ⟨rfl, hb⟩
            have KC2 := Lib.hid (KC1.out.keep hb)
            clear hb p0 p1 p2 p3 p4 p5 p6 p7 p8 p9 p10 p11 p12 p13 zz0
            obtain ⟨p0, p1, p2, p3, p4, p5, p6, p7, p8, p9, p10, p11, p12, p13⟩ := row14 (KC2.out.at 0 rfl)
            have zz0 := KC2.out.lt 0 rfl
            have KC3 := Lib.hid (KC2.out.alloc (.cells #[.int .i64 0, .bool false, .string ⟨#[]⟩] 35))
            go_wp2_with fail
            refine (CC.out _).mono ?_
            rintro _ C3 ⟨rfl, hb⟩
            have KC4 := Lib.hid (KC3.out.keep hb)
            obtain ⟨⟨l0, l1, l2⟩, _, _, _⟩ := row3 (KC4.out.at 0 rfl)
            clear hb p0 p1 p2 p3 p4 p5 p6 p7 p8 p9 p10 p11 p12 p13 zz0
            go_wp2_with fail
            refine (works_any _ (HE.out.keep KC4.out.below)).mono ?_
            rintro _ C4 ⟨rfl, hb⟩
            have KC5 := Lib.hid (KC4.out.keep hb)
            clear hb
            go_wp2_with fail
            go_ret
            exact ⟨rfl, KC5.out.below⟩
end Go.Proofs.YtgllbagmmpicaaaGreatDoor.Px
