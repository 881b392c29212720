/- The helpers of the laws of chapter 15: finds, checks, few. -/
import Derived.Test.YtdeompnaojiajaaDoorLnV
namespace Go.Proofs.YtdeompnaojiajaaDoor.Px
open Go.RowKit
open Go.Maps (Keyed)
open Lk

set_option maxHeartbeats 4000000 in
set_option maxRecDepth 100000 in
theorem finds_any (rv zv lv sv : Value) (Z : List Zo) (L : List (List UInt8 × List UInt8)) (n : List UInt8) (want e0 : Int) (W : World) (h : SrcV W zv lv Z L) (hn : n.length ≤ maxLen) (hz : Z.length ≤ 1000000) (hl : L.length ≤ 1000000) :
    Calls Tryd.prog 22 #[.agg #[rv, zv, lv, sv], .string (bs n), .int .i64 want, .int .i64 e0] W fun e w' => e = .returned (.bool (decide (((findL (znames Z) L n).1 : Int) = want ∧ (findL (znames Z) L n).2 = e0))) ∧ Below W.heap.size W w' := by
  have KB := Lib.hid ((Kp.start W).allocAt W.heap.size rfl (.cells #[rv, zv, lv, sv] 27))
  obtain ⟨W1, hW1⟩ : ∃ X, W.alloc (.cells #[rv, zv, lv, sv] 27) = X := ⟨_, rfl⟩
  rw [hW1] at KB
  obtain ⟨v0, v1, v2, v3⟩ := row4 (KB.out.at 0 rfl)
  have CF := Lib.hid (find_any rv zv lv sv Z L n W1 (h.keep KB.out.below) hn hz hl)
  obtain ⟨R, hR⟩ : ∃ R, findL (znames Z) L n = R := ⟨_, rfl⟩
  rw [hR] at CF ⊢
  obtain ⟨R1, R2⟩ := R
  obtain ⟨sn, hsn⟩ : ∃ s, bs n = s := ⟨_, rfl⟩
  rw [hsn] at CF ⊢
  clear h hn hz hl hR hsn
  dsimp only at CF ⊢
  by_cases h1 : (R1 : Int) = want
  · by_cases h2 : R2 = e0
    · rw [decide_eq_true ⟨h1, h2⟩]
      go_enter Tryd.func22, Tryd.ntmps22
      go_wp2_with (first
        | (go_at_call 13; refine CF.out.mono ?_; rintro e X ⟨rfl, hb⟩; have K1 := Lib.hid (KB.out.keep hb); clear hb)
        | go_in)
      refine bodyPost_ret (v := .bool true) (by simp [results, Tryd.results22, go_sem]) rfl ⟨rfl, K1.out.below⟩
    · rw [decide_eq_false (fun q => h2 q.2)]
      go_enter Tryd.func22, Tryd.ntmps22
      go_wp2_with (first
        | (go_at_call 13; refine CF.out.mono ?_; rintro e X ⟨rfl, hb⟩; have K1 := Lib.hid (KB.out.keep hb); clear hb)
        | go_in)
      refine bodyPost_ret (v := .bool false) (by simp [results, Tryd.results22, go_sem, h2]) rfl ⟨rfl, K1.out.below⟩
  · rw [decide_eq_false (fun q => h1 q.1)]
    go_enter Tryd.func22, Tryd.ntmps22
    go_wp2_with (first
      | (go_at_call 13; refine CF.out.mono ?_; rintro e X ⟨rfl, hb⟩; have K1 := Lib.hid (KB.out.keep hb); clear hb)
      | go_in)
    refine bodyPost_ret (v := .bool false) (by simp [results, Tryd.results22, go_sem]) rfl ⟨rfl, K1.out.below⟩
set_option maxHeartbeats 4000000 in
set_option maxRecDepth 100000 in
theorem checks_any (rv zv lv sv : Value) (Z : List Zo) (L : List (List UInt8 × List UInt8)) (pa ix e0 : Int) (W : World) (h : SrcV W zv lv Z L) (hz : Z.length ≤ 1000000) (hl : L.length ≤ 1000000) :
    Calls Tryd.prog 21 #[.agg #[rv, zv, lv, sv], .int .i64 pa, .int .i64 ix, .int .i64 e0] W fun e w' => e = .returned (.bool (decide (checkL (znames Z) L zoneOk = ((pa, ix), e0)))) ∧ Below W.heap.size W w' := by
  have KB := Lib.hid ((Kp.start W).allocAt W.heap.size rfl (.cells #[rv, zv, lv, sv] 27))
  obtain ⟨W1, hW1⟩ : ∃ X, W.alloc (.cells #[rv, zv, lv, sv] 27) = X := ⟨_, rfl⟩
  rw [hW1] at KB
  obtain ⟨v0, v1, v2, v3⟩ := row4 (KB.out.at 0 rfl)
  have CF := Lib.hid (check_any rv zv lv sv Z L W1 (h.keep KB.out.below) hz hl)
  obtain ⟨R, hR⟩ : ∃ R, checkL (znames Z) L zoneOk = R := ⟨_, rfl⟩
  rw [hR] at CF ⊢
  obtain ⟨⟨R1, R2⟩, R3⟩ := R
  clear h hz hl hR
  dsimp only at CF ⊢
  by_cases h1 : R1 = pa
  · by_cases h2 : R2 = ix
    · by_cases h3 : R3 = e0
      · rw [decide_eq_true (by rw [h1, h2, h3])]
        subst h1 h2 h3
        go_enter Tryd.func21, Tryd.ntmps21
        go_wp2_with (first
          | (go_at_call 15; refine CF.out.mono ?_; rintro e X ⟨rfl, hb⟩; have K1 := Lib.hid ((KB.out.keep hb).allocAt X.heap.size rfl (.cells #[.int .i64 R1, .int .i64 R2, .int .i64 0] 42)); clear hb)
          | go_in)
        refine bodyPost_ret (v := .bool true) (by simp [results, Tryd.results21, go_sem]) rfl ⟨rfl, K1.out.below⟩
      · rw [decide_eq_false (fun q => h3 (congrArg Prod.snd q))]
        subst h1 h2
        go_enter Tryd.func21, Tryd.ntmps21
        go_wp2_with (first
          | (go_at_call 15; refine CF.out.mono ?_; rintro e X ⟨rfl, hb⟩; have K1 := Lib.hid ((KB.out.keep hb).allocAt X.heap.size rfl (.cells #[.int .i64 R1, .int .i64 R2, .int .i64 0] 42)); clear hb)
          | go_in)
        refine bodyPost_ret (v := .bool false) (by simp [results, Tryd.results21, go_sem, h3]) rfl ⟨rfl, K1.out.below⟩
    · rw [decide_eq_false (fun q => h2 (congrArg (fun x => x.1.2) q))]
      subst h1
      go_enter Tryd.func21, Tryd.ntmps21
      go_wp2_with (first
        | (go_at_call 15; refine CF.out.mono ?_; rintro e X ⟨rfl, hb⟩; have K1 := Lib.hid ((KB.out.keep hb).allocAt X.heap.size rfl (.cells #[.int .i64 R1, .int .i64 R2, .int .i64 0] 42)); clear hb)
        | go_in)
      refine bodyPost_ret (v := .bool false) (by simp [results, Tryd.results21, go_sem]) rfl ⟨rfl, K1.out.below⟩
  · rw [decide_eq_false (fun q => h1 (congrArg (fun x => x.1.1) q))]
    go_enter Tryd.func21, Tryd.ntmps21
    go_wp2_with (first
      | (go_at_call 15; refine CF.out.mono ?_; rintro e X ⟨rfl, hb⟩; have K1 := Lib.hid ((KB.out.keep hb).allocAt X.heap.size rfl (.cells #[.int .i64 R1, .int .i64 R2, .int .i64 0] 42)); clear hb)
      | go_in)
    refine bodyPost_ret (v := .bool false) (by simp [results, Tryd.results21, go_sem]) rfl ⟨rfl, K1.out.below⟩
end Go.Proofs.YtdeompnaojiajaaDoor.Px
