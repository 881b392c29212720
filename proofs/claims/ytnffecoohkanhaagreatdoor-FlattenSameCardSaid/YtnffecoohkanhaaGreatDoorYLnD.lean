/- The function Find of package links. -/
import Derived.Test.YtnffecoohkanhaaGreatDoorYLnC
import Derived.Deep.RegionHeld3
import Derived.Deep.Cut
import Derived.Deep.CutRange
import Derived.Deep.CutBlock
namespace Go.Proofs.YtnffecoohkanhaaGreatDoor.Px
open Go.RowKit
open Go.Maps (Keyed)
open Lk

theorem bdrew (X : World) : Below X.heap.size X X.drew := Below.drew (Below.refl _ X)
set_option maxHeartbeats 8000000 in
set_option maxRecDepth 100000 in
theorem find_any (rv zv lv sv : Value) (Z : List Zo) (L : List (List UInt8 × List UInt8)) (n : List UInt8) (W : World) (h : SrcV W zv lv Z L) (hn : n.length ≤ maxLen) (hz : Z.length ≤ 1000000) (hl : L.length ≤ 1000000) :
    Calls Tryz.prog 9 #[.agg #[rv, zv, lv, sv], .string (bs n)] W fun e w' => e = .returned (.tuple #[.int .i64 ((findL (znames Z) L n).1 : Int), .int .i64 (findL (znames Z) L n).2]) ∧ Below W.heap.size W w' := by
  have KB := Lib.hid ((Kp.start W).allocAt W.heap.size rfl (.cells #[rv, zv, lv, sv] 30))
  obtain ⟨W1, hW1⟩ : ∃ X, W.alloc (.cells #[rv, zv, lv, sv] 30) = X := ⟨_, rfl⟩
  rw [hW1] at KB
  have HSr := Lib.hid (h.keep KB.out.below)
  have HS := Lib.hid (fun (Y : World) (hB : Below W1.heap.size W1 Y) => (show Y.cell? ⟨W.heap.size, 0, none⟩ = some rv ∧ Y.cell? ⟨W.heap.size, 1, none⟩ = some zv ∧ Y.cell? ⟨W.heap.size, 2, none⟩ = some lv ∧ Y.cell? ⟨W.heap.size, 3, none⟩ = some sv ∧ Below W1.heap.size W1 Y from
    ⟨cells_at ((KB.out.keep hB).at 0 rfl) 0, cells_at ((KB.out.keep hB).at 0 rfl) 1, cells_at ((KB.out.keep hB).at 0 rfl) 2, cells_at ((KB.out.keep hB).at 0 rfl) 3, hB⟩))
  have CZ := Lib.hid (fun (Y : World) (hB : Below W1.heap.size W1 Y) => zones_any rv zv lv sv Z Y (HSr.out.keep hB).zo h.zn hz)
  have CT := Lib.hid (fun (Y : World) (hB : Below W1.heap.size W1 Y) => targets_any rv zv lv sv L Y (HSr.out.keep hB).lk (fun x hx => (h.ln x hx).1) hl)
  have CF := Lib.hid (fun (Y : World) (hB : Below W1.heap.size W1 Y) (m1 m2 : Nat) (h1 : MapOf (znames Z) m1 Y) (h2 : MapOf (nm L) m2 Y) => follow_any rv zv lv sv Z L n m1 m2 Y (HSr.out.keep hB) h1 h2 hn hl)
  obtain ⟨R, hR⟩ : ∃ R, findL (znames Z) L n = R := ⟨_, rfl⟩
  rw [hR] at CF ⊢
  have HB1 := Lib.hid KB.out.below
  clear h hn hz hl hR
  go_enter Tryz.func9, Tryz.ntmps9
  go_upto_region 1 with fail
  clear hW1
  obtain ⟨x0, x1, x2, x3, _⟩ := HS.out W1 (Below.refl _ _)
  have HX0 : Hid (Below W1.heap.size W1 W1.drew) := Lib.hid (bdrew W1)
  go_region_held3 (fun w' => w'.cell? ⟨W.heap.size, 0, none⟩ = some rv ∧ w'.cell? ⟨W.heap.size, 1, none⟩ = some zv ∧ w'.cell? ⟨W.heap.size, 2, none⟩ = some lv ∧ w'.cell? ⟨W.heap.size, 3, none⟩ = some sv ∧ Below W1.heap.size W1 w')
    (first | with_reducible exact HS.out _ HX3.out | with_reducible exact HS.out _ HX2.out | with_reducible exact HS.out _ HX1.out | with_reducible exact HS.out _ HX0.out)
    (first
      | (go_at_call 26; refine (CF.out _ HX2.out _ _ HMz.out HMt.out).mono ?_; rintro e X ⟨rfl, hb⟩; have HX3 : Hid (Below W1.heap.size W1 X) := Lib.hid (HX2.out.trans (hb.mono HX2.out.size)); clear hb)
      | (go_at_call 23; refine (CT.out _ HX1.out).mono ?_; rintro e X ⟨mt, rfl, hm, _, hb⟩; have HMt := Lib.hid hm; have HMz := Lib.hid (HMz1.out.keep hb); have HX2 : Hid (Below W1.heap.size W1 X) := Lib.hid (HX1.out.trans (hb.mono HX1.out.size)); clear hb hm)
      | (go_at_call 21; refine (CZ.out _ HX0.out).mono ?_; rintro e X ⟨mz, rfl, hm, _, hb⟩; have HMz1 := Lib.hid hm; have HX1 : Hid (Below W1.heap.size W1 X) := Lib.hid (HX0.out.trans (hb.mono HX0.out.size)); clear hb hm))
  all_goals
    go_wp2_with fail
    refine bodyPost_ret (v := .tuple #[.int .i64 (R.1 : Int), .int .i64 R.2]) (by simp [results, Tryz.results9, go_sem]) rfl ⟨rfl, HB1.out.trans (HX3.out.mono HB1.out.size)⟩
end Go.Proofs.YtnffecoohkanhaaGreatDoor.Px
