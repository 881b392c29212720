/- The law FlattenRefuses of chapter 35, walked: all four cases. -/
import Derived.Test.YtnffecoohkanhaaDoorYFtU
import Derived.Test.YtnffecoohkanhaaDoorYFtV
import Derived.Test.YtnffecoohkanhaaDoorYFtX
namespace Go.Proofs.YtnffecoohkanhaaDoor.Px
open Go.RowKit
open Go.Maps (Keyed)
open Lk Ld

theorem refuses_any (z l t wt wh : Nat) (To : List Nat) (tv : Value) (W : World) (hz : z < 256) (hl : l < 256) (ht : t < 256) (hwt : wt < 256) (hwh : wh < 256) (hT : SlV W tv 1 To.length (To.map u8v)) (hTo : ∀ b ∈ To, b < 256) (hE : EnvAt W) :
    Calls Tryd.prog 5 #[.agg #[.int .u8 (z : Int), .int .u8 (l : Int), tv, .int .u8 (t : Int)], .int .u8 (wt : Int), .int .u8 (wh : Int)] W fun e w' => e = .returned (.bool true) ∧ Below W.heap.size W w' := by
  have hu : wt % 4 = 0 ∨ wt % 4 = 1 ∨ wt % 4 = 2 ∨ wt % 4 = 3 := by omega
  rcases hu with hu | hu | hu | hu
  · exact refuse_0 z l t wt wh To tv W hz hl ht hwt hwh hT hTo hE hu
  · exact refuse_1 z l t wt wh To tv W hz hl ht hwt hwh hT hTo hE hu
  · exact refuse_2 z l t wt wh To tv W hz hl ht hwt hwh hT hTo hE hu
  · exact refuse_3 z l t wt wh To tv W hz hl ht hwt hwh hT hTo hE hu
end Go.Proofs.YtnffecoohkanhaaDoor.Px
