/- The law LinksCircle of chapter 15, walked: with and without links. -/
import Derived.Test.YtdeompnaojiajaaDoorLgB
namespace Go.Proofs.YtdeompnaojiajaaDoor.Px
open Go.RowKit

theorem circle_any (z l t wh : Nat) (To : List Nat) (tv : Value) (W : World) (hz : z < 256) (hl : l < 256) (ht : t < 256) (hwh : wh < 256) (hT : SlV W tv 1 To.length (To.map u8v)) (hTo : ∀ b ∈ To, b < 256) (hE : EnvAt W) :
    Calls Tryd.prog 6 #[.agg #[.int .u8 (z : Int), .int .u8 (l : Int), tv, .int .u8 (t : Int)], .int .u8 (wh : Int)] W fun e w' => e = .returned (.bool true) ∧ Below W.heap.size W w' := by
  by_cases hm : l % 13 = 0
  · exact circle_0 z l t wh To tv W hz hl ht hwh hT hTo hE hm
  · exact circle_1 z l t wh To tv W hz hl ht hwh hT hTo hE hm
end Go.Proofs.YtdeompnaojiajaaDoor.Px
