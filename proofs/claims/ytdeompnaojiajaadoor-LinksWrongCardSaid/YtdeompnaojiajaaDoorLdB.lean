/- The law LinksWrong of chapter 15, walked: all cases together. -/
import Derived.Test.YtdeompnaojiajaaDoorLdX
import Derived.Test.YtdeompnaojiajaaDoorLdY
import Derived.Test.YtdeompnaojiajaaDoorLdZ
import Derived.Test.YtdeompnaojiajaaDoorLdV
namespace Go.Proofs.YtdeompnaojiajaaDoor.Px
open Go.RowKit

theorem wrong_any (z l t wt wh : Nat) (To : List Nat) (tv : Value) (W : World) (hz : z < 256) (hl : l < 256) (ht : t < 256) (hwt : wt < 256) (hwh : wh < 256) (hT : SlV W tv 1 To.length (To.map u8v)) (hTo : ∀ b ∈ To, b < 256) (hE : EnvAt W) :
    Calls Tryd.prog 4 #[.agg #[.int .u8 (z : Int), .int .u8 (l : Int), tv, .int .u8 (t : Int)], .int .u8 (wt : Int), .int .u8 (wh : Int)] W fun e w' => e = .returned (.bool true) ∧ Below W.heap.size W w' := by
  have hu : wt % 6 = 0 ∨ wt % 6 = 1 ∨ wt % 6 = 2 ∨ wt % 6 = 3 ∨ wt % 6 = 4 ∨ wt % 6 = 5 := by omega
  rcases hu with hu | hu | hu | hu | hu | hu
  · exact wrong_0 z l t wt wh To tv W hz hl ht hwt hwh hT hTo hE hu
  · exact wrong_1 z l t wt wh To tv W hz hl ht hwt hwh hT hTo hE hu
  · exact wrong_2 z l t wt wh To tv W hz hl ht hwt hwh hT hTo hE hu
  all_goals
    by_cases hm : l % 13 = 0
    · exact wrong_m z l t wt wh To tv W hz hl ht hwt hwh hT hTo hE (by omega) hm
  · exact wrong_3 z l t wt wh To tv W hz hl ht hwt hwh hT hTo hE hu hm
  · exact wrong_4 z l t wt wh To tv W hz hl ht hwt hwh hT hTo hE hu hm
  · exact wrong_5 z l t wt wh To tv W hz hl ht hwt hwh hT hTo hE hu hm
end Go.Proofs.YtdeompnaojiajaaDoor.Px
