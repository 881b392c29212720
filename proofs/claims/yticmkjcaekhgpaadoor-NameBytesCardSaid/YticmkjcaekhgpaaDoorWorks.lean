import Derived.Test.YticmkjcaekhgpaaDoorAll
namespace Go.Proofs.YticmkjcaekhgpaaDoor
open Go.RowKit
set_option maxHeartbeats 1000000 in
theorem works_any (w : World) : Calls Tryd.prog 12 #[] w fun e w' => e = .returned (.bool true) ∧ Below w.heap.size w w' := by
  go_enter Tryd.func12, Tryd.ntmps12
  go_wp2_with fail
  refine (all_lit 13 zoneOk tells13 true _ _ _ _ ?q11 ?q12 ?q13 ?q14 ?q15).mono ?_
  case q11 => rfl
  case q12 => rfl
  case q13 => decide
  case q14 => kernel_rfl
  case q15 => kernel_rfl
  rintro e w1 ⟨rfl, h1⟩
  go_wp2_with fail
  refine (all_lit 13 zoneOk tells13 false _ _ _ _ ?q21 ?q22 ?q23 ?q24 ?q25).mono ?_
  case q21 => rfl
  case q22 => rfl
  case q23 => decide
  case q24 => kernel_rfl
  case q25 => kernel_rfl
  rintro e w2 ⟨rfl, h2⟩
  go_wp2_with fail
  refine (all_lit 15 setOk tells15 true _ _ _ _ ?q31 ?q32 ?q33 ?q34 ?q35).mono ?_
  case q31 => rfl
  case q32 => rfl
  case q33 => decide
  case q34 => kernel_rfl
  case q35 => kernel_rfl
  rintro e w3 ⟨rfl, h3⟩
  go_wp2_with fail
  refine (all_lit 15 setOk tells15 false _ _ _ _ ?q41 ?q42 ?q43 ?q44 ?q45).mono ?_
  case q41 => rfl
  case q42 => rfl
  case q43 => decide
  case q44 => kernel_rfl
  case q45 => kernel_rfl
  rintro e w4 ⟨rfl, h4⟩
  go_wp2_with fail
  refine (all_lit 17 letterOk tells17 true _ _ _ _ ?q51 ?q52 ?q53 ?q54 ?q55).mono ?_
  case q51 => rfl
  case q52 => rfl
  case q53 => decide
  case q54 => kernel_rfl
  case q55 => kernel_rfl
  rintro e w5 ⟨rfl, h5⟩
  go_wp2_with fail
  refine (all_lit 17 letterOk tells17 false _ _ _ _ ?q61 ?q62 ?q63 ?q64 ?q65).mono ?_
  case q61 => rfl
  case q62 => rfl
  case q63 => decide
  case q64 => kernel_rfl
  case q65 => kernel_rfl
  rintro e w6 ⟨rfl, h6⟩
  go_wp2_with fail
  refine (all_lit 19 abbrOk tells19 true _ _ _ _ ?q71 ?q72 ?q73 ?q74 ?q75).mono ?_
  case q71 => rfl
  case q72 => rfl
  case q73 => decide
  case q74 => kernel_rfl
  case q75 => kernel_rfl
  rintro e w7 ⟨rfl, h7⟩
  go_wp2_with fail
  refine (all_lit 19 abbrOk tells19 false _ _ _ _ ?q81 ?q82 ?q83 ?q84 ?q85).mono ?_
  case q81 => rfl
  case q82 => rfl
  case q83 => decide
  case q84 => kernel_rfl
  case q85 => kernel_rfl
  rintro e w8 ⟨rfl, h8⟩
  go_wp2
  go_ret
  have e2 := h1.size
  have e3 := h2.size
  have e4 := h3.size
  have e5 := h4.size
  have e6 := h5.size
  have e7 := h6.size
  have e8 := h7.size
  exact ⟨rfl, h1.trans ((h2.mono (by omega)).trans ((h3.mono (by omega)).trans ((h4.mono (by omega)).trans ((h5.mono (by omega)).trans ((h6.mono (by omega)).trans ((h7.mono (by omega)).trans (h8.mono (by omega))))))))⟩
end Go.Proofs.YticmkjcaekhgpaaDoor
