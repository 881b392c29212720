/- The examples of the law, reckoned. -/
import Derived.Test.YtgllbagmmpicaaaGreatDoorPzP
import Derived.Test.YtgllbagmmpicaaaGreatDoorPxQ
namespace Go.Proofs.YtgllbagmmpicaaaGreatDoor.Px
open Civ

def a1S : List UInt8 := [73, 83, 84, 45, 49, 71, 77, 84, 48, 44, 77, 49, 48, 46, 53, 46, 48, 44, 77, 51, 46, 51, 46, 48]
def a1P : Pos := ⟨bs [73, 83, 84], 3600, bs [71, 77, 84], 0, ⟨3, 0, 10, 5, 7200⟩, ⟨3, 0, 3, 3, 7200⟩⟩
theorem a1_read : finG rfF a1S = (a1P, 0) := by kernel_rfl
theorem a1_print : printP a1P = ([73, 83, 84, 45, 49, 71, 77, 84, 48, 44, 77, 49, 48, 46, 53, 46, 48, 44, 77, 51, 46, 51, 46, 48], 0) := by kernel_rfl
def a2S : List UInt8 := [67, 69, 84, 45, 49]
def a2P : Pos := ⟨bs [67, 69, 84], 3600, bs [], 0, ⟨0, 0, 0, 0, 0⟩, ⟨0, 0, 0, 0, 0⟩⟩
theorem a2_read : finG rfF a2S = (a2P, 0) := by kernel_rfl
theorem a2_print : printP a2P = ([67, 69, 84, 45, 49], 0) := by kernel_rfl
def a3S : List UInt8 := [60, 43, 48, 53, 62, 45, 53]
def a3P : Pos := ⟨bs [43, 48, 53], 18000, bs [], 0, ⟨0, 0, 0, 0, 0⟩, ⟨0, 0, 0, 0, 0⟩⟩
theorem a3_read : finG rfF a3S = (a3P, 0) := by kernel_rfl
theorem a3_print : printP a3P = ([60, 43, 48, 53, 62, 45, 53], 0) := by kernel_rfl
def a4S : List UInt8 := [67, 69, 84, 45, 49, 67, 69, 83, 84, 45, 50, 58, 48, 48, 44, 77, 51, 46, 53, 46, 48, 47, 50, 58, 48, 48, 44, 77, 49, 48, 46, 53, 46, 48, 47, 51]
def a4P : Pos := ⟨bs [67, 69, 84], 3600, bs [67, 69, 83, 84], 7200, ⟨3, 0, 3, 5, 7200⟩, ⟨3, 0, 10, 5, 10800⟩⟩
theorem a4_read : finG rfF a4S = (a4P, 0) := by kernel_rfl
theorem a4_print : printP a4P = ([67, 69, 84, 45, 49, 67, 69, 83, 84, 44, 77, 51, 46, 53, 46, 48, 44, 77, 49, 48, 46, 53, 46, 48, 47, 51], 0) := by kernel_rfl
def a5S : List UInt8 := [67, 69, 84, 45, 49, 67, 69, 83, 84, 44, 77, 51, 46, 53, 46, 48, 44, 77, 49, 48, 46, 53, 46, 48, 47, 51]
def a5P : Pos := ⟨bs [67, 69, 84], 3600, bs [67, 69, 83, 84], 7200, ⟨3, 0, 3, 5, 7200⟩, ⟨3, 0, 10, 5, 10800⟩⟩
theorem a5_read : finG rfF a5S = (a5P, 0) := by kernel_rfl
def a6S : List UInt8 := [88, 88, 88, 51, 69, 68, 84, 52, 44, 48, 47, 48, 44, 74, 51, 54, 53, 47, 50, 51]
def a6P : Pos := ⟨bs [88, 88, 88], -10800, bs [69, 68, 84], -14400, ⟨2, 0, 0, 0, 0⟩, ⟨1, 365, 0, 0, 82800⟩⟩
theorem a6_read : finG rfF a6S = (a6P, 0) := by kernel_rfl
theorem bad0 : finG rfF [67, 69, 84] = (Pos.zero, 5) := by kernel_rfl
theorem bad1 : finG rfF [67, 69, 84, 45, 49, 67, 69, 83, 84] = (Pos.zero, 5) := by kernel_rfl
theorem bad2 : finG rfF [67, 69, 45, 49] = (Pos.zero, 5) := by kernel_rfl
theorem bad3 : finG rfF [67, 69, 84, 43, 49] = (Pos.zero, 5) := by kernel_rfl
theorem bad4 : finG rfF [67, 69, 84, 45, 50, 53] = (Pos.zero, 5) := by kernel_rfl
theorem bad5 : finG rfF [67, 69, 84, 45, 49, 67, 69, 83, 84, 44, 77, 49, 51, 46, 49, 46, 48, 44, 74, 49] = (Pos.zero, 5) := by kernel_rfl
theorem bad6 : finG rfF [] = (Pos.zero, 5) := by kernel_rfl
theorem t1 : atP a5P 1711846799 = (Loc 3600 false (bs [67, 69, 84]), 0) := by kernel_rfl
theorem t2 : atP a5P 1711846800 = (Loc 7200 true (bs [67, 69, 83, 84]), 0) := by kernel_rfl
theorem t3 : atP a6P 0 = (Loc (-14400) true (bs [69, 68, 84]), 0) := by kernel_rfl
end Go.Proofs.YtgllbagmmpicaaaGreatDoor.Px
