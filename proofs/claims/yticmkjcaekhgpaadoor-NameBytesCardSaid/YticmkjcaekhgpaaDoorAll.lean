import Derived.Test.YticmkjcaekhgpaaDoorSet
namespace Go.Proofs.YticmkjcaekhgpaaDoor
open Go.RowKit

def strOf : Value → ByteArray
  | .string s => s
  | _ => ByteArray.empty
def isStr : Value → Bool
  | .string s => decide (s.size ≤ 1000)
  | _ => false

/-- what a function of a string is asked for: a contract for every string and world -/
def Tells (f : Nat) (p : List UInt8 → Bool) : Prop := (∀ args w, (callFunc f args).run Tryd.prog w = .ok (.enter f args) w) ∧ ∀ (s : ByteArray) (w : World), s.size ≤ maxLen → Calls Tryd.prog f #[.string s] w fun e w' => e = .returned (.bool (p s.data.toList)) ∧ Below w.heap.size w w'

theorem strs_at (cs : Array Value) (hcs : cs.all isStr = true) (k : Nat) (h : k < cs.size) : ∃ s : ByteArray, cs[k]? = some (.string s) ∧ s.size ≤ 1000 := by
  have := Array.all_eq_true_iff_forall_mem.1 hcs cs[k] (Array.getElem_mem h)
  rw [Array.getElem?_eq_getElem h]
  revert this
  generalize cs[k] = v
  intro hv
  cases v <;> simp [isStr] at hv
  exact ⟨_, rfl, hv⟩

set_option maxHeartbeats 1000000 in
theorem all_lit (f : Nat) (p : List UInt8 → Bool) (hf : Tells f p) (want : Bool) (cs : Array Value) (n b : Nat) (W : World) (hn : n = cs.size) (hb : b = W.heap.size) (hmax : cs.size ≤ 1000)
    (hcs : cs.all isStr = true) (hval : cs.toList.all (fun v => p (strOf v).data.toList == want) = true) :
    Calls Tryd.prog 37 #[.func (.func f) #[] #[], .bool want, .slice (some ⟨b, 0, none⟩) n n] (W.alloc (.cells cs 9)) fun e w' => e = .returned (.bool true) ∧ Below W.heap.size W w' := by
  subst hn hb
  have hef := hf.1
  have HF := Lib.hid hf.2
  have HC := Lib.hid hcs
  have HV := Lib.hid hval
  clear hf hcs hval
  go_enter Tryd.func37, Tryd.ntmps37
  go_wp2
  go_loopw [8, 11] (fun _ i wr => ∃ k : Nat, k ≤ cs.size ∧ i = .int .i64 k ∧ Below (W.heap.size + 1) (W.alloc (.cells cs 9)) wr) (fun _ i _ => cs.size - (intOf i).toNat)
  case atStart => exact ⟨0, by omega, rfl, Below.refl _ _⟩
  case round =>
    obtain ⟨k, hk, rfl, hB⟩ := hrel
    by_cases hlt : k < cs.size
    · obtain ⟨s, hs, hsz⟩ := strs_at cs HC.out k hlt
      have hcell : wr.cell? ⟨W.heap.size, k, none⟩ = some (.string s) := by
        rw [hB.cell (p := ⟨W.heap.size, k, none⟩) (by simp), World.cell?_alloc_at _ _ _ _ rfl]; exact hs
      have hp : p s.data.toList = want := by
        have := List.all_eq_true.1 HV.out (.string s) (by rw [Array.mem_toList_iff]; exact Array.mem_of_getElem? hs)
        exact eq_of_beq this
      have hc := HF.out s wr (by unfold maxLen; omega)
      rw [hp] at hc
      have HS := Lib.hid hc
      have HB := Lib.hid hB
      clear hp hc hB hs
      cases want
      all_goals
        go_wp2_with (refine HS.out.mono ?_; rintro e w' ⟨rfl, hb'⟩)
        go_roundw
        case rel => exact ⟨k + 1, by omega, by go_num, HB.out.trans (hb'.mono (by have := HB.out.size; simp at this; omega))⟩
        case measure => simp [intOf]; omega
    · have HB := Lib.hid hB
      clear hB
      go_wp2
      go_ret
      exact ⟨rfl, ((Below.refl _ W).alloc (Nat.le_refl _) _).trans (HB.out.mono (by omega))⟩

theorem tells13 : Tells 13 zoneOk := ⟨enters_of Tryd.func13 (by kernel_rfl) rfl, fun s w hs => zone_any s hs w⟩
theorem tells15 : Tells 15 setOk := ⟨enters_of Tryd.func15 (by kernel_rfl) rfl, fun s w hs => set15 s hs w⟩
theorem tells17 : Tells 17 letterOk := ⟨enters_of Tryd.func17 (by kernel_rfl) rfl, fun s w hs => letter17 s hs w⟩
theorem tells19 : Tells 19 abbrOk := ⟨enters_of Tryd.func19 (by kernel_rfl) rfl, fun s w hs => abbr19 s hs w⟩

end Go.Proofs.YticmkjcaekhgpaaDoor
