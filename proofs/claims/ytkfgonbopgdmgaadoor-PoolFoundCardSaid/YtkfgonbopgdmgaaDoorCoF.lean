/- slices.ContainsFunc at strings, for any predicate that leaves the world as it is. -/
import Derived.Test.YtkfgonbopgdmgaaDoorDfS
import Derived.Laws.EntriesVeiled
namespace Go.Proofs.YtkfgonbopgdmgaaDoor.Px
open Go.RowKit

set_option maxHeartbeats 4000000 in
set_option maxRecDepth 100000 in
theorem indexFunc_any (k : Nat) (lb : Array Value) (f : List UInt8 → Bool) (L : List (List UInt8)) (v : Value) (W : World) (hV : StrV W v L) (ent : ∀ args w, (callFunc k args).run Tryd.prog w = .ok (.enter k args) w)
    (hf : ∀ l ∈ L, Calls Tryd.prog k (#[.string (bs l)] ++ lb) W fun e w' => e = .returned (.bool (f l)) ∧ W = w') (hmax : L.length ≤ 1000000) :
    Calls Tryd.prog 50 #[v, .func (.func k) #[] lb] W fun e w' => ∃ r : Int, e = .returned (.int .i64 r) ∧ decide (0 ≤ r) = L.any f ∧ W = w' := by
  obtain ⟨a, c, rfl, hc1, hc2⟩ := hV.slice
  have hall := fun h0 => hV.all h0
  obtain ⟨n, hn⟩ : ∃ n, L.length = n := ⟨_, rfl⟩
  rw [hn] at hall hmax hc1 ⊢
  unfold maxLen at hc2
  have HA := Lib.hid hall
  have HN := Lib.hid hn
  have HF := Lib.hid hf
  clear hV hall hn hf
  go_enter Tryd.func50, Tryd.ntmps50
  go_wp2_with fail
  go_loopw [5, 8] (fun _ v8 wr => ∃ i : Nat, i ≤ n ∧ v8 = .int .i64 (i : Int) ∧ (L.take i).any f = false ∧ W = wr) (fun _ v8 _ => n - (intOf v8).toNat)
  case atStart => exact ⟨0, by omega, rfl, rfl, rfl⟩
  case round =>
    obtain ⟨i, hi, rfl, hno, rfl⟩ := hrel
    have HNO := Lib.hid hno
    clear hno
    by_cases hlt : i < n
    · obtain ⟨b, o, c', e1, _, _, hb, hcell⟩ := HA.out (by omega)
      simp only [Value.slice.injEq] at e1
      obtain ⟨rfl, _, rfl⟩ := e1
      obtain ⟨x, hx⟩ : ∃ x, L[i]? = some x := ⟨_, List.getElem?_eq_getElem (by rw [HN.out]; exact hlt)⟩
      have k0 := hcell i x hx
      have C := Lib.hid (HF.out x (List.mem_of_getElem? hx))
      have ht := Lib.hid (show (L.take (i + 1)).any f = f x by rw [List.take_add_one, hx, List.any_append, HNO.out]; simp)
      have hgo := Lib.hid (show f x = true → L.any f = true from fun e => List.any_eq_true.2 ⟨x, List.mem_of_getElem? hx, e⟩)
      clear hcell hx
      obtain ⟨q, hq⟩ : ∃ q, f x = q := ⟨_, rfl⟩
      rw [hq] at C ht hgo
      clear hq
      cases q
      · go_wp2_with fail
        refine C.out.mono ?_
        rintro e w1 ⟨rfl, rfl⟩
        go_wp2_with fail
        go_roundw
        case rel => exact ⟨i + 1, by omega, by go_num, ht.out, (by first | trivial | rfl)⟩
        case measure => simp [intOf]; omega
      · go_wp2_with fail
        refine C.out.mono ?_
        rintro e w1 ⟨rfl, rfl⟩
        go_wp2_with fail
        refine bodyPost_ret (v := .int .i64 i) (by simp [results, Tryd.results50, go_sem]) rfl ⟨i, rfl, ?_, rfl⟩
        rw [hgo.out (by first | trivial | rfl)]
        simp
    · obtain rfl : i = n := by omega
      have hLt : L.take i = L := List.take_of_length_le (by have := HN.out; omega)
      have hno := HNO.out
      rw [hLt] at hno
      have HNO' := Lib.hid hno
      clear hLt hno
      go_wp2_with fail
      refine bodyPost_ret (v := .int .i64 (-1)) (by simp [results, Tryd.results50, go_sem]) rfl ⟨-1, rfl, ?_, rfl⟩
      rw [HNO'.out]
      rfl
set_option maxHeartbeats 2000000 in
theorem containsFunc_any (k : Nat) (lb : Array Value) (f : List UInt8 → Bool) (L : List (List UInt8)) (v : Value) (W : World) (hV : StrV W v L) (ent : ∀ args w, (callFunc k args).run Tryd.prog w = .ok (.enter k args) w)
    (hf : ∀ l ∈ L, Calls Tryd.prog k (#[.string (bs l)] ++ lb) W fun e w' => e = .returned (.bool (f l)) ∧ W = w') (hmax : L.length ≤ 1000000) :
    Calls Tryd.prog 24 #[v, .func (.func k) #[] lb] W fun e w' => e = .returned (.bool (L.any f)) ∧ W = w' := by
  have C := Lib.hid (indexFunc_any k lb f L v W hV ent hf hmax)
  obtain ⟨a, c, rfl, _, _⟩ := hV.slice
  clear hV hf
  go_enter Tryd.func24, Tryd.ntmps24
  go_wp2_with (go_at_call 50; refine C.out.mono ?_; rintro e w1 ⟨r, rfl, hr, rfl⟩; have HR := Lib.hid hr; clear hr)
  go_ret
  exact ⟨by rw [HR.out]; rfl, rfl⟩
end Go.Proofs.YtkfgonbopgdmgaaDoor.Px
