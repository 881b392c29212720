/- The walk of the law PoolFound. -/
import Derived.Test.YtkfgonbopgdmgaaDoorWkF
namespace Go.Proofs.YtkfgonbopgdmgaaDoor.Px
open Go.RowKit
open Go.ChangeShapes Go.WideShapes
open Po St Tb

section
variable {α : Type} [DecidableEq α]
theorem posA_first {O : List α} {x : α} {i : Nat} (h : O[i]? = some x) : posA O x = i ↔ x ∉ O.take i := by
  obtain ⟨hi, hx⟩ := List.getElem?_eq_some_iff.1 h
  unfold posA
  have e : O = O.take i ++ (x :: O.drop (i + 1)) := by rw [← hx, ← List.drop_eq_getElem_cons hi, List.take_append_drop]
  have hl : (O.take i).length = i := by rw [List.length_take]; omega
  constructor
  · intro h1 h2
    have h3 := List.idxOf_lt_length_of_mem h2
    rw [e, List.idxOf_append, if_pos h2] at h1
    omega
  · intro h1
    rw [e, List.idxOf_append, if_neg h1, List.idxOf_cons_self, hl]
    omega
end
theorem firsts_last : ∀ (l seen : List (List UInt8)) (x : List UInt8), firsts seen (l ++ [x]) = if x ∈ l ∨ x ∈ seen then firsts seen l else firsts seen l ++ [x]
  | [], seen, x => by
    rw [List.nil_append]
    by_cases h : x ∈ seen
    · rw [firsts_in h, if_pos (.inr h)]
    · rw [firsts_out h, if_neg (by simp [h])]; rfl
  | y :: r, seen, x => by
    rw [List.cons_append]
    by_cases h : y ∈ seen
    · rw [firsts_in h, firsts_in h, firsts_last r seen x]
      by_cases hx : x ∈ r ∨ x ∈ seen
      · rw [if_pos hx, if_pos (hx.imp (List.mem_cons_of_mem _) id)]
      · rw [if_neg hx, if_neg]
        rintro (hq | hq)
        · rcases List.mem_cons.1 hq with rfl | hq
          · exact hx (.inr h)
          · exact hx (.inl hq)
        · exact hx (.inr hq)
    · rw [firsts_out h, firsts_out h, firsts_last r (y :: seen) x]
      by_cases hx : x ∈ r ∨ x ∈ y :: seen
      · rw [if_pos hx, if_pos]
        rcases hx with hx | hx
        · exact .inl (List.mem_cons_of_mem _ hx)
        · rcases List.mem_cons.1 hx with rfl | hx
          · exact .inl (List.mem_cons_self ..)
          · exact .inr hx
      · rw [if_neg hx, if_neg]
        · rfl
        · rintro (hq | hq)
          · rcases List.mem_cons.1 hq with rfl | hq
            · exact hx (.inr (List.mem_cons_self ..))
            · exact hx (.inl hq)
          · exact hx (.inr (List.mem_cons_of_mem _ hq))
/-- how many bytes the strings of the pool have that stand first among the first i -/
def lenT (L : List (List UInt8)) (i : Nat) : Nat := (((firsts [] (L.take i)).filter (fun x => !endB L x)).flatMap w).length
theorem lenT_step {L : List (List UInt8)} {i : Nat} {x : List UInt8} (h : L[i]? = some x) : lenT L (i + 1) = if posA L x = i ∧ endB L x = false then lenT L i + (x.length + 1) else lenT L i := by
  have hpos : posA L x = i ↔ x ∉ L.take i := posA_first h
  unfold lenT
  rw [List.take_add_one, h]
  show (((firsts [] (L.take i ++ [x])).filter _).flatMap w).length = _
  rw [firsts_last]
  by_cases hm : x ∈ L.take i
  · rw [if_pos (.inl hm), if_neg (fun q => (hpos.1 q.1) hm)]
  · rw [if_neg (by simp [hm]), List.filter_append, List.flatMap_append, List.length_append]
    cases he : endB L x
    · rw [if_pos ⟨hpos.2 hm, rfl⟩]
      simp [he, w_len]
    · rw [if_neg (by simp)]
      simp [he]
theorem lenT_all {L : List (List UInt8)} {i : Nat} (h : L.length ≤ i) (hg : GoodP L) : lenT L i = (abbrsP L).length := by
  rw [pool_len_tops hg]
  unfold lenT tops
  rw [List.take_of_length_le h]
theorem lenT_le (L : List (List UInt8)) (hf : ∀ l ∈ L, l.length ≤ 6) : ∀ i, lenT L i ≤ 7 * i
  | 0 => by unfold lenT; simp [firsts]
  | i + 1 => by
    have ih := lenT_le L hf i
    cases h : L[i]? with
    | none =>
      have e : L.take (i + 1) = L.take i := by rw [List.take_add_one, h]; simp
      unfold lenT at ih ⊢
      rw [e]
      omega
    | some x =>
      rw [lenT_step h]
      have := hf x (List.mem_of_getElem? h)
      split <;> omega
theorem index_zero : ∀ (x r : List UInt8), (0 : UInt8) ∉ x → Lib.indexByte (x ++ 0 :: r) 0 = (x.length : Int)
  | [], r, _ => by simp [Lib.indexByte]
  | a :: x, r, h => by
    have ih := index_zero x r (fun q => h (List.mem_cons_of_mem _ q))
    have ha : (a == 0) = false := by
      rw [beq_eq_false_iff_ne]
      intro e
      exact h (by rw [e]; exact List.mem_cons_self ..)
    rw [List.cons_append]
    simp only [Lib.indexByte]
    rw [ha, if_neg (by simp), ih, if_neg (by simp)]
    simp
    try omega
set_option maxHeartbeats 4000000 in
set_option maxRecDepth 100000 in
theorem index_strs (O : List (List UInt8)) (x : List UInt8) (v : Value) (W : World) (hV : StrV W v O) (hx : x ∈ O) :
    Calls Tryd.prog 23 #[v, .string (bs x)] W fun e w' => e = .returned (.int .i64 (posA O x : Int)) ∧ W = w' := by
  obtain ⟨a, c, rfl, hc1, hc2⟩ := hV.slice
  have hall := fun h0 => hV.all h0
  obtain ⟨n, hn⟩ : ∃ n, O.length = n := ⟨_, rfl⟩
  rw [hn] at hall hc1 ⊢
  unfold maxLen at hc2
  have HA := Lib.hid hall
  have HN := Lib.hid hn
  have HX := Lib.hid hx
  obtain ⟨sx, hsx⟩ : ∃ s, bs x = s := ⟨_, rfl⟩
  rw [hsx]
  have HSx := Lib.hid hsx
  obtain ⟨R, hR⟩ : ∃ R, posA O x = R := ⟨_, rfl⟩
  have HR := Lib.hid hR
  rw [hR]
  clear hV hall hn hx hsx hR
  go_enter Tryd.func23, Tryd.ntmps23
  go_wp2_with fail
  go_loopw [5, 8] (fun _ v8 wr => ∃ i : Nat, i ≤ n ∧ v8 = .int .i64 (i : Int) ∧ x ∉ O.take i ∧ W = wr) (fun _ v8 _ => n - (intOf v8).toNat)
  case atStart => exact ⟨0, by omega, rfl, by simp, rfl⟩
  case round =>
    obtain ⟨i, hi, rfl, hno, rfl⟩ := hrel
    have HNO := Lib.hid hno
    clear hno
    by_cases hlt : i < n
    · obtain ⟨b, o, c', e1, _, _, hb, hcell⟩ := HA.out (by omega)
      simp only [Value.slice.injEq] at e1
      obtain ⟨rfl, _, rfl⟩ := e1
      obtain ⟨y, hy⟩ : ∃ y, O[i]? = some y := ⟨_, List.getElem?_eq_getElem (by rw [HN.out]; exact hlt)⟩
      have k0 := hcell i y hy
      have HY := Lib.hid hy
      clear hcell hy
      by_cases he : x = y
      · subst he
        rw [HSx.out] at k0
        have hr := Lib.hid (show R = i from HR.out.symm.trans ((posA_first HY.out).2 HNO.out))
        go_wp2_with fail
        refine bodyPost_ret (v := .int .i64 (i : Int)) (by simp [results, Tryd.results23, go_sem]) rfl ⟨?_, rfl⟩
        rw [hr.out]
      · have hq : (sx.toList == (bs y).toList) = false := by
          rw [beq_eq_false_iff_ne]
          intro e
          rw [← HSx.out] at e
          exact he (bs_inj (ba_eq e))
        have ht := Lib.hid (show x ∉ O.take (i + 1) by
          rw [List.take_add_one, HY.out]
          intro hm
          rcases List.mem_append.1 hm with hm | hm
          · exact HNO.out hm
          · simp only [Option.toList_some, List.mem_singleton] at hm
            exact he hm)
        obtain ⟨sy, hsy⟩ : ∃ s, bs y = s := ⟨_, rfl⟩
        rw [hsy] at k0 hq
        clear he hsy
        go_wp2_with fail
        go_roundw
        case rel => exact ⟨i + 1, by omega, by go_num, ht.out, (by first | trivial | rfl)⟩
        case measure => simp [intOf]; omega
    · obtain rfl : i = n := by omega
      exfalso
      have := HNO.out
      rw [List.take_of_length_le (by rw [HN.out]; exact Nat.le_refl _)] at this
      exact this HX.out
/-- the predicate of the law: whether a string is another one that ends so -/
theorem endP_any (x y : List UInt8) (bx : Nat) (W : World) (hy : y.length ≤ 1000000) (hb : W.heap[bx]? = some (.cells #[.string (bs x)] 9 (0, 0))) :
    Calls Tryd.prog 21 #[.string (bs y), .pointer (some ⟨bx, 0, none⟩)] W fun e w' => e = .returned (.bool (decide (y ≠ x) && x.isSuffixOf y)) ∧ W = w' := by
  have k0 := cells_at hb 0
  have k0' : W.cell? ⟨bx, 0, none⟩ = some (.string (bs x)) := k0
  have hl := lt_of_block hb
  have hsz : (bs y).size = y.length := rfl
  have C := Lib.hid (Tryd.strings_HasSuffix (bs y) (bs x) W (by omega))
  rw [show Lib.hasSuffix (bs y).data.toList (bs x).data.toList = x.isSuffixOf y from rfl] at C
  by_cases he : y = x
  · subst he
    obtain ⟨sy, hsy⟩ : ∃ s, bs y = s := ⟨_, rfl⟩
    rw [hsy] at k0' ⊢
    clear k0 C hsy hsz
    go_enter Tryd.func21, Tryd.ntmps21
    go_wp2_with fail
    refine bodyPost_ret (v := .bool false) (by simp [results, Tryd.results21, go_sem]) rfl ⟨?_, rfl⟩
    simp
  · have hq : ((bs y).toList == (bs x).toList) = false := by
      rw [beq_eq_false_iff_ne]
      exact fun e => he (bs_inj (ba_eq e))
    have hd := Lib.hid (show decide (y ≠ x) = true from decide_eq_true he)
    obtain ⟨sy, hsy⟩ : ∃ s, bs y = s := ⟨_, rfl⟩
    obtain ⟨sx, hsx⟩ : ∃ s, bs x = s := ⟨_, rfl⟩
    obtain ⟨q, hqq⟩ : ∃ q, x.isSuffixOf y = q := ⟨_, rfl⟩
    rw [hsy, hsx] at C hq
    rw [hqq] at C ⊢
    rw [hsx] at k0'
    rw [hsy]
    clear k0 hsy hsx hsz he hqq hb
    go_enter Tryd.func21, Tryd.ntmps21
    go_wp2_with fail
    refine C.out.mono ?_
    rintro e w' ⟨rfl, rfl⟩
    go_wp2_with fail
    refine bodyPost_ret (v := .bool q) (by simp [results, Tryd.results21, go_sem]) rfl ⟨?_, rfl⟩
    rw [hd.out, Bool.true_and]
end Go.Proofs.YtkfgonbopgdmgaaDoor.Px
