/- The reference's Names (chapter 15): each time the least name that is not there yet. -/
import Derived.Test.YtdeompnaojiajaaDoorLnT
import Derived.Sort.Walk0
namespace Go.Proofs.YtdeompnaojiajaaDoor.Px
open Go.RowKit
open Go.Maps (Keyed)
open Lk

theorem info_partsU {t : TypeId} {z : Value} {m b : Nat} (h : (Tryd.prog.info? t).map (fun i => (i.zero, i.size, i.bytes)) = some (some z, m, b)) : ∃ i, Tryd.prog.info? t = some i ∧ i.zero = some z ∧ i.size = m ∧ i.bytes = b := by
  cases e : Tryd.prog.info? t with
  | none => rw [e] at h; cases h
  | some i =>
    rw [e] at h
    simp only [Option.map_some, Option.some.injEq, Prod.mk.injEq] at h
    exact ⟨i, rfl, h.1, h.2.1, h.2.2⟩
theorem infoStr : (Tryd.prog.info? 9).map (fun i => (i.zero, i.size, i.bytes)) = some (some (.string ⟨#[]⟩), 1, 16) := by kernel_rfl
theorem svvs_snoc (l : List (List UInt8)) (x : List UInt8) : (l ++ [x]).map svv = l.map svv ++ [.string (bs x)] := by simp [svv]
set_option maxHeartbeats 4000000 in
set_option maxRecDepth 100000 in
theorem has_ref (A : List (List UInt8)) (va : Value) (q : List UInt8) (W : World) (hA : SlV W va 1 A.length (A.map svv)) (hmax : A.length ≤ 4000000) :
    Calls Tryd.prog 31 #[va, .string (bs q)] W fun e w' => e = .returned (.bool (decide (q ∈ A))) ∧ w' = W := by
  obtain ⟨a, c, rfl, ha1, ha2⟩ := hA.slA
  have hAl := fun h0 => hA.allA h0
  obtain ⟨n, hn⟩ : ∃ n, A.length = n := ⟨_, rfl⟩
  rw [hn] at hAl ha1 hmax ⊢
  unfold maxLen at ha2
  have HA := Lib.hid hAl
  have HN := Lib.hid hn
  obtain ⟨r, hr⟩ : ∃ r, decide (q ∈ A) = r := ⟨_, rfl⟩
  rw [hr]
  have HR := Lib.hid hr
  obtain ⟨sq, hsq⟩ : ∃ s, bs q = s := ⟨_, rfl⟩
  rw [hsq]
  have HQ := Lib.hid hsq
  clear hA hAl hn hr hsq
  go_enter Tryd.func31, Tryd.ntmps31
  go_wp2_with fail
  go_loopw [5] (fun i5 wr => ∃ i : Nat, i ≤ n ∧ i5 = .int .i64 (i : Int) ∧ q ∉ A.take i ∧ wr = W) (fun i5 _ => n - (intOf i5).toNat)
  case atStart => exact ⟨0, by omega, rfl, by simp, rfl⟩
  case round =>
    obtain ⟨i, hi', rfl, hno, rfl⟩ := hrel
    have HO := Lib.hid hno
    clear hno
    by_cases hlt : i < n
    · obtain ⟨b, o, c', e1, _, _, hb, hcell⟩ := HA.out (by omega)
      simp only [Value.slice.injEq] at e1
      obtain ⟨rfl, _, rfl⟩ := e1
      obtain ⟨x, hx⟩ : ∃ x, A[i]? = some x := ⟨_, List.getElem?_eq_getElem (by rw [HN.out]; exact hlt)⟩
      have k0 := hcell i (.string (bs x)) (by rw [List.getElem?_map, hx]; rfl)
      have hst := fun (hy : x ≠ q) => not_take_succ hx HO.out hy
      have hin := List.mem_of_getElem? hx
      by_cases he : x = q
      · have hR := HR.out
        rw [decide_eq_true (he ▸ hin)] at hR
        subst hR
        rw [he, HQ.out] at k0
        clear hx hcell hst hin he
        go_wp2_with fail
        refine bodyPost_ret (v := .bool true) (by simp [results, Tryd.results31, go_sem]) rfl ⟨rfl, rfl⟩
      · have HT := Lib.hid (hst he)
        have hq3 : ¬ bs x = sq := fun e => he (bs_inj (e.trans HQ.out.symm))
        have hq2 : ¬ (bs x).toList = sq.toList := fun e => hq3 (ba_eq e)
        have hq : ((bs x).toList == sq.toList) = false := by rw [beq_eq_false_iff_ne]; exact hq2
        obtain ⟨s1, hs1⟩ : ∃ s, bs x = s := ⟨_, rfl⟩
        rw [hs1] at k0 hq hq2 hq3
        clear hx hcell hst hin he hs1
        go_wp2_with fail
        go_roundw
        case rel => exact ⟨i + 1, by omega, by go_num, HT.out, by first | trivial | rfl⟩
        case measure => simp [intOf]; omega
    · obtain rfl : i = n := by omega
      have hR := HR.out
      rw [decide_eq_false (by have := HO.out; rwa [List.take_of_length_le (by rw [HN.out]; exact Nat.le_refl _)] at this)] at hR
      subst hR
      go_wp2_with fail
      refine bodyPost_ret (v := .bool false) (by simp [results, Tryd.results31, go_sem]) rfl ⟨rfl, rfl⟩
/-- the index that the reference has found so far -/
def NextOk (all out : List (List UInt8)) (i : Nat) (nx : Int) : Prop :=
  (nx = -1 ∧ ∀ j x, j < i → all[j]? = some x → x ∈ out) ∨ ∃ k y, nx = (k : Nat) ∧ k < i ∧ all[k]? = some y ∧ y ∉ out ∧ ∀ j x, j < i → all[j]? = some x → x ∉ out → y ≤ x
theorem NextOk.start (all out : List (List UInt8)) : NextOk all out 0 (-1) := .inl ⟨rfl, fun j x hj => by omega⟩
theorem NextOk.old {all out : List (List UInt8)} {i : Nat} {nx : Int} {x : List UInt8} (h : NextOk all out i nx) (hx : all[i]? = some x) (hm : x ∈ out) : NextOk all out (i + 1) nx := by
  rcases h with ⟨h1, h2⟩ | ⟨k, y, h1, h2, h3, h4, h5⟩
  · refine .inl ⟨h1, fun j z hj hz => ?_⟩
    by_cases e : j = i
    · subst e; rw [hx] at hz; cases hz; exact hm
    · exact h2 j z (by omega) hz
  · refine .inr ⟨k, y, h1, by omega, h3, h4, fun j z hj hz hno => ?_⟩
    by_cases e : j = i
    · subst e; rw [hx] at hz; cases hz; exact absurd hm hno
    · exact h5 j z (by omega) hz hno
theorem NextOk.first {all out : List (List UInt8)} {i : Nat} {nx : Int} {x : List UInt8} (h : NextOk all out i nx) (hx : all[i]? = some x) (hm : x ∉ out) (hn : nx < 0) : NextOk all out (i + 1) (i : Nat) := by
  rcases h with ⟨h1, h2⟩ | ⟨k, y, h1, h2, h3, h4, h5⟩
  · refine .inr ⟨i, x, rfl, by omega, hx, hm, fun j z hj hz hno => ?_⟩
    by_cases e : j = i
    · subst e; rw [hx] at hz; cases hz; exact List.le_refl _
    · exact absurd (h2 j z (by omega) hz) hno
  · omega
theorem NextOk.less {all out : List (List UInt8)} {i k : Nat} {x y : List UInt8} (h : NextOk all out i (k : Nat)) (hx : all[i]? = some x) (hm : x ∉ out) (hy : all[k]? = some y) (hlt : x < y) : NextOk all out (i + 1) (i : Nat) := by
  rcases h with ⟨h1, h2⟩ | ⟨k', y', h1, h2, h3, h4, h5⟩
  · omega
  · have : k = k' := by omega
    subst this
    rw [hy] at h3
    cases h3
    refine .inr ⟨i, x, rfl, by omega, hx, hm, fun j z hj hz hno => ?_⟩
    by_cases e : j = i
    · subst e; rw [hx] at hz; cases hz; exact List.le_refl _
    · exact List.le_trans (List.le_of_lt hlt) (h5 j z (by omega) hz hno)
theorem NextOk.keep {all out : List (List UInt8)} {i k : Nat} {x y : List UInt8} (h : NextOk all out i (k : Nat)) (hx : all[i]? = some x) (hy : all[k]? = some y) (hlt : ¬ x < y) : NextOk all out (i + 1) (k : Nat) := by
  rcases h with ⟨h1, h2⟩ | ⟨k', y', h1, h2, h3, h4, h5⟩
  · omega
  · have : k = k' := by omega
    subst this
    rw [hy] at h3
    cases h3
    refine .inr ⟨k, y, rfl, by omega, hy, h4, fun j z hj hz hno => ?_⟩
    by_cases e : j = i
    · subst e; rw [hx] at hz; cases hz; exact List.not_lt.1 hlt
    · exact h5 j z (by omega) hz hno
theorem NextOk.done {all out : List (List UInt8)} {nx : Int} (h : NextOk all out all.length nx) (hn : nx < 0) : ∀ x ∈ all, x ∈ out := by
  rcases h with ⟨_, h2⟩ | ⟨k, y, h1, _⟩
  · intro x hx
    obtain ⟨j, hj, e⟩ := List.getElem_of_mem hx
    exact h2 j x hj (by rw [List.getElem?_eq_getElem hj, e])
  · omega
theorem NextOk.take {all out : List (List UInt8)} {nx : Int} (h : NextOk all out all.length nx) (hn : ¬ nx < 0) (hL : Least all out) : ∃ k y, nx = (k : Nat) ∧ k < all.length ∧ all[k]? = some y ∧ y ∉ out ∧ Least all (out ++ [y]) := by
  rcases h with ⟨h1, _⟩ | ⟨k, y, h1, h2, h3, h4, h5⟩
  · omega
  · refine ⟨k, y, h1, h2, h3, h4, hL.next (List.mem_of_getElem? h3) h4 (fun z hz hno => ?_)⟩
    obtain ⟨j, hj, e⟩ := List.getElem_of_mem hz
    exact h5 j z hj (by rw [List.getElem?_eq_getElem hj, e]) hno
theorem Least.len {all out : List (List UInt8)} (h : Least all out) : out.length ≤ all.length :=
  nodup_le out all (h.incr.imp (fun {a b} hab e => by subst e; exact List.lt_irrefl _ hab)) h.sub
theorem NextOk.range {all out : List (List UInt8)} {i : Nat} {nx : Int} (h : NextOk all out i nx) : nx = -1 ∨ ∃ k y, nx = (k : Nat) ∧ k < i ∧ all[k]? = some y := by
  rcases h with ⟨h1, _⟩ | ⟨k, y, h1, h2, h3, _⟩
  · exact .inl h1
  · exact .inr ⟨k, y, h1, h2, h3⟩
end Go.Proofs.YtdeompnaojiajaaDoor.Px
