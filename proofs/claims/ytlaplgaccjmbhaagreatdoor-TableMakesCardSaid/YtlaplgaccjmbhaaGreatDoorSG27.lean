/- Tables of many types (chapter 40), plain: which ones are right. No program in sight. Slices and local times that are handed to a law, opened. Tables by numbers (chapter 40) that are handed to a law, opened with the lengths of their lists. -/
import Derived.Test.YtlaplgaccjmbhaaGreatDoorSG14
import Derived.Test.YtlaplgaccjmbhaaGreatDoorSG15
import Derived.Test.YtlaplgaccjmbhaaGreatDoorSG20
import Derived.Test.YtlaplgaccjmbhaaGreatDoorSG25
import Derived.SizedLaws
namespace Go.Proofs.YtlaplgaccjmbhaaGreatDoor.Tb
open Px
def gmtZ : List UInt8 := [71, 77, 84, 48]
def abbrM (a : Nat) : ByteArray := bs [65, UInt8.ofNat (48 + a / 10), UInt8.ofNat (48 + a % 10), 66]
def tyM (m i : Nat) : Lc := ⟨(i : Int), false, abbrM (i % m)⟩
def trM (i : Nat) : Tr := ⟨((i + 1 : Nat) : Int), ((i + 1 : Nat) : Int)⟩
def manyT (n m : Nat) : Tab := ⟨(List.range n).map (tyM m), (List.range (n - 1)).map trM, gmtZ⟩
theorem abbrM_all : (List.range 55).all (fun a => nameOk (abbrM a).data.toList && decide ((abbrM a).size = 4)) = true := by kernel_rfl
theorem abbrM_nodup : decide (((List.range 55).map (fun a => (abbrM a).data.toList)).Nodup) = true := by kernel_rfl
theorem abbrM_inj {a b : Nat} (ha : a < 55) (hb : b < 55) (h : abbrM a = abbrM b) : a = b := by
  have hn := of_decide_eq_true abbrM_nodup
  have h1 : ((List.range 55).map (fun a => (abbrM a).data.toList))[a]'(by simpa using ha) = ((List.range 55).map (fun a => (abbrM a).data.toList))[b]'(by simpa using hb) := by simp [h]
  exact (List.getElem_inj hn).1 h1
theorem abbrM_ok {a : Nat} (ha : a < 55) : nameOk (abbrM a).data.toList = true ∧ (abbrM a).size = 4 := by
  have := List.all_eq_true.1 abbrM_all a (List.mem_range.2 ha)
  rw [Bool.and_eq_true, decide_eq_true_eq] at this
  exact this
theorem any_many {m i : Nat} (hm : 0 < m) (hm1 : m ≤ 55) : (((List.range i).map (tyM m)).any (fun p => decide (p.abbr = (tyM m i).abbr))) = decide (m ≤ i) := by
  by_cases h : m ≤ i
  · rw [decide_eq_true h, List.any_eq_true]
    refine ⟨tyM m (i % m), List.mem_map.2 ⟨i % m, List.mem_range.2 (Nat.lt_of_lt_of_le (Nat.mod_lt _ hm) h), rfl⟩, ?_⟩
    unfold tyM
    simp
  · rw [decide_eq_false h, Bool.eq_false_iff]
    intro hc
    obtain ⟨p, hp, he⟩ := List.any_eq_true.1 hc
    obtain ⟨j, hj, rfl⟩ := List.mem_map.1 hp
    have hj := List.mem_range.1 hj
    have h1 : j % m = j := Nat.mod_eq_of_lt (by omega)
    have h2 : i % m = i := Nat.mod_eq_of_lt (by omega)
    unfold tyM at he
    dsimp only at he
    rw [h1, h2] at he
    have := abbrM_inj (by omega) (by omega) (of_decide_eq_true he)
    omega
theorem lenS_many {m : Nat} (hm : 0 < m) (hm1 : m ≤ 55) : ∀ (c i : Nat), lenS ((List.range i).map (tyM m)) (5 * min i m) ((List.range' i c).map (tyM m)) = 5 * min (i + c) m
  | 0, i => rfl
  | c + 1, i => by
    rw [List.range'_succ, List.map_cons]
    unfold lenS
    have hp : (List.range i).map (tyM m) ++ [tyM m i] = (List.range (i + 1)).map (tyM m) := by rw [List.range_succ, List.map_append]; rfl
    have hs : (tyM m i).abbr.size = 4 := (abbrM_ok (Nat.lt_of_lt_of_le (Nat.mod_lt _ hm) hm1)).2
    rw [any_many hm hm1, hp, hs]
    have hn : (if decide (m ≤ i) = true then 5 * min i m else 5 * min i m + 4 + 1) = 5 * min (i + 1) m := by
      by_cases h : m ≤ i
      · rw [if_pos (decide_eq_true h)]; omega
      · rw [if_neg (by simpa using h)]; omega
    rw [hn, lenS_many hm hm1 c (i + 1), show i + 1 + c = i + (c + 1) by omega]
theorem trans_many (n : Nat) : ∀ (c i : Nat) (last : Option Int), i + c + 1 = n → n ≤ 300 → (∀ y, last = some y → y < (i : Int) + 1) → transGo n (i : Int) (i : Int) last ((List.range' i c).map trM) = 0
  | 0, i, last, h, _, _ => by
    unfold transGo
    simp only [List.range'_zero, List.map_nil]
    rw [if_neg (by omega)]
  | c + 1, i, last, h, h3, hl => by
    rw [List.range'_succ, List.map_cons]
    unfold transGo trM
    dsimp only
    rw [if_neg (by omega), if_neg (by rw [behind_no (by intro y hy; have := hl y hy; omega)]; simp), if_neg (by omega), if_neg (by omega)]
    have em : max (i : Int) ((i + 1 : Nat) : Int) = ((i + 1 : Nat) : Int) := by omega
    rw [em]
    exact trans_many n c (i + 1) _ (by omega) h3 (by intro y hy; cases hy; omega)
theorem many_types {n m : Nat} (hm : 0 < m) (hm1 : m ≤ 55) (hn1 : n ≤ 300) : (∀ l ∈ (List.range n).map (tyM m), lcE l = 0 ∧ l.abbr.size = 4) ∧ ((List.range n).map (tyM m)).Nodup := by
  refine ⟨fun l hl => ?_, ?_⟩
  · obtain ⟨i, hi, rfl⟩ := List.mem_map.1 hl
    have hi := List.mem_range.1 hi
    obtain ⟨h1, h2⟩ := abbrM_ok (Nat.lt_of_lt_of_le (Nat.mod_lt i hm) hm1)
    refine ⟨?_, h2⟩
    unfold lcE tyM
    dsimp only
    rw [if_neg (by omega), if_neg (by rw [h1]; decide)]
  · rw [List.nodup_iff_pairwise_ne, List.pairwise_map]
    refine List.Pairwise.imp (fun {a b} hab => ?_) (List.nodup_iff_pairwise_ne.1 List.nodup_range)
    intro e
    unfold tyM at e
    simp only [Lc.mk.injEq] at e
    omega
theorem many_check {n m : Nat} (hn : 250 ≤ n) (hn1 : n ≤ 255) (hm : 40 ≤ m) (hm1 : m ≤ 55) : checkE (manyT n m) = if 254 < n ∨ 255 < 5 * m then 7 else 16 := by
  obtain ⟨ht, hnd⟩ := many_types (n := n) (m := m) (by omega) hm1 (by omega)
  have hlen : ((List.range n).map (tyM m)).length = n := by simp
  have hT : typesE ((List.range n).map (tyM m)) = if 254 < n ∨ 255 < 5 * m then 7 else 0 := by
    unfold typesE
    rw [if_neg (by omega), hlen]
    by_cases h1 : 254 < n
    · rw [if_pos h1, if_pos (.inl h1)]
    · rw [if_neg h1, typesGo_ok _ [] 0 (fun l hl => (ht l hl).1) (by simpa using hnd)]
      have := lenS_many (m := m) (by omega) hm1 n 0
      rw [List.range_zero, List.map_nil, Nat.zero_min, Nat.mul_zero, ← List.range_eq_range', Nat.zero_add, Nat.min_eq_right (by omega)] at this
      rw [this]
      by_cases h2 : 255 < 5 * m
      · rw [if_pos h2, if_pos (.inr h2)]
      · rw [if_neg h2, if_neg (by omega)]
  unfold checkE
  show (if typesE ((List.range n).map (tyM m)) ≠ 0 then typesE ((List.range n).map (tyM m)) else _) = _
  rw [hT]
  by_cases h : 254 < n ∨ 255 < 5 * m
  · rw [if_pos h, if_pos (by decide), if_pos h]
  · rw [if_neg h, if_neg (by decide)]
    have hR : transE (manyT n m) = 0 := by
      unfold transE manyT
      dsimp only
      rw [hlen, List.range_eq_range']
      exact trans_many n (n - 1) 0 none (by omega) (by omega) (fun _ hy => by cases hy)
    rw [hR, if_neg (by decide)]
    have hF : (finG rfF gmtZ) = (⟨bs [71, 77, 84], 0, bs [], 0, Dt.zero, Dt.zero⟩, 0) := by kernel_rfl
    unfold footE
    have e1 : (manyT n m).foot = gmtZ := rfl
    have e2 : (manyT n m).last = trM (n - 2) := by
      unfold Tab.last manyT
      dsimp only
      obtain ⟨k, hk⟩ : ∃ k, n - 1 = k + 1 := ⟨n - 2, by omega⟩
      rw [hk, List.range_succ, List.map_append, List.map_singleton, List.getLast?_append, List.getLast?_singleton, Option.some_or, Option.getD_some, show n - 2 = k by omega]
    rw [e1, e2, hF, if_neg (by decide), if_neg h, if_neg]
    intro hc
    have hz : (atL ⟨bs [71, 77, 84], 0, bs [], 0, Dt.zero, Dt.zero⟩ (trM (n - 2)).at').1 = ⟨0, false, bs [71, 77, 84]⟩ := by
      have hok : Pos.ok ⟨bs [71, 77, 84], 0, bs [], 0, Dt.zero, Dt.zero⟩ = true := by kernel_rfl
      unfold atL
      rw [if_neg (by rw [hok]; decide), if_neg (by unfold trM; dsimp only; omega), if_pos (by kernel_rfl)]
    have hc1 := congrArg Prod.fst hc
    rw [hz] at hc1
    have hk : ((List.range n).map (tyM m)).getD (trM (n - 2)).ty.toNat Lc.zero = tyM m (n - 1) := by
      have : (trM (n - 2)).ty.toNat = n - 1 := by unfold trM; dsimp only; omega
      rw [this, List.getD_eq_getElem?_getD, List.getElem?_map, List.getElem?_range (by omega)]
      rfl
    have hc2 : (⟨0, false, bs [71, 77, 84]⟩ : Lc) = tyM m (n - 1) := hc1.trans hk
    unfold tyM at hc2
    simp only [Lc.mk.injEq] at hc2
    omega
end Go.Proofs.YtlaplgaccjmbhaaGreatDoor.Tb
namespace Go.Proofs.YtlaplgaccjmbhaaGreatDoor.Px
open Go.RowKit
open Civ Tb
open Go.Joins Go.ChangeShapes Go.WideShapes Go.Deep
section
variable {H : Type} {enc : TypeId × Value → H} {w : World} {base : Nat} {spare : Nat → Bool} {held : Bool}
theorem slice_nil {t e : TypeId} {fuel : Nat} {v : Value} {x : DataW H × List MemPlace} (ht : Tryz.prog.underlying t = some (.slice e)) (h : DataW.trod enc Tryz.prog w base spare held fuel t [v] = some x) : ∀ n c, v = .slice none n c → c = 0 := by
  intro n c hc
  rcases open_slice ht h with ⟨h0, _⟩ | ⟨a, len, cap, m, k, D, Pl, h0, _⟩
  · simp only [List.cons.injEq, and_true] at h0
    rw [h0] at hc
    simp only [Value.slice.injEq] at hc
    exact hc.2.2.symm
  · simp only [List.cons.injEq, and_true] at h0
    rw [h0] at hc
    simp at hc
set_option maxRecDepth 100000 in
theorem slice_cells {t e : TypeId} {r : Reach} {b0 : Nat} {v : Value} {d : DataW H} {p : List MemPlace} (ht : Tryz.prog.underlying t = some (.slice e)) (hv : Value.okWide Tryz.prog w r b0 t v) (h : DataW.Trod enc Tryz.prog w base spare held t v d p) :
    ∃ fuel, DataW.trod enc Tryz.prog w base spare held fuel t [v] = some (d, p) := by
  obtain ⟨a, len, cap, rfl⟩ := okWide_slice ht hv
  obtain ⟨fuel, hf⟩ := h
  exact ⟨fuel, hf⟩
set_option maxRecDepth 100000 in
theorem open_i64s {r : Reach} {b0 : Nat} {v : Value} {d : DataW H} {p : List MemPlace} (hv : Value.okWide Tryz.prog w r b0 42 v) (h : DataW.Trod enc Tryz.prog w base spare held 42 v d p) :
    ∃ L : List Int, IsV w .i64 v L ∧ ∀ x ∈ L, (Lit.int .i64 x).wf = true := by
  obtain ⟨fuel, hf⟩ := slice_cells Tryz.underlying42 hv h
  exact open_ints Tryz.underlying42 Tryz.underlying2 (by kernel_rfl) hf
set_option maxRecDepth 100000 in
theorem open_lcs_arg {r : Reach} {b0 : Nat} {v : Value} {d : DataW H} {p : List MemPlace} (hv : Value.okWide Tryz.prog w r b0 22 v) (h : DataW.Trod enc Tryz.prog w base spare held 22 v d p) :
    ∃ L : List Lc, LcV w v L ∧ (∀ l ∈ L, Lc.Fit l) ∧ ∀ c, v = .slice none L.length c → c = 0 := by
  obtain ⟨fuel, hf⟩ := slice_cells Tryz.underlying22 hv h
  obtain ⟨L, hL, fL⟩ := open_lcs hf
  exact ⟨L, hL, fL, fun c hc => slice_nil Tryz.underlying22 hf _ c hc⟩
set_option maxRecDepth 100000 in
theorem open_lc {r : Reach} {b0 : Nat} {v : Value} {d : DataW H} {p : List MemPlace} (hv : Value.okWide Tryz.prog w r b0 28 v) (h : DataW.Trod enc Tryz.prog w base spare held 28 v d p) :
    ∃ l : Lc, v = l.val ∧ Lc.Fit l := by
  obtain ⟨v0, v1, v2, y0, y1, y2, n, rfl, _, _, h0, h1, h2⟩ := open_agg3 Tryz.underlying28 (by kernel_rfl) (by kernel_rfl) hv h
  obtain ⟨x0, e0, _, z0⟩ := DataW.trod_int Tryz.underlying2 h0
  obtain ⟨x1, e1, _⟩ := DataW.trod_bool Tryz.underlying4 h1
  obtain ⟨x2, e2, _, z2⟩ := DataW.trod_string Tryz.underlying9 h2
  simp only [List.cons.injEq, and_true] at e0 e1 e2
  subst e0 e1 e2
  exact ⟨⟨x0, x1, x2⟩, rfl, z0, z2⟩
end
end Go.Proofs.YtlaplgaccjmbhaaGreatDoor.Px
namespace Go.Proofs.YtlaplgaccjmbhaaGreatDoor.Px
open Go.RowKit
open Civ Tb
open Go.Joins Go.ChangeShapes Go.WideShapes Go.Deep
section
variable {H : Type} {enc : TypeId × Value → H} {w : World} {base : Nat} {spare : Nat → Bool} {held : Bool}
theorem slice_size {t e : TypeId} {fuel : Nat} {v : Value} {x : DataW H × List MemPlace} {k : IntKind} {L : List Int} (ht : Tryz.prog.underlying t = some (.slice e)) (h : DataW.trod enc Tryz.prog w base spare held fuel t [v] = some x) (hL : IsV w k v L)
    (hz : (DataW.weights Tryz.prog t x.1).all (· ≤ reachBytes) = true) : L.length * Tryz.prog.bytesOf e ≤ reachBytes := by
  obtain ⟨a', c', hv, _, _⟩ := hL.slice
  rcases open_slice ht h with ⟨h0, _⟩ | ⟨a, len, cap, m, n, D, Pl, h0, _, hl, hm, hmm, hx, _⟩
  · simp only [List.cons.injEq, and_true] at h0
    rw [h0] at hv
    simp only [Value.slice.injEq] at hv
    rw [← hv.2.1]
    simp
  · simp only [List.cons.injEq, and_true] at h0
    rw [h0] at hv
    simp only [Value.slice.injEq] at hv
    rw [← hv.2.1]
    have h1 : (len + (m - len)) * Tryz.prog.bytesOf e ∈ DataW.weights Tryz.prog t x.1 := by
      rw [hx]
      simp only [DataW.weights, ht, List.length_map, List.length_range]
      exact List.mem_cons_self ..
    have h2 := List.all_eq_true.1 hz _ h1
    have h3 : (len + (m - len)) * Tryz.prog.bytesOf e ≤ reachBytes := by simpa using h2
    exact Nat.le_trans (Nat.mul_le_mul_right _ (by omega)) h3
set_option maxRecDepth 100000 in
theorem open_d40n {r : Reach} {b0 : Nat} {v : Value} {d : DataW H} {p : List MemPlace} (hv : Value.okWide Tryz.prog w r b0 75 v) (h : DataW.Trod enc Tryz.prog w base spare held 75 v d p)
    (hz : (DataW.weights Tryz.prog 75 d).all (· ≤ reachBytes) = true) :
    ∃ (q : D40) (tv sv nv : Value), v = d40val q tv sv nv ∧ D40V w tv sv nv q ∧ q.In ∧ (∀ c, tv = .slice none q.types.length c → c = 0) ∧ (∀ c, sv = .slice none q.steps.length c → c = 0) ∧ q.types.length * 2 ≤ 140737488351232 ∧ q.steps.length * 4 ≤ 140737488351232 := by
  obtain ⟨q, tv, sv, nv, rfl, hq, hin⟩ := open_d40 hv h
  obtain ⟨fuel, hf⟩ := h
  obtain ⟨xs, n, _, hy, _, hlen, hg⟩ := DataW.trod_struct Tryz.underlying75 hf
  have h16 : Tryz.prog.cellsOf 38 = 1 := by kernel_rfl
  have h32 : Tryz.prog.cellsOf 73 = 1 := by kernel_rfl
  match xs, hlen with
  | [y0, y1, y2, y3, y4, y5], _ =>
    have g0 : DataW.trod enc Tryz.prog w base spare held n 38 ([tv, sv, nv, .int .i32 q.begin_, .int .u8 q.foot, .int .u8 q.base].take (Tryz.prog.cellsOf 38)) = some y0 := hg 0 _ rfl
    have g1 : DataW.trod enc Tryz.prog w base spare held n 73 ([sv, nv, .int .i32 q.begin_, .int .u8 q.foot, .int .u8 q.base].take (Tryz.prog.cellsOf 73)) = some y1 := hg 1 _ rfl
    rw [h16] at g0
    rw [h32] at g1
    simp only [Prod.mk.injEq] at hy
    obtain ⟨rfl, _⟩ := hy
    have hw : ∀ z, z ∈ DataW.weights Tryz.prog 38 y0.1 ∨ z ∈ DataW.weights Tryz.prog 73 y1.1 → z ∈ DataW.weights Tryz.prog 75 (.agg ([y0, y1, y2, y3, y4, y5].map (·.1))) := by
      intro z hz'
      simp only [DataW.weights, Tryz.underlying75]
      show z ∈ DataW.weights Tryz.prog 38 y0.1 ++ (DataW.weights Tryz.prog 73 y1.1 ++ _)
      rcases hz' with hz' | hz'
      · exact List.mem_append_left _ hz'
      · exact List.mem_append_right _ (List.mem_append_left _ hz')
    have z0 : (DataW.weights Tryz.prog 38 y0.1).all (· ≤ reachBytes) = true := List.all_eq_true.2 fun z hz' => List.all_eq_true.1 hz z (hw z (.inl hz'))
    have z1 : (DataW.weights Tryz.prog 73 y1.1).all (· ≤ reachBytes) = true := List.all_eq_true.2 fun z hz' => List.all_eq_true.1 hz z (hw z (.inr hz'))
    have s0 := slice_size Tryz.underlying38 g0 hq.types z0
    have s1 := slice_size Tryz.underlying73 g1 hq.steps z1
    rw [show Tryz.prog.bytesOf 77 = 2 by kernel_rfl] at s0
    rw [show Tryz.prog.bytesOf 55 = 4 by kernel_rfl] at s1
    have hr : reachBytes = 140737488351232 := by kernel_rfl
    rw [hr] at s0 s1
    exact ⟨q, tv, sv, nv, rfl, hq, hin, fun c hc => slice_nil Tryz.underlying38 g0 _ c hc, fun c hc => slice_nil Tryz.underlying73 g1 _ c hc, s0, s1⟩
end
end Go.Proofs.YtlaplgaccjmbhaaGreatDoor.Px

