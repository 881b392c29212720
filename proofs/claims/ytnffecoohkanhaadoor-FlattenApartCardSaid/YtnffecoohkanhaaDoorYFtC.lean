/- The comparisons of flatten.sorted: by the names of zones, and of links. -/
import Derived.Test.YtnffecoohkanhaaDoorM21
import Derived.Test.YtnffecoohkanhaaDoorM5
import Derived.Deep.RegionHeld3
import Derived.Laws.EntriesVeiled
import Derived.Sort.Walk0
namespace Go.Proofs.YtnffecoohkanhaaDoor.Px
open Go.RowKit
open Go.Maps (Keyed)
open Lk
open Go.Sort

theorem less_of {x y : List UInt8} {s t : ByteArray} (hx : bs x = s) (hy : bs y = t) : Op.bytesLess s.toList t.toList = decide (x < y) := by
  subst hx hy
  rw [ByteArray.toList_eq, ByteArray.toList_eq]
  exact bytesLess_eq x y
/-- which of two names is less -/
def cmpN (x y : List UInt8) : Int := if x < y then -1 else if y < x then 1 else 0
theorem cmpN_neg (x y : List UInt8) : cmpN x y < 0 ↔ x < y := by
  unfold cmpN
  split
  · next h => exact ⟨fun _ => h, fun _ => by decide⟩
  · next h =>
    split
    · exact ⟨fun q => absurd q (by decide), fun q => absurd q h⟩
    · exact ⟨fun q => absurd q (by decide), fun q => absurd q h⟩
theorem nan_no (s : ByteArray) (W : World) : Calls Tryd.prog 74 #[.string s] W fun e w' => e = .returned (.bool false) ∧ w' = W := by
  have hq : (s.toList == s.toList) = true := by simp
  go_enter Tryd.func74, Tryd.ntmps74
  go_wp2_with fail
  exact bodyPost_ret (v := .bool false) (by simp [results, Tryd.results74, go_sem]) rfl ⟨rfl, rfl⟩
theorem compare_str {x y : List UInt8} {s t : ByteArray} (hx : bs x = s) (hy : bs y = t) (W : World) : Calls Tryd.prog 59 #[.string s, .string t] W fun e w' => e = .returned (.int .i64 (cmpN x y)) ∧ w' = W := by
  have h1 := less_of hx hy
  have h2 := less_of hy hx
  obtain ⟨r, hr⟩ : ∃ r, cmpN x y = r := ⟨_, rfl⟩
  have HR := Lib.hid hr
  rw [hr]
  have hx' := hx
  have hy' := hy
  clear hr hx hy
  by_cases hxy : x < y
  · have hv := Lib.hid (show (-1 : Int) = r by rw [← HR.out]; unfold cmpN; rw [if_pos hxy])
    rw [decide_eq_true hxy] at h1
    clear h2 hxy hx' hy'
    go_enter Tryd.func59, Tryd.ntmps59
    go_wp2_with (first | (go_at_call 74; refine (nan_no _ _).mono ?_; rintro e X ⟨rfl, rfl⟩))
    exact bodyPost_ret (v := .int .i64 (-1)) (by simp [results, Tryd.results59, go_sem]) rfl ⟨by rw [hv.out], rfl⟩
  · rw [decide_eq_false hxy] at h1
    by_cases hyx : y < x
    · have hv := Lib.hid (show (1 : Int) = r by rw [← HR.out]; unfold cmpN; rw [if_neg hxy, if_pos hyx])
      have hq : (s.toList == t.toList) = false := by
        rw [beq_eq_false_iff_ne]
        intro e
        rw [bs_inj ((hx'.trans (ba_eq e)).trans hy'.symm)] at hyx
        exact Std.lt_irrefl hyx
      rw [decide_eq_true hyx] at h2
      try clear hxe
      clear hxy hyx hx' hy'
      go_enter Tryd.func59, Tryd.ntmps59
      go_wp2_with (first | (go_at_call 74; refine (nan_no _ _).mono ?_; rintro e X ⟨rfl, rfl⟩))
      exact bodyPost_ret (v := .int .i64 1) (by simp [results, Tryd.results59, go_sem]) rfl ⟨by rw [hv.out], rfl⟩
    · have hv := Lib.hid (show (0 : Int) = r by rw [← HR.out]; unfold cmpN; rw [if_neg hxy, if_neg hyx])
      have hxe : x = y := Classical.byContradiction fun hne => hxy (lt_of (List.not_lt.1 hyx) hne)
      have hq : (s.toList == t.toList) = true := by
        rw [← hx', ← hy', hxe]
        simp
      rw [decide_eq_false hyx] at h2
      try clear hxe
      clear hxy hyx hx' hy'
      go_enter Tryd.func59, Tryd.ntmps59
      go_wp2_with (first | (go_at_call 74; refine (nan_no _ _).mono ?_; rintro e X ⟨rfl, rfl⟩))
      exact bodyPost_ret (v := .int .i64 0) (by simp [results, Tryd.results59, go_sem]) rfl ⟨by rw [hv.out], rfl⟩
theorem cell_al {w : World} {o : Obj} {p : Addr} {v : Value} (h : w.cell? p = some v) : (w.alloc o).cell? p = some v := by
  have hb : p.block < w.heap.size := by
    obtain ⟨b, f, s⟩ := p
    have hs : s = none := World.cell?_spot h
    subst hs
    exact block_lt_of_cell h
  exact (((Below.refl w.heap.size w).alloc (Nat.le_refl _) o).cell hb).trans h
theorem grow4 (W : World) (o1 o2 o3 o4 : Obj) : ∃ q os', ((((W.alloc o1).alloc o2).drew).alloc o3).alloc o4 = grow (W.drewN q) os' := by
  refine ⟨1, #[o1, o2, o3, o4], ?_⟩
  simp only [alloc_eq_grow, grow_grow, drew_grow]
  rfl
set_option maxRecDepth 100000 in
theorem zone_name (s0 : ByteArray) (a0 : Option Addr) (n0 c0 : Nat) (W : World) : Calls Tryd.prog 39 #[.agg #[.string s0, .slice a0 n0 c0]] W fun e w' => e = .returned (.string s0) ∧ w' = W.alloc (.cells #[.string s0, .slice a0 n0 c0] 40) := by
  go_enter Tryd.func39, Tryd.ntmps39
  go_wp2_with fail
  exact bodyPost_ret (v := .string s0) (by simp [results, Tryd.results39, go_sem]) rfl ⟨rfl, rfl⟩
set_option maxHeartbeats 4000000 in
set_option maxRecDepth 100000 in
theorem zone_cmp (s0 : ByteArray) (a0 : Option Addr) (n0 c0 : Nat) (s1 : ByteArray) (a1 : Option Addr) (n1 c1 : Nat) (x y : List UInt8) (hx : bs x = s0) (hy : bs y = s1) (b : Nat) (W : World) (hc : W.cell? ⟨b, 0, none⟩ = some (.func (.func 39) #[] #[])) :
    Calls Tryd.prog 58 #[.agg #[.string s0, .slice a0 n0 c0], .agg #[.string s1, .slice a1 n1 c1], .pointer (some ⟨b, 0, none⟩)] W fun e w' => e = .returned (.int .i64 (cmpN x y)) ∧ ∃ q os', w' = grow (W.drewN q) os' := by
  have hent : ∀ args w, (callFunc 39 args).run Tryd.prog w = .ok (.enter 39 args) w := enters_of Tryd.func39 (by kernel_rfl) rfl
  have hb : b < W.heap.size := block_lt_of_cell hc
  have hne1 : ¬ b = W.heap.size := by omega
  have hne2 : ¬ b = W.heap.size + 1 := by omega
  have CC := Lib.hid (fun (Y : World) => compare_str hx hy Y)
  have KB := Lib.hid (((Kp.start W).allocAt W.heap.size rfl (.cells #[.string s0, .slice a0 n0 c0] 40)).allocAt (W.heap.size + 1) (by simp) (.cells #[.string s1, .slice a1 n1 c1] 40)).drew
  obtain ⟨x0, x1⟩ := row2 (KB.out.at 1 rfl)
  obtain ⟨y0, y1⟩ := row2 (KB.out.at 0 rfl)
  have hc2 := (KB.out.below.cell (p := ⟨b, 0, none⟩) hb).trans hc
  obtain ⟨r, hr⟩ : ∃ r, cmpN x y = r := ⟨_, rfl⟩
  rw [hr] at CC ⊢
  clear hr hx hy
  go_enter Tryd.func58, Tryd.ntmps58
  go_upto_region 1 with fail
  go_region_held3 (fun w' => w'.cell? ⟨W.heap.size, 0, none⟩ = some (.string s0) ∧ w'.cell? ⟨W.heap.size, 1, none⟩ = some (.slice a0 n0 c0) ∧ w'.cell? ⟨W.heap.size + 1, 0, none⟩ = some (.string s1) ∧ w'.cell? ⟨W.heap.size + 1, 1, none⟩ = some (.slice a1 n1 c1) ∧ w'.cell? ⟨b, 0, none⟩ = some (.func (.func 39) #[] #[]))
    (first | exact ⟨x0, x1, y0, y1, hc2⟩ | (go_split_ands; exact ⟨cell_al (by assumption), cell_al (by assumption), cell_al (by assumption), cell_al (by assumption), cell_al (by assumption)⟩) | (go_split_ands; exact ⟨by assumption, by assumption, by assumption, by assumption, by assumption⟩))
    (first
    | (go_at_call_of 39 s0; refine (zone_name s0 a0 n0 c0 _).mono ?_; rintro e X ⟨rfl, rfl⟩)
    | (go_at_call 39; refine (zone_name s1 a1 n1 c1 _).mono ?_; rintro e X ⟨rfl, rfl⟩)
    | (go_at_call 59; refine (CC.out _).mono ?_; rintro e X ⟨rfl, rfl⟩))
  all_goals
    go_wp2_with fail
    exact bodyPost_ret (v := .int .i64 r) (by simp [results, Tryd.results58, go_sem]) rfl ⟨rfl, grow4 _ _ _ _ _⟩
set_option maxRecDepth 100000 in
theorem link_name (t0 s0 : ByteArray) (W : World) : Calls Tryd.prog 41 #[.agg #[.string t0, .string s0]] W fun e w' => e = .returned (.string s0) ∧ w' = W.alloc (.cells #[.string t0, .string s0] 43) := by
  go_enter Tryd.func41, Tryd.ntmps41
  go_wp2_with fail
  exact bodyPost_ret (v := .string s0) (by simp [results, Tryd.results41, go_sem]) rfl ⟨rfl, rfl⟩
set_option maxHeartbeats 4000000 in
set_option maxRecDepth 100000 in
theorem link_cmp (t0 s0 : ByteArray) (t1 s1 : ByteArray) (x y : List UInt8) (hx : bs x = s0) (hy : bs y = s1) (b : Nat) (W : World) (hc : W.cell? ⟨b, 0, none⟩ = some (.func (.func 41) #[] #[])) :
    Calls Tryd.prog 61 #[.agg #[.string t0, .string s0], .agg #[.string t1, .string s1], .pointer (some ⟨b, 0, none⟩)] W fun e w' => e = .returned (.int .i64 (cmpN x y)) ∧ ∃ q os', w' = grow (W.drewN q) os' := by
  have hent : ∀ args w, (callFunc 41 args).run Tryd.prog w = .ok (.enter 41 args) w := enters_of Tryd.func41 (by kernel_rfl) rfl
  have hb : b < W.heap.size := block_lt_of_cell hc
  have hne1 : ¬ b = W.heap.size := by omega
  have hne2 : ¬ b = W.heap.size + 1 := by omega
  have CC := Lib.hid (fun (Y : World) => compare_str hx hy Y)
  have KB := Lib.hid (((Kp.start W).allocAt W.heap.size rfl (.cells #[.string t0, .string s0] 43)).allocAt (W.heap.size + 1) (by simp) (.cells #[.string t1, .string s1] 43)).drew
  obtain ⟨x0, x1⟩ := row2 (KB.out.at 1 rfl)
  obtain ⟨y0, y1⟩ := row2 (KB.out.at 0 rfl)
  have hc2 := (KB.out.below.cell (p := ⟨b, 0, none⟩) hb).trans hc
  obtain ⟨r, hr⟩ : ∃ r, cmpN x y = r := ⟨_, rfl⟩
  rw [hr] at CC ⊢
  clear hr hx hy
  go_enter Tryd.func61, Tryd.ntmps61
  go_upto_region 1 with fail
  go_region_held3 (fun w' => w'.cell? ⟨W.heap.size, 0, none⟩ = some (.string t0) ∧ w'.cell? ⟨W.heap.size, 1, none⟩ = some (.string s0) ∧ w'.cell? ⟨W.heap.size + 1, 0, none⟩ = some (.string t1) ∧ w'.cell? ⟨W.heap.size + 1, 1, none⟩ = some (.string s1) ∧ w'.cell? ⟨b, 0, none⟩ = some (.func (.func 41) #[] #[]))
    (first | exact ⟨x0, x1, y0, y1, hc2⟩ | (go_split_ands; exact ⟨cell_al (by assumption), cell_al (by assumption), cell_al (by assumption), cell_al (by assumption), cell_al (by assumption)⟩) | (go_split_ands; exact ⟨by assumption, by assumption, by assumption, by assumption, by assumption⟩))
    (first
    | (go_at_call_of 41 s0; refine (link_name t0 s0 _).mono ?_; rintro e X ⟨rfl, rfl⟩)
    | (go_at_call 41; refine (link_name t1 s1 _).mono ?_; rintro e X ⟨rfl, rfl⟩)
    | (go_at_call 59; refine (CC.out _).mono ?_; rintro e X ⟨rfl, rfl⟩))
  all_goals
    go_wp2_with fail
    exact bodyPost_ret (v := .int .i64 r) (by simp [results, Tryd.results61, go_sem]) rfl ⟨rfl, grow4 _ _ _ _ _⟩
end Go.Proofs.YtnffecoohkanhaaDoor.Px
