/- The drafts of rule sets (chapter 17): a number of the draft, a time of day. The drafts of rule sets (chapter 17): the day of a rule. -/
import Derived.Test.YtnffecoohkanhaaDoorYFLdA
import Derived.Test.YtnffecoohkanhaaDoorYFtA
import Derived.Test.YtnffecoohkanhaaDoorM8
import Derived.Test.YtnffecoohkanhaaDoorM7
import Derived.Test.YtnffecoohkanhaaDoorM13
namespace Go.Proofs.YtnffecoohkanhaaDoor.Px
open Go.RowKit
open Lk

/-- a draft in memory: a slice of bytes -/
structure D17 (W : World) (dv : Value) (L : List Nat) : Prop where
  sl : SlV W dv 1 L.length (L.map u8v)
  lt : ∀ b ∈ L, b < 256
theorem D17.keep {W W' : World} {dv : Value} {L : List Nat} (h : D17 W dv L) (hB : Below W.heap.size W W') : D17 W' dv L := ⟨h.sl.keep hB, h.lt⟩
/-- a number of a draft -/
def at17v (L : List Nat) (x m : Int) : Int := if L.length = 0 then 0 else ((L.getD (x.tmod (L.length : Int)).toNat 0 : Nat) : Int).tmod m
theorem at17v_le (L : List Nat) (x m : Int) (hm : 0 < m) : 0 ≤ at17v L x m ∧ at17v L x m < m := by
  unfold at17v
  split
  · omega
  · exact ⟨Int.tmod_nonneg m (by omega), Int.tmod_lt_of_pos _ hm⟩
set_option maxHeartbeats 2000000 in
set_option maxRecDepth 100000 in
theorem at17_any (L : List Nat) (dv : Value) (x m : Int) (W : World) (h : D17 W dv L) (hx0 : 0 ≤ x) (_hx1 : x ≤ 1000) (hm0 : 0 < m) (hm1 : m ≤ 1000) :
    Calls Tryd.prog 62 #[dv, .int .i64 x, .int .i64 m] W fun e w' => e = .returned (.int .i64 (at17v L x m)) ∧ w' = W := by
  obtain ⟨a, c, rfl, hc1, hc2⟩ := h.sl.slA
  have hall := fun h0 => h.sl.allA h0
  have HLt := Lib.hid h.lt
  obtain ⟨n, hn⟩ : ∃ n, L.length = n := ⟨_, rfl⟩
  rw [hn] at hall hc1 ⊢
  unfold maxLen at hc2
  have HN := Lib.hid hn
  have HA := Lib.hid hall
  obtain ⟨rv, hrv⟩ : ∃ r, at17v L x m = r := ⟨_, rfl⟩
  rw [hrv]
  unfold at17v at hrv
  rw [hn] at hrv
  have HRV := Lib.hid hrv
  clear h hall hn hrv
  by_cases h0 : n = 0
  · subst h0
    have hv := Lib.hid (show 0 = rv by rw [← HRV.out, if_pos rfl])
    go_enter Tryd.func62, Tryd.ntmps62
    go_wp2_with fail
    exact bodyPost_ret (v := .int .i64 0) (by simp [results, Tryd.results62, go_sem]) rfl ⟨by rw [← hv.out], rfl⟩
  · obtain ⟨b, o, c', e1, _, _, hb, hcell⟩ := HA.out (by omega)
    simp only [Value.slice.injEq] at e1
    obtain ⟨rfl, _, rfl⟩ := e1
    have hk0 := Int.tmod_nonneg (n : Int) hx0
    have hk1 := Int.tmod_lt_of_pos x (show (0 : Int) < (n : Int) by omega)
    obtain ⟨k, hk⟩ : ∃ k : Nat, x.tmod (n : Int) = (k : Int) := ⟨(x.tmod (n : Int)).toNat, by omega⟩
    rw [hk] at hk0 hk1
    have hkn : k < n := by omega
    obtain ⟨y, hy⟩ : ∃ y, L[k]? = some y := ⟨_, List.getElem?_eq_getElem (by rw [HN.out]; exact hkn)⟩
    have k0 := hcell k (.int .u8 (y : Int)) (by rw [List.getElem?_map, hy]; rfl)
    have hy1 := HLt.out y (List.mem_of_getElem? hy)
    have hr0 := Int.tmod_nonneg m (show (0 : Int) ≤ (y : Int) by omega)
    have hr1 := Int.tmod_lt_of_pos (y : Int) hm0
    obtain ⟨r, hr⟩ : ∃ r : Int, (y : Int).tmod m = r := ⟨_, rfl⟩
    rw [hr] at hr0 hr1
    have hv := Lib.hid (show r = rv by rw [← HRV.out, if_neg h0, hk, ← hr]; simp [List.getD, hy])
    have hn0 : ¬ (n : Int) = 0 := by omega
    have hm00 : ¬ m = 0 := by omega
    have hwk : IntKind.i64.wrap (k : Int) = (k : Int) := IntWalk.i64_in _ (by omega)
    have hwr : IntKind.i64.wrap r = r := IntWalk.i64_in _ (by omega)
    have hwy : IntKind.i64.wrap (y : Int) = (y : Int) := IntWalk.i64_in _ (by omega)
    clear hcell hy
    go_enter Tryd.func62, Tryd.ntmps62
    go_wp2_with fail
    exact bodyPost_ret (v := .int .i64 r) (by simp [results, Tryd.results62, go_sem]) rfl ⟨by rw [← hv.out], rfl⟩
set_option maxHeartbeats 2000000 in
set_option maxRecDepth 100000 in
theorem clock17_any (L : List Nat) (dv : Value) (x : Int) (W : World) (h : D17 W dv L) (hx0 : 0 ≤ x) (hx1 : x ≤ 900) :
    Calls Tryd.prog 63 #[dv, .int .i64 x] W fun e w' => e = .returned (.agg #[.int .i64 (at17v L x 49 * 1800), .int .i64 (at17v L (x + 1) 3)]) ∧ Below W.heap.size W w' := by
  have CA := Lib.hid (fun (y m : Int) (Y : World) (hB : Below W.heap.size W Y) (h0 : 0 ≤ y) (h1 : y ≤ 1000) (h2 : 0 < m) (h3 : m ≤ 1000) => at17_any L dv y m Y (h.keep hB) h0 h1 h2 h3)
  obtain ⟨a, c, rfl, _, _⟩ := h.sl.slA
  obtain ⟨n, hn⟩ : ∃ n, L.length = n := ⟨_, rfl⟩
  rw [hn] at CA ⊢
  have K0 := Lib.hid ((Kp.start W).allocAt W.heap.size rfl (.cells #[.int .i64 0, .int .i64 0] 34))
  obtain ⟨x', hx'⟩ : ∃ y, x + 1 = y := ⟨_, rfl⟩
  have hxw : IntKind.i64.wrap (x + 1) = x' := by rw [hx']; exact IntWalk.i64_in _ (by omega)
  rw [hx']
  have hr := at17v_le L x 49 (by omega)
  obtain ⟨r1, hr1⟩ : ∃ r, at17v L x 49 = r := ⟨_, rfl⟩
  obtain ⟨r2, hr2⟩ : ∃ r, at17v L x' 3 = r := ⟨_, rfl⟩
  rw [hr1] at hr
  rw [hr1, hr2]
  have C1 := Lib.hid (fun (Y : World) (hB : Below W.heap.size W Y) => CA.out x 49 Y hB (by omega) (by omega) (by omega) (by omega))
  have C2 := Lib.hid (fun (Y : World) (hB : Below W.heap.size W Y) => CA.out x' 3 Y hB (by omega) (by omega) (by omega) (by omega))
  rw [hr1] at C1
  rw [hr2] at C2
  clear hr1 hr2 CA
  clear h hn
  go_enter Tryd.func63, Tryd.ntmps63
  obtain ⟨⟨y0, y1⟩, f0, f1⟩ := And.intro (row2 (K0.out.at 0 rfl)) (And.intro (free_at (K0.out.at 0 rfl) 0) (free_at (K0.out.at 0 rfl) 1))
  go_wp2_with fail
  go_at_call 62
  refine (C1.out _ K0.out.below).mono ?_
  rintro e X ⟨rfl, rfl⟩
  have hw := IntWalk.i64_in (r1 * 1800) (by omega)
  go_wp2_with fail
  refine (C2.out _ K0.out.below).mono ?_
  rintro e X ⟨rfl, rfl⟩
  go_wp2_with fail
  have K1 := (Kp.start W).allocAt W.heap.size rfl (.cells #[.int .i64 (r1 * 1800), .int .i64 r2] 34)
  obtain ⟨c0, c1⟩ := row2 (K1.at 0 rfl)
  exact bodyPost_ret (v := .agg #[.int .i64 (r1 * 1800), .int .i64 r2]) (by simp [results, Tryd.results63, go_sem, c0, c1]) rfl ⟨rfl, K1.below⟩
end Go.Proofs.YtnffecoohkanhaaDoor.Px
namespace Go.Proofs.YtnffecoohkanhaaDoor.Px
open Go.RowKit
open Lk

/-- what a slot of a region of a draft holds -/
inductive Kr where
  | eq (v : Value)
  | rng (r m : Int)
  | days (a0 a1 a2 a3 a4 a5 a6 a7 a8 : Int)
  | dptr (p q r : Int)
  | strs (l : List ByteArray)
  | sptr (s : ByteArray)
  | new (N : Nat)
def Kr.S : Kr → World → Value → Prop
  | .eq u, _, v => v = u
  | .rng r m, _, v => v = .int .i64 r ∧ 0 ≤ r ∧ r < m
  | .days a0 a1 a2 a3 a4 a5 a6 a7 a8, w, v => ∃ (b : Nat), v = .slice (some ⟨b, 0, none⟩) 3 3 ∧ w.heap[b]? = some (.cells #[.int .i64 a0, .int .i64 a1, .int .i64 a2, .int .i64 a3, .int .i64 a4, .int .i64 a5, .int .i64 a6, .int .i64 a7, .int .i64 a8] 32 (0, 0))
  | .dptr p q r, w, v => ∃ (b o : Nat), v = .pointer (some ⟨b, o, none⟩) ∧ b < w.heap.size ∧ w.cell? ⟨b, o, none⟩ = some (.int .i64 p) ∧ w.cell? ⟨b, o + 1, none⟩ = some (.int .i64 q) ∧ w.cell? ⟨b, o + 2, none⟩ = some (.int .i64 r)
  | .strs l, w, v => ∃ b : Nat, v = .slice (some ⟨b, 0, none⟩) l.length l.length ∧ w.heap[b]? = some (.cells (l.map Value.string).toArray 9 (0, 0))
  | .sptr s, w, v => ∃ (b o : Nat), v = .pointer (some ⟨b, o, none⟩) ∧ b < w.heap.size ∧ w.cell? ⟨b, o, none⟩ = some (.string s)
  | .new N, w, v => ∃ b, N ≤ b ∧ v = .pointer (some ⟨b, 0, none⟩) ∧ w.heap[b]? = some (.cells #[.string ⟨#[]⟩, .int .i64 0, .int .i64 0, .int .i64 0, .int .i64 0, .int .i64 0, .int .i64 0, .int .i64 0, .int .i64 0, .int .i64 0, .string ⟨#[]⟩] 36 (0, 0))
theorem Kr.keep {w w' : World} (hB : Below w.heap.size w w') : ∀ (k : Kr) (v : Value), k.S w v → k.S w' v
  | .eq _, _, h => h
  | .rng _ _, _, h => h
  | .days _ _ _ _ _ _ _ _ _, _, ⟨b, h, hb⟩ => ⟨b, h, (hB.block b (lt_of_block hb)).trans hb⟩
  | .dptr _ _ _, _, ⟨b, o, h, hb, h0, h1, h2⟩ => ⟨b, o, h, Nat.lt_of_lt_of_le hb hB.size, (hB.cell (p := ⟨b, o, none⟩) hb).trans h0, (hB.cell (p := ⟨b, o + 1, none⟩) hb).trans h1, (hB.cell (p := ⟨b, o + 2, none⟩) hb).trans h2⟩
  | .strs _, _, ⟨b, h, hb⟩ => ⟨b, h, (hB.block b (lt_of_block hb)).trans hb⟩
  | .sptr _, _, ⟨b, o, h, hb, h0⟩ => ⟨b, o, h, Nat.lt_of_lt_of_le hb hB.size, (hB.cell (p := ⟨b, o, none⟩) hb).trans h0⟩
  | .new _, _, ⟨b, hn, h, hb⟩ => ⟨b, hn, h, (hB.block b (lt_of_block hb)).trans hb⟩
def krS (N : Nat) (l : List Kr) (base last : Nat) (d : Nat) (w : World) (v : Value) : Prop := if d = last then Kr.S (.new N) w v else Kr.S (l.getD (d - base) (.eq undef)) w v
theorem krS_keep {N : Nat} {l : List Kr} {base last d : Nat} {w w' : World} {v : Value} (h : krS N l base last d w v) (hB : Below w.heap.size w w') : krS N l base last d w' v := by
  unfold krS at h ⊢
  split
  · rename_i h0; rw [if_pos h0] at h; exact Kr.keep hB _ _ h
  · rename_i h0; rw [if_neg h0] at h; exact Kr.keep hB _ _ h
/-- the day of a rule, by the numbers of a draft -/
def day17 (a k m1 m2 : Int) : Int × Int × Int := if a = 0 then (2, k, 0) else if a = 1 then (3, k, m1) else (1, 0, m2)
def dayX (L : List Nat) (x : Int) : Int × Int × Int := day17 (at17v L (x + 2) 3) (at17v L x 7) (1 + 7 * at17v L (x + 1) 4) (1 + at17v L (x + 1) 28)
set_option maxHeartbeats 4000000 in
set_option maxRecDepth 100000 in
theorem pairDay_any (L : List Nat) (dv : Value) (x : Int) (b : Nat) (W : World) (h : D17 W dv L) (hc : W.cell? ⟨b, 0, none⟩ = some dv) (hx0 : 0 ≤ x) (hx1 : x ≤ 900) :
    Calls Tryd.prog 76 #[.int .i64 x, .pointer (some ⟨b, 0, none⟩)] W fun e w' => e = .returned (.agg #[.int .i64 (dayX L x).1, .int .i64 (dayX L x).2.1, .int .i64 (dayX L x).2.2]) ∧ Below W.heap.size W w' := by
  have hbW : b < W.heap.size := block_lt_of_cell hc
  have hne : ¬ b = W.heap.size := by omega
  have KC0 := Lib.hid (fun (Y : World) (hB : Below W.heap.size W Y) => (hB.cell (p := ⟨b, 0, none⟩) hbW).trans hc)
  have K0 := Lib.hid ((Kp.start W).allocAt W.heap.size rfl (.cells #[.int .i64 0, .int .i64 0, .int .i64 0] 32))
  obtain ⟨p, hp⟩ : ∃ y, (dayX L x).1 = y := ⟨_, rfl⟩
  obtain ⟨q, hq⟩ : ∃ y, (dayX L x).2.1 = y := ⟨_, rfl⟩
  obtain ⟨r, hr⟩ : ∃ y, (dayX L x).2.2 = y := ⟨_, rfl⟩
  rw [hp, hq, hr]
  unfold dayX at hp hq hr
  obtain ⟨x1, hx1'⟩ : ∃ y, x + 1 = y := ⟨_, rfl⟩
  have hxw1 : IntKind.i64.wrap x1 = x1 := IntWalk.i64_in _ (by omega)
  obtain ⟨x2, hx2'⟩ : ∃ y, x + 2 = y := ⟨_, rfl⟩
  have hxw2 : IntKind.i64.wrap x2 = x2 := IntWalk.i64_in _ (by omega)
  rw [hx1', hx2'] at hp hq hr
  have hk := at17v_le L x 7 (by omega)
  have hA4 := at17v_le L x1 4 (by omega)
  have hA28 := at17v_le L x1 28 (by omega)
  have hA3 := at17v_le L x2 3 (by omega)
  obtain ⟨k, hkv⟩ : ∃ y, at17v L x 7 = y := ⟨_, rfl⟩
  obtain ⟨A4, hA4v⟩ : ∃ y, at17v L x1 4 = y := ⟨_, rfl⟩
  obtain ⟨A28, hA28v⟩ : ∃ y, at17v L x1 28 = y := ⟨_, rfl⟩
  obtain ⟨A3, hA3v⟩ : ∃ y, at17v L x2 3 = y := ⟨_, rfl⟩
  rw [hkv] at hk
  rw [hA4v] at hA4
  rw [hA28v] at hA28
  rw [hA3v] at hA3
  rw [hkv, hA4v, hA28v, hA3v] at hp hq hr
  have C7 := Lib.hid (fun (Y : World) (hB : Below W.heap.size W Y) => at17_any L dv x 7 Y (h.keep hB) (by omega) (by omega) (by omega) (by omega))
  rw [hkv] at C7
  have C4 := Lib.hid (fun (Y : World) (hB : Below W.heap.size W Y) => at17_any L dv x1 4 Y (h.keep hB) (by omega) (by omega) (by omega) (by omega))
  rw [hA4v] at C4
  have C28 := Lib.hid (fun (Y : World) (hB : Below W.heap.size W Y) => at17_any L dv x1 28 Y (h.keep hB) (by omega) (by omega) (by omega) (by omega))
  rw [hA28v] at C28
  have C3 := Lib.hid (fun (Y : World) (hB : Below W.heap.size W Y) => at17_any L dv x2 3 Y (h.keep hB) (by omega) (by omega) (by omega) (by omega))
  rw [hA3v] at C3
  clear hkv hA4v hA28v hA3v
  obtain ⟨m7, hm7⟩ : ∃ y, 7 * A4 = y := ⟨_, rfl⟩
  have hm7W : IntKind.i64.wrap m7 = m7 := IntWalk.i64_in _ (by omega)
  obtain ⟨m1, hm1⟩ : ∃ y, 1 + m7 = y := ⟨_, rfl⟩
  have hm1W : IntKind.i64.wrap m1 = m1 := IntWalk.i64_in _ (by omega)
  obtain ⟨m2, hm2⟩ : ∃ y, 1 + A28 = y := ⟨_, rfl⟩
  have hm2W : IntKind.i64.wrap m2 = m2 := IntWalk.i64_in _ (by omega)
  rw [hm7, hm1, hm2] at hp hq hr
  have HPQ := Lib.hid (show (A3 = 0 → 2 = p ∧ k = q ∧ 0 = r) ∧ (A3 = 1 → 3 = p ∧ k = q ∧ m1 = r) ∧ (A3 = 2 → 1 = p ∧ 0 = q ∧ m2 = r) from by
    rw [← hp, ← hq, ← hr]
    refine ⟨fun e => ?_, fun e => ?_, fun e => ?_⟩ <;> (subst e; exact ⟨rfl, rfl, rfl⟩))
  obtain ⟨da, dn, dc, rfl⟩ : ∃ a n c, dv = .slice a n c := by obtain ⟨a, c, e, _, _⟩ := h.sl.slA; exact ⟨_, _, _, e⟩
  clear h hp hq hr
  go_enter Tryd.func76, Tryd.ntmps76
  have k0 := KC0.out _ K0.out.below
  go_wp2_with fail
  go_at_call 62
  refine (C7.out _ K0.out.below).mono ?_
  rintro e X ⟨rfl, rfl⟩
  go_upto_region 2 with fail
  obtain ⟨X, hX⟩ : ∃ X, W.alloc (.cells #[.int .i64 0, .int .i64 0, .int .i64 0] 32) = X := ⟨_, rfl⟩
  rw [hX] at K0 k0
  rw [hX]
  clear hX k0
  have HB1 := Lib.hid K0.out.below
  have KC := Lib.hid (fun (Y : World) (hB : Below X.heap.size X Y) => KC0.out Y (HB1.out.trans (hB.mono HB1.out.size)))
  clear KC0
  refine Py.wp_region_steps_tail 23 (by kernel_rfl) (by kernel_rfl) (by kernel_rfl) (krS 0 [.eq (.int .i64 k), .eq (.agg #[.int .i64 2, .int .i64 k, .int .i64 0]), .eq (.int .i64 k), .eq (.slice da dn dc), .eq (.int .i64 x), .eq (.int .i64 x1), .eq (.int .i64 A4), .eq (.int .i64 m7), .eq (.int .i64 m1), .eq (.agg #[.int .i64 3, .int .i64 k, .int .i64 m1]), .eq (.slice da dn dc), .eq (.int .i64 x), .eq (.int .i64 x1), .eq (.int .i64 A28), .eq (.int .i64 m2), .eq (.agg #[.int .i64 1, .int .i64 0, .int .i64 m2]), .days 2 k 0 3 k m1 1 0 m2, .eq (.slice da dn dc), .eq (.int .i64 x), .eq (.int .i64 x2), .eq (.int .i64 A3), .dptr p q r, .eq (.agg #[.int .i64 p, .int .i64 q, .int .i64 r])] 8 99) (by kernel_rfl) (fun d w w' v h hB => krS_keep h hB) ?steps ?hend
  case steps =>
      refine Py.steps_cons 8 rfl ?_ ?_
      · intro T D' w hB0 hold hdep K hK0
        have hK := Lib.hid hK0
        have h4 : T[4]?.getD undef = .int .i64 k := hold 4 rfl
        clear hold hdep hK0
        go_simp
        exact hK.out _ _ (Below.refl _ _) rfl
      refine Py.steps_cons 9 rfl ?_ ?_
      · intro T D' w hB0 hold hdep K hK0
        have hK := Lib.hid hK0
        have q8 : T[8]?.getD undef = .int .i64 k := Py.dep hdep 0 (by kernel_rfl) rfl rfl
        clear hold hdep hK0
        go_simp
        exact hK.out _ _ (Below.refl _ _) rfl
      refine Py.steps_cons 10 rfl ?_ ?_
      · intro T D' w hB0 hold hdep K hK0
        have hK := Lib.hid hK0
        have h4 : T[4]?.getD undef = .int .i64 k := hold 4 rfl
        clear hold hdep hK0
        go_simp
        exact hK.out _ _ (Below.refl _ _) rfl
      refine Py.steps_cons 11 rfl ?_ ?_
      · intro T D' w hB0 hold hdep K hK0
        have hK := Lib.hid hK0
        have h1 : T[1]?.getD undef = .pointer (some ⟨b, 0, none⟩) := hold 1 rfl
        clear hold hdep hK0
        have c0 := KC.out _ hB0
        go_simp
        exact hK.out _ _ (Below.refl _ _) rfl
      refine Py.steps_cons 12 rfl ?_ ?_
      · intro T D' w hB0 hold hdep K hK0
        have hK := Lib.hid hK0
        have h0 : T[0]?.getD undef = .int .i64 x := hold 0 rfl
        clear hold hdep hK0
        go_simp
        exact hK.out _ _ (Below.refl _ _) rfl
      refine Py.steps_cons 13 rfl ?_ ?_
      · intro T D' w hB0 hold hdep K hK0
        have hK := Lib.hid hK0
        have q12 : T[12]?.getD undef = .int .i64 x := Py.dep hdep 4 (by kernel_rfl) rfl rfl
        clear hold hdep hK0
        go_simp
        exact hK.out _ _ (Below.refl _ _) rfl
      refine Py.steps_cons 14 rfl ?_ ?_
      · intro T D' w hB0 hold hdep K hK0
        have hK := Lib.hid hK0
        have q11 : T[11]?.getD undef = .slice da dn dc := Py.dep hdep 3 (by kernel_rfl) rfl rfl
        have q13 : T[13]?.getD undef = .int .i64 x1 := Py.dep hdep 5 (by kernel_rfl) rfl rfl
        clear hold hdep hK0
        go_simp
        refine (C4.out w (HB1.out.trans (hB0.mono HB1.out.size))).mono ?_
        rintro _ V ⟨rfl, rfl⟩
        exact hK.out _ _ (Below.refl _ _) rfl
      refine Py.steps_cons 15 rfl ?_ ?_
      · intro T D' w hB0 hold hdep K hK0
        have hK := Lib.hid hK0
        have q14 : T[14]?.getD undef = .int .i64 A4 := Py.dep hdep 6 (by kernel_rfl) rfl rfl
        clear hold hdep hK0
        go_simp
        exact hK.out _ _ (Below.refl _ _) rfl
      refine Py.steps_cons 16 rfl ?_ ?_
      · intro T D' w hB0 hold hdep K hK0
        have hK := Lib.hid hK0
        have q15 : T[15]?.getD undef = .int .i64 m7 := Py.dep hdep 7 (by kernel_rfl) rfl rfl
        clear hold hdep hK0
        go_simp
        exact hK.out _ _ (Below.refl _ _) rfl
      refine Py.steps_cons 17 rfl ?_ ?_
      · intro T D' w hB0 hold hdep K hK0
        have hK := Lib.hid hK0
        have q10 : T[10]?.getD undef = .int .i64 k := Py.dep hdep 2 (by kernel_rfl) rfl rfl
        have q16 : T[16]?.getD undef = .int .i64 m1 := Py.dep hdep 8 (by kernel_rfl) rfl rfl
        clear hold hdep hK0
        go_simp
        exact hK.out _ _ (Below.refl _ _) rfl
      refine Py.steps_cons 18 rfl ?_ ?_
      · intro T D' w hB0 hold hdep K hK0
        have hK := Lib.hid hK0
        have h1 : T[1]?.getD undef = .pointer (some ⟨b, 0, none⟩) := hold 1 rfl
        clear hold hdep hK0
        have c0 := KC.out _ hB0
        go_simp
        exact hK.out _ _ (Below.refl _ _) rfl
      refine Py.steps_cons 19 rfl ?_ ?_
      · intro T D' w hB0 hold hdep K hK0
        have hK := Lib.hid hK0
        have h0 : T[0]?.getD undef = .int .i64 x := hold 0 rfl
        clear hold hdep hK0
        go_simp
        exact hK.out _ _ (Below.refl _ _) rfl
      refine Py.steps_cons 20 rfl ?_ ?_
      · intro T D' w hB0 hold hdep K hK0
        have hK := Lib.hid hK0
        have q19 : T[19]?.getD undef = .int .i64 x := Py.dep hdep 11 (by kernel_rfl) rfl rfl
        clear hold hdep hK0
        go_simp
        exact hK.out _ _ (Below.refl _ _) rfl
      refine Py.steps_cons 21 rfl ?_ ?_
      · intro T D' w hB0 hold hdep K hK0
        have hK := Lib.hid hK0
        have q18 : T[18]?.getD undef = .slice da dn dc := Py.dep hdep 10 (by kernel_rfl) rfl rfl
        have q20 : T[20]?.getD undef = .int .i64 x1 := Py.dep hdep 12 (by kernel_rfl) rfl rfl
        clear hold hdep hK0
        go_simp
        refine (C28.out w (HB1.out.trans (hB0.mono HB1.out.size))).mono ?_
        rintro _ V ⟨rfl, rfl⟩
        exact hK.out _ _ (Below.refl _ _) rfl
      refine Py.steps_cons 22 rfl ?_ ?_
      · intro T D' w hB0 hold hdep K hK0
        have hK := Lib.hid hK0
        have q21 : T[21]?.getD undef = .int .i64 A28 := Py.dep hdep 13 (by kernel_rfl) rfl rfl
        clear hold hdep hK0
        go_simp
        exact hK.out _ _ (Below.refl _ _) rfl
      refine Py.steps_cons 23 rfl ?_ ?_
      · intro T D' w hB0 hold hdep K hK0
        have hK := Lib.hid hK0
        have q22 : T[22]?.getD undef = .int .i64 m2 := Py.dep hdep 14 (by kernel_rfl) rfl rfl
        clear hold hdep hK0
        go_simp
        exact hK.out _ _ (Below.refl _ _) rfl
      refine Py.steps_cons 24 rfl ?_ ?_
      · intro T D' w hB0 hold hdep K hK0
        have hK := Lib.hid hK0
        have q9 : T[9]?.getD undef = .agg #[.int .i64 2, .int .i64 k, .int .i64 0] := Py.dep hdep 1 (by kernel_rfl) rfl rfl
        have q17 : T[17]?.getD undef = .agg #[.int .i64 3, .int .i64 k, .int .i64 m1] := Py.dep hdep 9 (by kernel_rfl) rfl rfl
        have q23 : T[23]?.getD undef = .agg #[.int .i64 1, .int .i64 0, .int .i64 m2] := Py.dep hdep 15 (by kernel_rfl) rfl rfl
        clear hold hdep hK0
        go_simp
        exact hK.out _ _ ((Below.refl _ w).alloc (Nat.le_refl _) _) ⟨_, rfl, ((Kp.start w).alloc _).at 0 rfl⟩
      refine Py.steps_cons 25 rfl ?_ ?_
      · intro T D' w hB0 hold hdep K hK0
        have hK := Lib.hid hK0
        have h1 : T[1]?.getD undef = .pointer (some ⟨b, 0, none⟩) := hold 1 rfl
        clear hold hdep hK0
        have c0 := KC.out _ hB0
        go_simp
        exact hK.out _ _ (Below.refl _ _) rfl
      refine Py.steps_cons 26 rfl ?_ ?_
      · intro T D' w hB0 hold hdep K hK0
        have hK := Lib.hid hK0
        have h0 : T[0]?.getD undef = .int .i64 x := hold 0 rfl
        clear hold hdep hK0
        go_simp
        exact hK.out _ _ (Below.refl _ _) rfl
      refine Py.steps_cons 27 rfl ?_ ?_
      · intro T D' w hB0 hold hdep K hK0
        have hK := Lib.hid hK0
        have q26 : T[26]?.getD undef = .int .i64 x := Py.dep hdep 18 (by kernel_rfl) rfl rfl
        clear hold hdep hK0
        go_simp
        exact hK.out _ _ (Below.refl _ _) rfl
      refine Py.steps_cons 28 rfl ?_ ?_
      · intro T D' w hB0 hold hdep K hK0
        have hK := Lib.hid hK0
        have q25 : T[25]?.getD undef = .slice da dn dc := Py.dep hdep 17 (by kernel_rfl) rfl rfl
        have q27 : T[27]?.getD undef = .int .i64 x2 := Py.dep hdep 19 (by kernel_rfl) rfl rfl
        clear hold hdep hK0
        go_simp
        refine (C3.out w (HB1.out.trans (hB0.mono HB1.out.size))).mono ?_
        rintro _ V ⟨rfl, rfl⟩
        exact hK.out _ _ (Below.refl _ _) rfl
      refine Py.steps_cons 29 rfl ?_ ?_
      · intro T D' w hB0 hold hdep K hK0
        have hK := Lib.hid hK0
        have q24 : Kr.S (.days 2 k 0 3 k m1 1 0 m2) w (T[24]?.getD undef) := Py.dep hdep 16 (by kernel_rfl) rfl rfl
        have q28 : T[28]?.getD undef = .int .i64 A3 := Py.dep hdep 20 (by kernel_rfl) rfl rfl
        clear hold hdep hK0
        obtain ⟨bd, e24, hb⟩ := q24
        have hlt := lt_of_block hb
        have HC := fun i => cells_at hb i
        have r3 : A3 = 0 ∨ A3 = 1 ∨ A3 = 2 := by omega
        rcases r3 with rfl | rfl | rfl
        · obtain ⟨ep, eq, er⟩ := HPQ.out.1 rfl; subst ep eq er; go_simp; exact hK.out _ _ (Below.refl _ _) ⟨bd, 0, rfl, hlt, HC 0, HC 1, HC 2⟩
        · obtain ⟨ep, eq, er⟩ := HPQ.out.2.1 rfl; subst ep eq er; go_simp; exact hK.out _ _ (Below.refl _ _) ⟨bd, 3, rfl, hlt, HC 3, HC 4, HC 5⟩
        · obtain ⟨ep, eq, er⟩ := HPQ.out.2.2 rfl; subst ep eq er; go_simp; exact hK.out _ _ (Below.refl _ _) ⟨bd, 6, rfl, hlt, HC 6, HC 7, HC 8⟩
      refine Py.steps_cons 30 rfl ?_ ?_
      · intro T D' w hB0 hold hdep K hK0
        have hK := Lib.hid hK0
        have q29 : Kr.S (.dptr p q r) w (T[29]?.getD undef) := Py.dep hdep 21 (by kernel_rfl) rfl rfl
        clear hold hdep hK0
        obtain ⟨bd, o, e29, hlt, c0, c1, c2⟩ := q29
        go_simp
        exact hK.out _ _ (Below.refl _ _) rfl
      exact Py.steps_nil
  case hend =>
    intro T w hsz hB0 hold hS
    have e3 : T[3]?.getD undef = .pointer (some ⟨W.heap.size, 0, none⟩) := hold 3 rfl
    have e30 : T[30]?.getD undef = .agg #[.int .i64 p, .int .i64 q, .int .i64 r] := hS 30 (by rfl)
    have K9 := Lib.hid (K0.out.keep hB0)
    obtain ⟨G, hG⟩ : ∃ G : Nat → Value, ∀ t, T[t]?.getD undef = G t := ⟨_, fun _ => rfl⟩
    have e := Py.tmps_lit T 31 hsz
    simp only [hG] at e
    have e' : T = #[G 0, G 1, G 2, G 3, G 4, G 5, G 6, G 7, G 8, G 9, G 10, G 11, G 12, G 13, G 14, G 15, G 16, G 17, G 18, G 19, G 20, G 21, G 22, G 23, G 24, G 25, G 26, G 27, G 28, G 29, G 30] := e.trans rfl
    rw [hG] at e3 e30
    clear hold hS e hG hsz hB0
    rw [e', e3, e30]
    clear e' e3 e30
    simp only [List.drop_succ_cons, List.drop_zero, Py.TailWp]
    obtain ⟨⟨y0, y1, y2⟩, f0, f1, f2⟩ := row3 (K9.out.at 0 rfl)
    have KF := Lib.hid (((K9.out.set 0 rfl 0 (.int .i64 p) rfl).set 0 rfl 1 (.int .i64 q) rfl).set 0 rfl 2 (.int .i64 r) rfl)
    obtain ⟨⟨z0, z1, z2⟩, _⟩ := row3 (KF.out.at 0 rfl)
    go_wp2_with fail
    exact bodyPost_ret (v := .agg #[.int .i64 p, .int .i64 q, .int .i64 r]) (by simp [results, Tryd.results76, go_sem, z0, z1, z2]) rfl ⟨rfl, KF.out.below⟩
end Go.Proofs.YtnffecoohkanhaaDoor.Px
