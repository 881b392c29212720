import Derived.Test.YticmkjcaekhgpaaDoorNames
import Derived.Outline
import Derived.BigRegion
namespace Go.Proofs.YticmkjcaekhgpaaDoor
open Go.RowKit

/-- the world behind a call of name.of -/
noncomputable def ofW (w : World) (l m k : Int) : World :=
  (((((w.alloc (.cells #[.int .i64 l] 3)).alloc (.cells #[.int .i64 m] 3)).alloc (.cells #[.int .u8 k] 5)).alloc (.cells kFin 80)).alloc (.cells kFin 80)).alloc (.cells kFin 80)
theorem ofW_size (w : World) (l m k : Int) : (ofW w l m k).heap.size = w.heap.size + 6 := by simp [ofW]
theorem ofW_below (w : World) (l m k : Int) : Below w.heap.size w (ofW w l m k) :=
  (((((((Below.refl _ w).alloc (Nat.le_refl _) _).alloc (by simp) _).alloc (by simp; omega) _).alloc (by simp; omega) _).alloc (by simp; omega) _).alloc (by simp; omega) _)
theorem of_exact (l m k : Int) (w : World) :
    Calls Tryd.prog 38 #[.int .i64 l, .int .i64 m, .int .u8 k] w fun e w' =>
      e = .returned (.func (.func 56) #[] #[.pointer (some ⟨w.heap.size, 0, none⟩), .pointer (some ⟨w.heap.size + 1, 0, none⟩), .pointer (some ⟨w.heap.size + 5, 0, none⟩), .pointer (some ⟨w.heap.size + 2, 0, none⟩)]) ∧ ofW w l m k = w' := by
  have hki := kinfo
  have hone := kFin_one
  have hsz : Tryd.zeroCells80.size = kFin.size := by rw [kFin_size]; kernel_rfl
  have Hsz := Lib.hid hsz
  clear hsz
  go_enter Tryd.func38, Tryd.ntmps38
  go_wp2_with (first | (go_at_call 55; refine (kinds_any _).mono ?_; rintro e w' ⟨rfl, rfl⟩) | (refine wpList_store_row rfl 80 _ _ rfl _ _ rfl rfl 80 Tryd.zeroCells80 ?hg2 ?hi2 ?hold ?h1 ?_; (case hg2 => exact heap_alloc_at (by simp)); (case hi2 => exact hki); (case hold => exact Hsz.out); (case h1 => exact hone)))
  rw [setRow_at (by simp)]
  go_ret
  exact ⟨rfl, rfl⟩
theorem closure_ofW (b : Bool) (l m k : Int) (p : Nat → Bool) (hp : ∀ n, (bits BinOp.and IntKind.u8 (kindOf n) k == 0) = !(p n)) (s : ByteArray) (hs : s.size ≤ maxLen) (w : World)
    (n : Nat) (hn : n = w.heap.size) (hb : ofOk l m p s.data.toList = b) :
    Calls Tryd.prog 56 #[.string s, .pointer (some ⟨n, 0, none⟩), .pointer (some ⟨n + 1, 0, none⟩), .pointer (some ⟨n + 5, 0, none⟩), .pointer (some ⟨n + 2, 0, none⟩)] (ofW w l m k) fun e w' =>
      e = .returned (.bool b) ∧ ∃ j, (ofW w l m k).drewN j = w' := by
  subst hn
  refine closure_is b l m k p hp s hs _ _ _ _ (ofW w l m k) ?_ ?_ ?_ ?_ hb
  · unfold ofW; go_simp
  · unfold ofW; go_simp
  · intro i hi
    unfold ofW
    rw [World.cell?_alloc_at _ _ _ _ (by simp)]
    exact kFin_at i hi
  · unfold ofW; go_simp

theorem set_ok {s : ByteArray} (hpos : 0 < s.size) : ofOk 1 1 letB (s.extract 0 1).data.toList = letB s[0].toNat := by
  have e : (s.extract 0 1).data.toList = [s[0]] := by
    have := ext_snoc s 0 0 (Nat.le_refl _) hpos
    rw [this, ext_list]
    simp
  rw [e]
  unfold ofOk
  cases h : letB s[0].toNat <;> simp [h]

theorem of_drew {B : Nat} {w V : World} (h : Below B w.drew V) : Below B w V := ⟨h.os, h.tape, h.output, h.size, h.block⟩
set_option maxHeartbeats 1000000 in
theorem set15 (s : ByteArray) (hs : s.size ≤ maxLen) (w : World) :
    Calls Tryd.prog 15 #[.string s] w fun e w' => e = .returned (.bool (setOk s.data.toList)) ∧ Below w.heap.size w w' := by
  cases hA : ofOk 1 30 setP s.data.toList
  · have hv : setOk s.data.toList = false := by unfold setOk; rw [hA]; rfl
    have HA := Lib.hid hA
    have HV := Lib.hid hv
    clear hA hv
    go_enter Tryd.func15, Tryd.ntmps15
    go_wp2_with fail
    refine wp_region_any (by kernel_rfl) ?_
    change wpAny _ _ _ _ _ _ _ (World.drew _)
    refine wpAny_take (i := 1) (v := ?_) rfl (by kernel_rfl) (by kernel_rfl) (by kernel_rfl) (fun _ _ _ h => h) (Or.inl ⟨rfl, ?_⟩) ?_
    rotate_left
    · intro w; go_simp; try with_reducible rfl
    refine wpAny_ready (rs := [0]) (by kernel_rfl) (by simp) (AllReady.cons rfl (fun K hK => ?_) AllReady.nil)
    go_simp
    refine (of_exact _ _ _ _).mono ?_; rintro e w' ⟨rfl, rfl⟩
    go_simp
    (refine hK _ _ ?_; clear hK K)
    refine wpAny_ready (rs := [2]) (by kernel_rfl) (by simp) (AllReady.cons rfl (fun K hK => ?_) AllReady.nil)
    go_simp
    refine (closure_ofW false 1 30 15 setP kind15 s hs _ _ ?hn HA.out).mono ?_; (case hn => first | rfl | simp [ofW_size]); rintro e w' ⟨rfl, nn, rfl⟩
    go_simp
    (refine hK _ _ ?_; clear hK K)
    refine wpAny_take (i := 3) (v := ?_) rfl (by kernel_rfl) (by kernel_rfl) (by kernel_rfl) (fun _ _ _ h => h) (Or.inl ⟨rfl, ?_⟩) ?_
    rotate_left
    · intro w; go_simp; try with_reducible rfl
    refine wpAny_take (i := 5) (v := undef) rfl (by kernel_rfl) (by kernel_rfl) (by kernel_rfl) (fun _ _ _ h => h) (Or.inr ⟨rfl, rfl⟩) ?_
    refine wpAny_take (i := 6) (v := undef) rfl (by kernel_rfl) (by kernel_rfl) (by kernel_rfl) (fun _ _ _ h => h) (Or.inr ⟨rfl, rfl⟩) ?_
    refine wpAny_ready (rs := [4]) (by kernel_rfl) (by simp) (AllReady.cons rfl (fun K hK => ?_) AllReady.nil)
    go_simp
    (refine hK _ _ ?_; clear hK K)
    refine wpAny_take (i := 7) (v := undef) rfl (by kernel_rfl) (by kernel_rfl) (by kernel_rfl) (fun _ _ _ h => h) (Or.inr ⟨rfl, rfl⟩) ?_
    refine wpAny_take (i := 8) (v := ?_) rfl (by kernel_rfl) (by kernel_rfl) (by kernel_rfl) (fun _ _ _ h => h) (Or.inl ⟨rfl, ?_⟩) ?_
    rotate_left
    · intro w; go_simp; try with_reducible rfl
    refine wpAny_take (i := 9) (v := ?_) rfl (by kernel_rfl) (by kernel_rfl) (by kernel_rfl) (fun _ _ _ h => h) (Or.inl ⟨rfl, ?_⟩) ?_
    rotate_left
    · intro w; go_simp; try with_reducible rfl
    refine wpAny_done (by kernel_rfl) ?_ _
    go_wp2
    go_ret
    exact ⟨ret_bool HV.out.symm, of_drew (below_drewN (ofW_below w.drew 1 30 15) nn)⟩
  · have hpos := ofOk_pos hA
    have hpos' : (1 : Int) ≤ (s.size : Int) := by omega
    have hv : setOk s.data.toList = ofOk 1 1 letB (s.extract 0 1).data.toList := by unfold setOk; rw [hA, set_ok hpos, head0 hpos]; rfl
    have h1 : (s.extract 0 1).size ≤ maxLen := by unfold maxLen at *; simp; omega
    have HA := Lib.hid hA
    have HV := Lib.hid hv
    clear hA hv
    go_enter Tryd.func15, Tryd.ntmps15
    go_wp2_with fail
    refine wp_region_any (by kernel_rfl) ?_
    change wpAny _ _ _ _ _ _ _ (World.drew _)
    refine wpAny_take (i := 1) (v := ?_) rfl (by kernel_rfl) (by kernel_rfl) (by kernel_rfl) (fun _ _ _ h => h) (Or.inl ⟨rfl, ?_⟩) ?_
    rotate_left
    · intro w; go_simp; try with_reducible rfl
    refine wpAny_ready (rs := [0]) (by kernel_rfl) (by simp) (AllReady.cons rfl (fun K hK => ?_) AllReady.nil)
    go_simp
    refine (of_exact _ _ _ _).mono ?_; rintro e w' ⟨rfl, rfl⟩
    go_simp
    (refine hK _ _ ?_; clear hK K)
    refine wpAny_ready (rs := [2]) (by kernel_rfl) (by simp) (AllReady.cons rfl (fun K hK => ?_) AllReady.nil)
    go_simp
    refine (closure_ofW true 1 30 15 setP kind15 s hs _ _ ?hn HA.out).mono ?_; (case hn => first | rfl | simp [ofW_size]); rintro e w' ⟨rfl, nn, rfl⟩
    go_simp
    (refine hK _ _ ?_; clear hK K)
    refine wpAny_take (i := 3) (v := ?_) rfl (by kernel_rfl) (by kernel_rfl) (by kernel_rfl) (fun _ _ _ h => h) (Or.inl ⟨rfl, ?_⟩) ?_
    rotate_left
    · intro w; go_simp; try with_reducible rfl
    refine wpAny_take (i := 5) (v := ?_) rfl (by kernel_rfl) (by kernel_rfl) (by kernel_rfl) (fun _ _ _ h => h) (Or.inl ⟨rfl, ?_⟩) ?_
    rotate_left
    · intro w; go_simp; try with_reducible rfl
    refine wpAny_take (i := 6) (v := ?_) rfl (by kernel_rfl) (by kernel_rfl) (by kernel_rfl) (fun _ _ _ h => h) (Or.inl ⟨rfl, ?_⟩) ?_
    rotate_left
    · intro w; go_simp; try with_reducible rfl
    refine wpAny_ready (rs := [4]) (by kernel_rfl) (by simp) (AllReady.cons rfl (fun K hK => ?_) AllReady.nil)
    go_simp
    refine (of_exact _ _ _ _).mono ?_; rintro e w' ⟨rfl, rfl⟩
    go_simp
    (refine hK _ _ ?_; clear hK K)
    refine wpAny_ready (rs := [7]) (by kernel_rfl) (by simp) (AllReady.cons rfl (fun K hK => ?_) AllReady.nil)
    go_simp
    refine (closure_ofW _ 1 1 1 letB kind1 (s.extract 0 1) h1 _ _ ?hn rfl).mono ?_; (case hn => first | rfl | simp [ofW_size]); rintro e w' ⟨rfl, mm, rfl⟩
    go_simp
    (refine hK _ _ ?_; clear hK K)
    refine wpAny_take (i := 8) (v := ?_) rfl (by kernel_rfl) (by kernel_rfl) (by kernel_rfl) (fun _ _ _ h => h) (Or.inl ⟨rfl, ?_⟩) ?_
    rotate_left
    · intro w; go_simp; try with_reducible rfl
    refine wpAny_take (i := 9) (v := ?_) rfl (by kernel_rfl) (by kernel_rfl) (by kernel_rfl) (fun _ _ _ h => h) (Or.inl ⟨rfl, ?_⟩) ?_
    rotate_left
    · intro w; go_simp; try with_reducible rfl
    refine wpAny_done (by kernel_rfl) ?_ _
    go_wp2
    go_ret
    refine ⟨ret_bool (by rw [HV.out]; simp), of_drew (below_drewN ?_ mm)⟩
    exact (below_drewN (ofW_below w.drew 1 30 15) nn).trans ((ofW_below _ 1 1 1).mono (by simp [ofW_size]))
end Go.Proofs.YticmkjcaekhgpaaDoor
