/- The library's stable sort at fewer than 20 zones, and links; flatten.sorted. Ranks of names; flatten.sorted at lists that may be empty; the function Sort of package flatten. The function Sort of package flatten. -/
import Derived.Test.YtnffecoohkanhaaDoorYFtD
import Derived.Test.YtnffecoohkanhaaDoorYFtA
import Derived.Test.YtnffecoohkanhaaDoorYFtB
namespace Go.Proofs.YtnffecoohkanhaaDoor.Px
open Go.RowKit
open Go.Maps (Keyed)
open Lk St Go.Sort

set_option maxHeartbeats 4000000 in
set_option maxRecDepth 100000 in
theorem zone_stable (rk : Zo → Int) (D : List (Zo)) (hrk : ∀ x ∈ D, ∀ y ∈ D, (x.1 < y.1 ↔ rk x < rk y)) (g n cap fb : Nat) (FT : TypeId) (L : List (Nat × Obj)) (R : List Rw) (W w : World) (h : Kp ((fb, .cells #[.func (.func 39) #[] #[]] FT (0, 0)) :: L) (rowZone g n cap D :: R) W w) (hn : D.length = n) (hn1 : 0 < n) (h20 : n < 20) :
    Calls Tryd.prog 73 #[.slice (some ⟨g, 0, none⟩) n cap, .int .i64 (n : Int), .func (.func 58) #[] #[.pointer (some ⟨fb, 0, none⟩)]] w fun e w' => e = .returned (.tuple #[]) ∧ ∃ C, Stb rk D C ∧ Kp ((fb, .cells #[.func (.func 39) #[] #[]] FT (0, 0)) :: L) (rowZone g n cap C :: R) W w' := by
  have CI := Lib.hid (zone_insertion rk D hrk g n cap fb FT L R W w h hn hn1 (by omega))
  have h1 : ¬ (20 : Int) ≤ (n : Int) := by omega
  have h2 : ¬ (20 : Int) < (n : Int) := by omega
  clear h hn hrk
  go_enter Tryd.func73, Tryd.ntmps73
  go_wp2_with fail
  refine wp_loop_rounds 1 ?_
  rw [rounds_succ]
  go_wp2_with (first | (go_at_call 84; refine CI.out.mono ?_; rintro e X ⟨rfl, C, hS, hK⟩; have HS := Lib.hid hS; have HK := Lib.hid hK; clear hS hK))
  refine wp_loop_rounds 1 ?_
  rw [rounds_succ]
  go_wp2_with fail
  go_end0
  exact ⟨rfl, C, HS.out, HK.out⟩
set_option maxRecDepth 100000 in
theorem zone_ssf (rk : Zo → Int) (D : List (Zo)) (hrk : ∀ x ∈ D, ∀ y ∈ D, (x.1 < y.1 ↔ rk x < rk y)) (g n cap fb : Nat) (FT : TypeId) (L : List (Nat × Obj)) (R : List Rw) (W w : World) (h : Kp ((fb, .cells #[.func (.func 39) #[] #[]] FT (0, 0)) :: L) (rowZone g n cap D :: R) W w) (hn : D.length = n) (hn1 : 0 < n) (h20 : n < 20) :
    Calls Tryd.prog 57 #[.slice (some ⟨g, 0, none⟩) n cap, .func (.func 58) #[] #[.pointer (some ⟨fb, 0, none⟩)]] w fun e w' => e = .returned (.tuple #[]) ∧ ∃ C, Stb rk D C ∧ Kp ((fb, .cells #[.func (.func 39) #[] #[]] FT (0, 0)) :: L) (rowZone g n cap C :: R) W w' := by
  have CI := Lib.hid (zone_stable rk D hrk g n cap fb FT L R W w h hn hn1 h20)
  clear h hn hrk
  go_enter Tryd.func57, Tryd.ntmps57
  go_wp2_with (first | (go_at_call 73; refine CI.out.mono ?_; rintro e X ⟨rfl, C, hS, hK⟩; have HS := Lib.hid hS; have HK := Lib.hid hK; clear hS hK))
  go_end0
  exact ⟨rfl, C, HS.out, HK.out⟩
set_option maxHeartbeats 4000000 in
set_option maxRecDepth 100000 in
theorem zone_sorted (rk : Zo → Int) (D : List (Zo)) (hrk : ∀ x ∈ D, ∀ y ∈ D, (x.1 < y.1 ↔ rk x < rk y)) (v : Value) (W : World) (hV : SlV W v 2 D.length (D.flatMap zcells)) (hn1 : 0 < D.length) (h20 : D.length < 20) :
    Calls Tryd.prog 38 #[v, .func (.func 39) #[] #[]] W fun e w' => ∃ v' C, e = .returned v' ∧ Stb rk D C ∧ Kp [] [⟨v', 40, 2, D.length, C.flatMap zcells⟩] W w' := by
  obtain ⟨vb, vo, vc, rfl, _, _, _, _⟩ := hV.allA hn1
  have CC := Lib.hid (fun (Y : World) (hB : Below W.heap.size W Y) => clone_zonesF D.length (D.flatMap zcells) _ Y (hV.keep hB) one_zones (by intro c h; simp at h) (by omega))
  have K0 := Lib.hid ((Kp.start W).allocAt W.heap.size rfl (.cells #[.func (.func 39) #[] #[]] 86))
  have CS := Lib.hid (fun (g cap : Nat) (Y : World) (h : Kp [(W.heap.size, .cells #[.func (.func 39) #[] #[]] 86 (0, 0))] [rowZone g D.length cap D] W Y) => zone_ssf rk D hrk g D.length cap W.heap.size 86 [] [] W Y h rfl hn1 h20)
  obtain ⟨n, hn⟩ : ∃ n, D.length = n := ⟨_, rfl⟩
  unfold rowZone at CS
  rw [hn] at CC CS hn1 ⊢
  clear hV hrk h20 hn
  go_enter Tryd.func38, Tryd.ntmps38
  go_wp2_with (first
    | (go_at_call 11; refine (CC.out _ K0.out.below).mono ?_; rintro e X ⟨v', rfl, hk⟩; obtain ⟨g, cap, cur, rfl, _, _, _, _⟩ := hk.known_of hn1; have K1 := Lib.hid (K0.out.adopt hk); clear hk)
    | (go_at_call 57; refine (CS.out g cap _ K1.out).mono ?_; rintro e X2 ⟨rfl, C, hS, hK⟩; have HS := Lib.hid hS; have HK := Lib.hid hK; clear hS hK))
  exact bodyPost_ret (v := .slice (some ⟨g, 0, none⟩) n cap) (by simp [results, Tryd.results38, go_sem]) rfl ⟨_, C, rfl, HS.out, HK.out.pick (List.nil_sublist _)⟩
set_option maxHeartbeats 4000000 in
set_option maxRecDepth 100000 in
theorem link_stable (rk : List UInt8 × List UInt8 → Int) (D : List (List UInt8 × List UInt8)) (hrk : ∀ x ∈ D, ∀ y ∈ D, (x.1 < y.1 ↔ rk x < rk y)) (g n cap fb : Nat) (FT : TypeId) (L : List (Nat × Obj)) (R : List Rw) (W w : World) (h : Kp ((fb, .cells #[.func (.func 41) #[] #[]] FT (0, 0)) :: L) (rowLink g n cap D :: R) W w) (hn : D.length = n) (hn1 : 0 < n) (h20 : n < 20) :
    Calls Tryd.prog 75 #[.slice (some ⟨g, 0, none⟩) n cap, .int .i64 (n : Int), .func (.func 61) #[] #[.pointer (some ⟨fb, 0, none⟩)]] w fun e w' => e = .returned (.tuple #[]) ∧ ∃ C, Stb rk D C ∧ Kp ((fb, .cells #[.func (.func 41) #[] #[]] FT (0, 0)) :: L) (rowLink g n cap C :: R) W w' := by
  have CI := Lib.hid (link_insertion rk D hrk g n cap fb FT L R W w h hn hn1 (by omega))
  have h1 : ¬ (20 : Int) ≤ (n : Int) := by omega
  have h2 : ¬ (20 : Int) < (n : Int) := by omega
  clear h hn hrk
  go_enter Tryd.func75, Tryd.ntmps75
  go_wp2_with fail
  refine wp_loop_rounds 1 ?_
  rw [rounds_succ]
  go_wp2_with (first | (go_at_call 86; refine CI.out.mono ?_; rintro e X ⟨rfl, C, hS, hK⟩; have HS := Lib.hid hS; have HK := Lib.hid hK; clear hS hK))
  refine wp_loop_rounds 1 ?_
  rw [rounds_succ]
  go_wp2_with fail
  go_end0
  exact ⟨rfl, C, HS.out, HK.out⟩
set_option maxRecDepth 100000 in
theorem link_ssf (rk : List UInt8 × List UInt8 → Int) (D : List (List UInt8 × List UInt8)) (hrk : ∀ x ∈ D, ∀ y ∈ D, (x.1 < y.1 ↔ rk x < rk y)) (g n cap fb : Nat) (FT : TypeId) (L : List (Nat × Obj)) (R : List Rw) (W w : World) (h : Kp ((fb, .cells #[.func (.func 41) #[] #[]] FT (0, 0)) :: L) (rowLink g n cap D :: R) W w) (hn : D.length = n) (hn1 : 0 < n) (h20 : n < 20) :
    Calls Tryd.prog 60 #[.slice (some ⟨g, 0, none⟩) n cap, .func (.func 61) #[] #[.pointer (some ⟨fb, 0, none⟩)]] w fun e w' => e = .returned (.tuple #[]) ∧ ∃ C, Stb rk D C ∧ Kp ((fb, .cells #[.func (.func 41) #[] #[]] FT (0, 0)) :: L) (rowLink g n cap C :: R) W w' := by
  have CI := Lib.hid (link_stable rk D hrk g n cap fb FT L R W w h hn hn1 h20)
  clear h hn hrk
  go_enter Tryd.func60, Tryd.ntmps60
  go_wp2_with (first | (go_at_call 75; refine CI.out.mono ?_; rintro e X ⟨rfl, C, hS, hK⟩; have HS := Lib.hid hS; have HK := Lib.hid hK; clear hS hK))
  go_end0
  exact ⟨rfl, C, HS.out, HK.out⟩
set_option maxHeartbeats 4000000 in
set_option maxRecDepth 100000 in
theorem link_sorted (rk : List UInt8 × List UInt8 → Int) (D : List (List UInt8 × List UInt8)) (hrk : ∀ x ∈ D, ∀ y ∈ D, (x.1 < y.1 ↔ rk x < rk y)) (v : Value) (W : World) (hV : SlV W v 2 D.length (D.flatMap kcells)) (hn1 : 0 < D.length) (h20 : D.length < 20) :
    Calls Tryd.prog 40 #[v, .func (.func 41) #[] #[]] W fun e w' => ∃ v' C, e = .returned v' ∧ Stb rk D C ∧ Kp [] [⟨v', 43, 2, D.length, C.flatMap kcells⟩] W w' := by
  obtain ⟨vb, vo, vc, rfl, _, _, _, _⟩ := hV.allA hn1
  have CC := Lib.hid (fun (Y : World) (hB : Below W.heap.size W Y) => clone_linksF D.length (D.flatMap kcells) _ Y (hV.keep hB) one_links (by intro c h; simp at h) (by omega))
  have K0 := Lib.hid ((Kp.start W).allocAt W.heap.size rfl (.cells #[.func (.func 41) #[] #[]] 88))
  have CS := Lib.hid (fun (g cap : Nat) (Y : World) (h : Kp [(W.heap.size, .cells #[.func (.func 41) #[] #[]] 88 (0, 0))] [rowLink g D.length cap D] W Y) => link_ssf rk D hrk g D.length cap W.heap.size 88 [] [] W Y h rfl hn1 h20)
  obtain ⟨n, hn⟩ : ∃ n, D.length = n := ⟨_, rfl⟩
  unfold rowLink at CS
  rw [hn] at CC CS hn1 ⊢
  clear hV hrk h20 hn
  go_enter Tryd.func40, Tryd.ntmps40
  go_wp2_with (first
    | (go_at_call 12; refine (CC.out _ K0.out.below).mono ?_; rintro e X ⟨v', rfl, hk⟩; obtain ⟨g, cap, cur, rfl, _, _, _, _⟩ := hk.known_of hn1; have K1 := Lib.hid (K0.out.adopt hk); clear hk)
    | (go_at_call 60; refine (CS.out g cap _ K1.out).mono ?_; rintro e X2 ⟨rfl, C, hS, hK⟩; have HS := Lib.hid hS; have HK := Lib.hid hK; clear hS hK))
  exact bodyPost_ret (v := .slice (some ⟨g, 0, none⟩) n cap) (by simp [results, Tryd.results40, go_sem]) rfl ⟨_, C, rfl, HS.out, HK.out.pick (List.nil_sublist _)⟩
end Go.Proofs.YtnffecoohkanhaaDoor.Px
namespace Go.Proofs.YtnffecoohkanhaaDoor.Px
open Go.RowKit
open Go.Maps (Keyed)
open Lk St Go.Sort

theorem countP_less {α : Type} {p q : α → Bool} : ∀ (l : List α), (∀ x ∈ l, p x = true → q x = true) → ∀ a ∈ l, q a = true → p a = false → l.countP p < l.countP q
  | [], _, a, ha, _, _ => by cases ha
  | b :: r, h, a, ha, hq, hp => by
    have hle : r.countP p ≤ r.countP q := List.countP_mono_left (fun x hx => h x (List.mem_cons_of_mem _ hx))
    rw [List.countP_cons, List.countP_cons]
    rcases List.mem_cons.1 ha with rfl | ha
    · rw [hp, hq]
      simp
      omega
    · have ih := countP_less r (fun x hx => h x (List.mem_cons_of_mem _ hx)) a ha hq hp
      have hb := h b (List.mem_cons_self ..)
      by_cases hpb : p b = true
      · rw [hpb, hb hpb]
        omega
      · rw [if_neg hpb]
        omega
/-- how many names of a list are less -/
def rkN {β : Type} (D : List (List UInt8 × β)) (x : List UInt8 × β) : Int := ((D.countP fun y => decide (y.1 < x.1) : Nat) : Int)
theorem rkN_ok {β : Type} (D : List (List UInt8 × β)) : ∀ x ∈ D, ∀ y ∈ D, (x.1 < y.1 ↔ rkN D x < rkN D y) := by
  intro x hx y hy
  unfold rkN
  constructor
  · intro h
    have := countP_less (p := fun z => decide (z.1 < x.1)) (q := fun z => decide (z.1 < y.1)) D (fun z _ hz => decide_eq_true (Std.lt_trans (of_decide_eq_true hz) h)) x hx (decide_eq_true h) (decide_eq_false (fun q => Std.lt_irrefl q))
    omega
  · intro h
    apply Classical.byContradiction
    intro hn
    have hle : y.1 ≤ x.1 := List.not_lt.1 hn
    have := List.countP_mono_left (l := D) (p := fun z => decide (z.1 < y.1)) (q := fun z => decide (z.1 < x.1)) (fun z _ hz => decide_eq_true (Std.lt_of_lt_of_le (of_decide_eq_true hz) hle))
    omega
set_option maxRecDepth 100000 in
theorem zone_ins0 (a : Option Addr) (c : Nat) (F : Value) (W : World) : Calls Tryd.prog 84 #[.slice a 0 c, .int .i64 0, .int .i64 0, F] W fun e w' => e = .returned (.tuple #[]) ∧ w' = W := by
  go_enter Tryd.func84, Tryd.ntmps84
  go_wp2_with fail
  refine wp_loop_rounds 1 ?_
  rw [rounds_succ]
  go_wp2_with fail
  go_end0
  exact ⟨rfl, rfl⟩
set_option maxRecDepth 100000 in
theorem zone_stable0 (a : Option Addr) (c : Nat) (F : Value) (W : World) : Calls Tryd.prog 73 #[.slice a 0 c, .int .i64 0, F] W fun e w' => e = .returned (.tuple #[]) ∧ w' = W := by
  go_enter Tryd.func73, Tryd.ntmps73
  go_wp2_with fail
  refine wp_loop_rounds 1 ?_
  rw [rounds_succ]
  go_wp2_with (first | (go_at_call 84; refine (zone_ins0 a c F _).mono ?_; rintro e X ⟨rfl, rfl⟩))
  refine wp_loop_rounds 1 ?_
  rw [rounds_succ]
  go_wp2_with fail
  go_end0
  exact ⟨rfl, rfl⟩
set_option maxRecDepth 100000 in
theorem zone_ssf0 (a : Option Addr) (c : Nat) (F : Value) (W : World) : Calls Tryd.prog 57 #[.slice a 0 c, F] W fun e w' => e = .returned (.tuple #[]) ∧ w' = W := by
  go_enter Tryd.func57, Tryd.ntmps57
  go_wp2_with (first | (go_at_call 73; refine (zone_stable0 a c F _).mono ?_; rintro e X ⟨rfl, rfl⟩))
  go_end0
  exact ⟨rfl, rfl⟩
set_option maxHeartbeats 4000000 in
set_option maxRecDepth 100000 in
theorem zone_sort (D : List (Zo)) (v : Value) (W : World) (hV : SlV W v 2 D.length (D.flatMap zcells)) (hnil : ∀ c, v = .slice none D.length c → c = 0) (h20 : D.length < 20) :
    Calls Tryd.prog 38 #[v, .func (.func 39) #[] #[]] W fun e w' => ∃ v' C, e = .returned v' ∧ Stb (rkN D) D C ∧ Kp [] [⟨v', 40, 2, D.length, C.flatMap zcells⟩] W w' := by
  by_cases h0 : D.length = 0
  · have hD : D = [] := List.length_eq_zero_iff.1 h0
    subst hD
    obtain ⟨a, c, rfl, _, _⟩ := hV.slA
    have CC := Lib.hid (fun (Y : World) (hB : Below W.heap.size W Y) => clone_zonesF 0 [] _ Y (hV.keep hB) (fun u hu => by cases hu) hnil (by omega))
    have K0 := Lib.hid ((Kp.start W).allocAt W.heap.size rfl (.cells #[.func (.func 39) #[] #[]] 86))
    show Calls Tryd.prog 38 #[.slice a 0 c, .func (.func 39) #[] #[]] W _
    clear hV hnil h20 h0
    go_enter Tryd.func38, Tryd.ntmps38
    go_wp2_with (first
      | (go_at_call 11; refine (CC.out _ K0.out.below).mono ?_; rintro e X ⟨v', rfl, hk⟩; obtain ⟨a2, c2, rfl⟩ : ∃ a c, v' = .slice a 0 c := own_slice (hk.row 0 rfl); have K1 := Lib.hid (K0.out.adopt hk); clear hk)
      | (go_at_call 57; refine (zone_ssf0 a2 c2 _ _).mono ?_; rintro e X2 ⟨rfl, rfl⟩))
    exact bodyPost_ret (v := .slice a2 0 c2) (by simp [results, Tryd.results38, go_sem]) rfl ⟨_, [], rfl, Stb.nil, K1.out.pick (List.nil_sublist _)⟩
  · exact zone_sorted (rkN D) D (rkN_ok D) v W hV (by omega) h20
set_option maxRecDepth 100000 in
theorem link_ins0 (a : Option Addr) (c : Nat) (F : Value) (W : World) : Calls Tryd.prog 86 #[.slice a 0 c, .int .i64 0, .int .i64 0, F] W fun e w' => e = .returned (.tuple #[]) ∧ w' = W := by
  go_enter Tryd.func86, Tryd.ntmps86
  go_wp2_with fail
  refine wp_loop_rounds 1 ?_
  rw [rounds_succ]
  go_wp2_with fail
  go_end0
  exact ⟨rfl, rfl⟩
set_option maxRecDepth 100000 in
theorem link_stable0 (a : Option Addr) (c : Nat) (F : Value) (W : World) : Calls Tryd.prog 75 #[.slice a 0 c, .int .i64 0, F] W fun e w' => e = .returned (.tuple #[]) ∧ w' = W := by
  go_enter Tryd.func75, Tryd.ntmps75
  go_wp2_with fail
  refine wp_loop_rounds 1 ?_
  rw [rounds_succ]
  go_wp2_with (first | (go_at_call 86; refine (link_ins0 a c F _).mono ?_; rintro e X ⟨rfl, rfl⟩))
  refine wp_loop_rounds 1 ?_
  rw [rounds_succ]
  go_wp2_with fail
  go_end0
  exact ⟨rfl, rfl⟩
set_option maxRecDepth 100000 in
theorem link_ssf0 (a : Option Addr) (c : Nat) (F : Value) (W : World) : Calls Tryd.prog 60 #[.slice a 0 c, F] W fun e w' => e = .returned (.tuple #[]) ∧ w' = W := by
  go_enter Tryd.func60, Tryd.ntmps60
  go_wp2_with (first | (go_at_call 75; refine (link_stable0 a c F _).mono ?_; rintro e X ⟨rfl, rfl⟩))
  go_end0
  exact ⟨rfl, rfl⟩
set_option maxHeartbeats 4000000 in
set_option maxRecDepth 100000 in
theorem link_sort (D : List (List UInt8 × List UInt8)) (v : Value) (W : World) (hV : SlV W v 2 D.length (D.flatMap kcells)) (hnil : ∀ c, v = .slice none D.length c → c = 0) (h20 : D.length < 20) :
    Calls Tryd.prog 40 #[v, .func (.func 41) #[] #[]] W fun e w' => ∃ v' C, e = .returned v' ∧ Stb (rkN D) D C ∧ Kp [] [⟨v', 43, 2, D.length, C.flatMap kcells⟩] W w' := by
  by_cases h0 : D.length = 0
  · have hD : D = [] := List.length_eq_zero_iff.1 h0
    subst hD
    obtain ⟨a, c, rfl, _, _⟩ := hV.slA
    have CC := Lib.hid (fun (Y : World) (hB : Below W.heap.size W Y) => clone_linksF 0 [] _ Y (hV.keep hB) (fun u hu => by cases hu) hnil (by omega))
    have K0 := Lib.hid ((Kp.start W).allocAt W.heap.size rfl (.cells #[.func (.func 41) #[] #[]] 88))
    show Calls Tryd.prog 40 #[.slice a 0 c, .func (.func 41) #[] #[]] W _
    clear hV hnil h20 h0
    go_enter Tryd.func40, Tryd.ntmps40
    go_wp2_with (first
      | (go_at_call 12; refine (CC.out _ K0.out.below).mono ?_; rintro e X ⟨v', rfl, hk⟩; obtain ⟨a2, c2, rfl⟩ : ∃ a c, v' = .slice a 0 c := own_slice (hk.row 0 rfl); have K1 := Lib.hid (K0.out.adopt hk); clear hk)
      | (go_at_call 60; refine (link_ssf0 a2 c2 _ _).mono ?_; rintro e X2 ⟨rfl, rfl⟩))
    exact bodyPost_ret (v := .slice a2 0 c2) (by simp [results, Tryd.results40, go_sem]) rfl ⟨_, [], rfl, Stb.nil, K1.out.pick (List.nil_sublist _)⟩
  · exact link_sorted (rkN D) D (rkN_ok D) v W hV (by omega) h20
end Go.Proofs.YtnffecoohkanhaaDoor.Px
namespace Go.Proofs.YtnffecoohkanhaaDoor.Px
open Go.RowKit
open Go.Maps (Keyed)
open Lk St Go.Sort

set_option maxHeartbeats 8000000 in
set_option maxRecDepth 100000 in
theorem sort35_any (rv zv lv sv : Value) (nr ns : Nat) (rs ss : List Value) (Z : List Zq) (Q : List Zo) (Ls : List (List UInt8 × List UInt8)) (W : World) (hr : SlV W rv 11 nr rs) (hz : ZoV W zv Q) (hl : LkV W lv Ls) (hs : SlV W sv 1 ns ss)
    (hr1 : ∀ u ∈ rs, u.oneCell' = true) (hs1 : ∀ u ∈ ss, u.oneCell' = true) (hrn : ∀ c, rv = .slice none nr c → c = 0) (hln : ∀ c, lv = .slice none Ls.length c → c = 0) (hsn : ∀ c, sv = .slice none ns c → c = 0)
    (hlen : Q.length = Z.length) (hq : ∀ (i : Nat) (z : Zq) (o : Zo), Z[i]? = some z → Q[i]? = some o → ZqOk W z o) (h1 : nr ≤ 1000000) (h2 : ns ≤ 1000000) (h3 : Ls.length ≤ 1000000) (h4 : Z.length ≤ 1000) (hZ20 : Z.length < 20) (hL20 : Ls.length < 20) :
    Calls Tryd.prog 17 #[.agg #[rv, zv, lv, sv]] W fun e w' => ∃ (rv2 zv2 lv2 sv2 : Value) (E : List (Zq × Zo)) (CZ : List Zo) (CL : List (List UInt8 × List UInt8)), e = .returned (.agg #[rv2, zv2, lv2, sv2]) ∧ E.map Prod.fst = Z ∧ (∀ p ∈ E, p.2.1 = p.1.nm) ∧ Stb (rkN (E.map Prod.snd)) (E.map Prod.snd) CZ ∧ Stb (rkN Ls) Ls CL ∧
      Kp [] (⟨lv2, 43, 2, Ls.length, CL.flatMap kcells⟩ :: ⟨zv2, 40, 2, Z.length, CZ.flatMap zcells⟩ :: ⟨sv2, 9, 1, ns, ss⟩ :: ⟨rv2, 36, 11, nr, rs⟩ :: E.reverse.map eraR) W w' := by
  have CC := Lib.hid (fun (Y : World) (hB : Below W.heap.size W Y) => copied_any rv zv lv sv nr ns rs ss Z Q Ls Y (hr.keep hB) (hz.keep hB) (hl.keep hB) (hs.keep hB) hr1 hs1 hrn hln hsn hlen (fun i z o h1 h2 => (hq i z o h1 h2).keep hB) h1 h2 h3 h4)
  obtain ⟨ra, rc, rfl, _, _⟩ := hr.slA
  obtain ⟨za, zc, rfl, hz1, hz2⟩ := SlV.slA hz
  obtain ⟨la, lc, rfl, _, _⟩ := SlV.slA hl
  obtain ⟨sa, sc, rfl, _, _⟩ := hs.slA
  obtain ⟨nq, hnq⟩ : ∃ n, Q.length = n := ⟨_, rfl⟩
  obtain ⟨nz, hnz⟩ : ∃ n, Z.length = n := ⟨_, rfl⟩
  obtain ⟨nl, hnl⟩ : ∃ n, Ls.length = n := ⟨_, rfl⟩
  rw [hnz] at CC hZ20 ⊢
  rw [hnl] at CC hL20 ⊢
  rw [hnq] at CC ⊢
  have HNz := Lib.hid hnz
  have HNl := Lib.hid hnl
  have K0 := Lib.hid (((Kp.start W).allocAt W.heap.size rfl (.cells #[.slice ra nr rc, .slice za nq zc, .slice la nl lc, .slice sa ns sc] 27)).allocAt (W.heap.size + 1) (by simp) (.cells #[.slice none 0 0, .slice none 0 0, .slice none 0 0, .slice none 0 0] 27))
  obtain ⟨W1, hW1⟩ : ∃ X, (W.alloc (.cells #[.slice ra nr rc, .slice za nq zc, .slice la nl lc, .slice sa ns sc] 27)).alloc (.cells #[.slice none 0 0, .slice none 0 0, .slice none 0 0, .slice none 0 0] 27) = X := ⟨_, rfl⟩
  rw [hW1] at K0
  obtain ⟨x0, x1, x2, x3⟩ := row4 (K0.out.at 1 rfl)
  clear hr hz hl hs hr1 hs1 hrn hln hsn hlen hq hnq hnz hnl
  go_enter Tryd.func17, Tryd.ntmps17
  go_upto_region 1 with fail
  clear hW1
  go_upto_region 2 with (first | (go_at_call 29; refine (CC.out _ K0.out.below).mono ?_; rintro e X ⟨rv2, zv2, lv2, sv2, E, rfl, hE, hEn, hk⟩; obtain ⟨ra2, rc2, rfl⟩ : ∃ a c, rv2 = .slice a nr c := own_slice (hk.row 3 rfl); obtain ⟨la2, lc2, rfl⟩ : ∃ a c, lv2 = .slice a nl c := own_slice (hk.row 2 rfl); obtain ⟨sa2, sc2, rfl⟩ : ∃ a c, sv2 = .slice a ns c := own_slice (hk.row 1 rfl); obtain ⟨za2, zc2, rfl⟩ : ∃ a c, zv2 = .slice a nz c := own_slice (hk.row 0 rfl); have K1 := Lib.hid ((K0.out.adopt hk).allocAt X.heap.size rfl (.cells #[.slice ra2 nr rc2, .slice za2 nz zc2, .slice la2 nl lc2, .slice sa2 ns sc2] 27)); have HE := Lib.hid hE; have HEn := Lib.hid hEn; obtain ⟨y0, y1, y2, y3⟩ := row4 (K1.out.at 0 rfl); clear hk hE hEn))
  obtain ⟨O, hO⟩ : ∃ b, X.heap.size = b := ⟨_, rfl⟩
  obtain ⟨Y1, hY1⟩ : ∃ Y, X.alloc (.cells #[.slice ra2 nr rc2, .slice za2 nz zc2, .slice la2 nl lc2, .slice sa2 ns sc2] 27) = Y := ⟨_, rfl⟩
  rw [hY1] at K1 y0 y1 y2 y3 ⊢
  rw [hO] at K1 y0 y1 y2 y3 ⊢
  clear hY1 hO x0 x1 x2 x3
  have hEl : (E.map Prod.snd).length = nz := by rw [List.length_map, ← HNz.out, ← HE.out, List.length_map]
  have CZ := Lib.hid (fun (Y : World) (v : Value) (h1 : SlV Y v 2 (E.map Prod.snd).length ((E.map Prod.snd).flatMap zcells)) (h2 : ∀ c, v = .slice none (E.map Prod.snd).length c → c = 0) => zone_sort (E.map Prod.snd) v Y h1 h2 (by rw [hEl]; exact hZ20))
  have CL := Lib.hid (fun (Y : World) (v : Value) (h1 : SlV Y v 2 Ls.length (Ls.flatMap kcells)) (h2 : ∀ c, v = .slice none Ls.length c → c = 0) => link_sort Ls v Y h1 h2 (by rw [HNl.out]; exact hL20))
  rw [hEl] at CZ
  rw [HNl.out] at CL
  clear hEl
  go_upto_region 3 with (first | (go_at_call 38; refine (CZ.out _ _ (SlV.of_own (K1.out.row 0 rfl)) (own_nil (K1.out.row 0 rfl))).mono ?_; rintro e X2 ⟨v', C, rfl, hS, hk⟩; obtain ⟨za3, zc3, rfl⟩ : ∃ a c, v' = .slice a nz c := own_slice (hk.row 0 rfl); have HSz := Lib.hid hS; have K2 := Lib.hid (K1.out.adopt hk); obtain ⟨z0, z1, z2, z3⟩ := row4 (K2.out.at 0 rfl); have f1 := free_at (K2.out.at 0 rfl) 1; clear hk hS))
  have K3 := Lib.hid (K2.out.set 0 rfl 1 (.slice za3 nz zc3) rfl)
  obtain ⟨Y2, hY2⟩ : ∃ Y, X2.setCell ⟨O, 1, none⟩ (.slice za3 nz zc3) = Y := ⟨_, rfl⟩
  rw [hY2] at K3 ⊢
  clear hY2 f1 y0 y1 y2 y3 z0 z1 z2 z3
  obtain ⟨y0, y1, y2, y3⟩ := row4 (K3.out.at 0 rfl)
  go_upto_region 4 with (first | (go_at_call 40; refine (CL.out _ _ (SlV.of_own (K3.out.row 3 rfl)) (own_nil (K3.out.row 3 rfl))).mono ?_; rintro e X3 ⟨v', C2, rfl, hS, hk⟩; obtain ⟨la3, lc3, rfl⟩ : ∃ a c, v' = .slice a nl c := own_slice (hk.row 0 rfl); have HSl := Lib.hid hS; have K4 := Lib.hid (K3.out.adopt hk); obtain ⟨z0, z1, z2, z3⟩ := row4 (K4.out.at 0 rfl); have f1 := free_at (K4.out.at 0 rfl) 2; clear hk hS))
  have K5 := Lib.hid (K4.out.set 0 rfl 2 (.slice la3 nl lc3) rfl)
  obtain ⟨Y3, hY3⟩ : ∃ Y, X3.setCell ⟨O, 2, none⟩ (.slice la3 nl lc3) = Y := ⟨_, rfl⟩
  rw [hY3] at K5 ⊢
  clear hY3 f1 y0 y1 y2 y3 z0 z1 z2 z3
  obtain ⟨y0, y1, y2, y3⟩ := row4 (K5.out.at 0 rfl)
  obtain ⟨x0, x1, x2, x3⟩ := row4 (K5.out.at 1 rfl)
  have f0 := free_at (K5.out.at 1 rfl) 0
  have f1 := free_at (K5.out.at 1 rfl) 1
  have f2 := free_at (K5.out.at 1 rfl) 2
  have f3 := free_at (K5.out.at 1 rfl) 3
  go_wp2_with fail
  have KF := Lib.hid ((((K5.out.set 1 rfl 0 (.slice ra2 nr rc2) rfl).set 1 rfl 1 (.slice za3 nz zc3) rfl).set 1 rfl 2 (.slice la3 nl lc3) rfl).set 1 rfl 3 (.slice sa2 ns sc2) rfl)
  obtain ⟨r0, r1, r2, r3⟩ := row4 (KF.out.at 1 rfl)
  refine bodyPost_ret (v := .agg #[.slice ra2 nr rc2, .slice za3 nz zc3, .slice la3 nl lc3, .slice sa2 ns sc2]) (by simp [results, Tryd.results17, go_sem, r0, r1, r2, r3]) rfl ⟨_, _, _, _, E, C, C2, rfl, HE.out, HEn.out, HSz.out, HSl.out, ?_⟩
  exact (KF.out.pick (List.nil_sublist _)).less (List.Sublist.cons_cons _ (List.Sublist.cons_cons _ (List.Sublist.cons _ (List.Sublist.cons_cons _ (List.Sublist.cons _ (List.Sublist.cons_cons _ (by rw [show (List.map eraR E.reverse).append [] = List.map eraR E.reverse from List.append_nil _]; exact List.Sublist.refl _)))))))
end Go.Proofs.YtnffecoohkanhaaDoor.Px
