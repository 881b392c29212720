/- The law LexemeBack returns true for all drafts and comments, and its tied card holds; no condition beyond the row itself. -/
import Derived.Test.YtjdckmhlgcjdgaaDoorMade
import Derived.Test.YtjdckmhlgcjdgaaDoorLxS
import Derived.Test.YtjdckmhlgcjdgaaDoorLxC
import Derived.Deep.QuietTactic
import Derived.BigQuiet
namespace Go.Proofs.YtjdckmhlgcjdgaaDoor
open Go.ChangeShapes Go.WideShapes Go.ChangeAt Go.RowKit
open Go.ChangeMaps (open_string)
open Lx
open Lex (strV bytesOf fieldsL fieldsE)

theorem max_at {W : World} (h : W.ShapedOpen Tryd.prog) : MaxAt W := by
  obtain ⟨m, hm⟩ := maxLen_cell h
  exact ⟨block_lt_of_cell hm, m, hm⟩
theorem sumL_made (F : List (List UInt8)) (h : ∀ p ∈ F, p.length ≤ 12) : sumL F ≤ F.length * 15 := by
  induction F with
  | nil => simp [sumL]
  | cons f r ih =>
    have h1 := h f (by simp)
    have h2 := ih (fun p hp => h p (by simp [hp]))
    simp [sumL] at h2 ⊢
    omega
/-- a text whose fields are F -/
def Reads (F : List (List UInt8)) (t : ByteArray) : Prop := t.size ≤ 300 ∧ Lex.fieldsGo t.data.toList [] [] false false = some F
theorem Reads.call {F : List (List UInt8)} {t : ByteArray} (h : Reads F t) (V : World) : Calls Tryd.prog 16 #[.string t] V fun e w' => ∃ v, e = .returned (.tuple #[v, .int .i64 0]) ∧ StrsV w' v F ∧ Below V.heap.size V w' := by
  obtain ⟨e1, e2⟩ := fields_of (by rw [Lex.len_eq]; exact h.1) h.2
  exact fields_c t F 0 (by have := h.1; omega) e1 e2 V
theorem reads_five {F : List (List UInt8)} (hg : ∀ f ∈ F, goodF f = true) {y cm : ByteArray} (hy : y.data.toList = joinL F) (hz : y.size ≤ 180) (hc : cm.size ≤ 40) :
    Reads F y ∧ Reads F (⟨#[32]⟩ ++ y) ∧ Reads F (⟨#[9, 32, 9]⟩ ++ y ++ ⟨#[32, 32]⟩) ∧ Reads F (y ++ ⟨#[35]⟩ ++ cm) ∧ Reads F (y ++ ⟨#[32, 35, 32]⟩ ++ cm) := by
  have s1 : (⟨#[32]⟩ : ByteArray).size = 1 := rfl
  have s2 : (⟨#[9, 32, 9]⟩ : ByteArray).size = 3 := rfl
  have s3 : (⟨#[32, 32]⟩ : ByteArray).size = 2 := rfl
  have s4 : (⟨#[35]⟩ : ByteArray).size = 1 := rfl
  have s5 : (⟨#[32, 35, 32]⟩ : ByteArray).size = 3 := rfl
  refine ⟨⟨by omega, ?_⟩, ⟨by rw [ByteArray.size_append]; omega, ?_⟩, ⟨by rw [ByteArray.size_append, ByteArray.size_append]; omega, ?_⟩, ⟨by rw [ByteArray.size_append, ByteArray.size_append]; omega, ?_⟩, ⟨by rw [ByteArray.size_append, ByteArray.size_append]; omega, ?_⟩⟩
  · have := go_join F hg [] clos_nil
    rw [List.append_nil] at this
    rw [hy, this]
  · have := go_join F hg [] clos_nil
    rw [List.append_nil] at this
    rw [app_list, hy]
    show Lex.fieldsGo (32 :: joinL F) [] [] false false = _
    rw [go_spaces 32 (.inl rfl), this]
  · rw [app_list, app_list, hy]
    show Lex.fieldsGo (9 :: 32 :: 9 :: (joinL F ++ [32, 32])) [] [] false false = _
    rw [go_spaces 9 (.inr rfl), go_spaces 32 (.inl rfl), go_spaces 9 (.inr rfl), go_join F hg _ (clos_space (clos_space clos_nil))]
  · rw [app_list, app_list, hy, List.append_assoc]
    exact go_join F hg _ (clos_hash _)
  · rw [app_list, app_list, hy, List.append_assoc]
    exact go_join F hg _ (clos_space (clos_hash _))
theorem str_eq_of {x y : ByteArray} (h : x.data.toList = y.data.toList) : x = y := by rw [bytesOf_eq h, ← bytesOf_eq (b := y) rfl]
theorem joinS_one (f : List UInt8) (hg : goodF f = true) (hl : f.length ≤ 12) : joinS [f] = quoteF f ∧ joinE [f] = 0 := by
  have h1 : ([f] : List (List UInt8)).all goodF = true := by simp [hg]
  have h2 : joinL [f] = quoteF f := by simp [joinL]
  have h3 : ¬ 300 < (joinL [f]).length := by rw [h2]; have := quoteF_len f; omega
  unfold joinS joinE
  rw [if_pos h1, if_pos h1, if_neg h3, if_neg h3, h2]
  exact ⟨rfl, rfl⟩

set_option maxHeartbeats 8000000 in
set_option maxRecDepth 100000 in
theorem lexemeBack_walk (R : List (List UInt8)) (a : Option Addr) (c : Nat) (hc : R.length ≤ c) (hcm : c ≤ maxLen) (s : ByteArray) (_hs : s.size ≤ maxLen) (W : World) (hR : RowsAt W a R) (hm : MaxAt W) :
    Calls Tryd.prog 6 #[.slice a R.length c, .string s] W fun e w' => e = .returned (.bool true) ∧ Below W.heap.size W w' := by
  have HM := Lib.hid hm
  have CM := Lib.hid (made_any R a c hc hcm W hR)
  obtain ⟨F, hF⟩ : ∃ F, madeL R = F := ⟨_, rfl⟩
  have hF1 : F.length ≤ 12 := by rw [← hF]; exact madeL_len R
  have hF2 : ∀ p ∈ F, p.length ≤ 12 ∧ goodF p = true := by rw [← hF]; exact fun p hp => madeL_mem hp
  have HF2 := Lib.hid hF2
  have hsum : sumL F ≤ 180 := by have := sumL_made F (fun p hp => (hF2 p hp).1); omega
  have hjl := joinL_len F
  have hall : F.all goodF = true := by rw [List.all_eq_true]; exact fun p hp => (hF2 p hp).2
  have hjs : joinS F = joinL F ∧ joinE F = 0 := by
    unfold joinS joinE
    rw [if_pos hall, if_pos hall, if_neg (by omega), if_neg (by omega)]
    exact ⟨rfl, rfl⟩
  obtain ⟨y, hy⟩ : ∃ y, bytesOf (joinL F) = y := ⟨_, rfl⟩
  have hyl : y.data.toList = joinL F := by rw [← hy]; rfl
  have hyz : y.size ≤ 180 := by rw [← Lex.len_eq, hyl]; omega
  obtain ⟨q, hq⟩ : ∃ q, min s.size 40 = q := ⟨_, rfl⟩
  have hq40 : q ≤ 40 := by omega
  have hqs : q ≤ s.size := by omega
  have hmin : min (s.size : Int) 40 = (q : Int) := by omega
  have hqi : (q : Int) ≤ (s.size : Int) := by omega
  have hcz : (s.extract 0 q).size ≤ 40 := by rw [ByteArray.size_extract]; omega
  have H5 := Lib.hid (reads_five (F := F) (fun f hf => (hF2 f hf).2) hyl hyz hcz)
  have CJ := Lib.hid (fun (v : Value) (V : World) (hv : StrsV V v F) => join_c F y 0 v V hv (fun p hp => by have := (hF2 p hp).1; omega) (by omega) (by rw [hjs.1]; exact hy) hjs.2)
  rw [hF] at CM
  unfold maxLen at hcm _hs
  clear hm hF hR hF2 hsum hjl hall hjs hy hyl hq
  go_enter Tryd.func6, Tryd.ntmps6
  go_wp2_with fail
  refine CM.out.mono ?_
  rintro e V1 ⟨v, rfl, hown, hB1⟩
  have B1 := Lib.hid hB1
  have hV := StrsV.of_own hown
  obtain ⟨a1, c1, rfl, h1, h2, h3⟩ := hV
  have HV := Lib.hid (show StrsV V1 (.slice a1 F.length c1) F from ⟨a1, c1, rfl, h1, h2, h3⟩)
  have HCELL := Lib.hid (show ∀ k, k < F.length → ∃ b o x, a1 = some ⟨b, o, none⟩ ∧ V1.cell? ⟨b, o + k, none⟩ = some (.string x) ∧ x.data.toList = F.getD k [] by
    intro k hk
    rcases h3 with h | ⟨b, o, e, h⟩
    · rw [h] at hk; simp at hk
    · exact ⟨b, o, bytesOf (F.getD k []), e, h k hk, rfl⟩)
  unfold maxLen at h2
  clear hown hB1 h3
  obtain ⟨cm, hcme⟩ : ∃ cm, s.extract 0 q = cm := ⟨_, rfl⟩
  go_wp2_with fail
  refine (CJ.out _ _ HV.out).mono ?_
  rintro e V2 ⟨rfl, hB2⟩
  have B2 := Lib.hid (B1.out.trans (hB2.mono B1.out.size))
  have K2 := Lib.hid hB2
  clear hB2
  rw [hcme] at hcz H5
  go_wp2
  obtain ⟨W3, hW3⟩ : ∃ W3, V2.alloc (.cells #[.string y, .string (⟨#[32]⟩ ++ y), .string (⟨#[9, 32, 9]⟩ ++ y ++ ⟨#[32, 32]⟩), .string (y ++ ⟨#[35]⟩ ++ cm), .string (y ++ ⟨#[32, 35, 32]⟩ ++ cm)] 9) = W3 := ⟨_, rfl⟩
  rw [hW3]
  have HB3 := Lib.hid (show Below V2.heap.size V2 W3 by rw [← hW3]; exact (Below.refl _ _).alloc (Nat.le_refl _) _)
  have HT := Lib.hid (show ∀ k, k < 5 → ∃ t, W3.cell? ⟨V2.heap.size, k, none⟩ = some (.string t) ∧ Reads F t by
    obtain ⟨r0, r1, r2, r3, r4⟩ := H5.out
    intro k hk
    rw [← hW3]
    rcases (show k = 0 ∨ k = 1 ∨ k = 2 ∨ k = 3 ∨ k = 4 by omega) with rfl | rfl | rfl | rfl | rfl
    · exact ⟨_, (World.cell?_alloc_at _ _ _ _ rfl).trans rfl, r0⟩
    · exact ⟨_, (World.cell?_alloc_at _ _ _ _ rfl).trans rfl, r1⟩
    · exact ⟨_, (World.cell?_alloc_at _ _ _ _ rfl).trans rfl, r2⟩
    · exact ⟨_, (World.cell?_alloc_at _ _ _ _ rfl).trans rfl, r3⟩
    · exact ⟨_, (World.cell?_alloc_at _ _ _ _ rfl).trans rfl, r4⟩)
  have B3 := Lib.hid (B2.out.trans (HB3.out.mono B2.out.size))
  have HV3 := Lib.hid ((HV.out.keep K2.out).keep HB3.out)
  have K3 := Lib.hid (K2.out.trans (HB3.out.mono K2.out.size))
  clear hW3 H5 hcz
  go_loopw [47] (fun i wr => ∃ k : Nat, k ≤ 5 ∧ i = .int .i64 k ∧ Below W3.heap.size W3 wr) (fun i _ => 5 - (intOf i).toNat)
  case atStart => exact ⟨0, by omega, rfl, Below.refl _ _⟩
  case round =>
    obtain ⟨k, hk, rfl, hB⟩ := hrel
    have HB := Lib.hid hB
    clear hB
    by_cases hlt : k < 5
    · obtain ⟨t, hct, hrd⟩ := HT.out k hlt
      have hct' := (HB.out.cell (p := ⟨V2.heap.size, k, none⟩) (block_lt_of_cell hct)).trans hct
      have HR := Lib.hid hrd
      clear hct hrd
      go_wp2_with fail
      refine (HR.out.call _).mono ?_
      rintro e V4 ⟨v4, rfl, a4, k4⟩
      have A4 := Lib.hid a4
      have K4 := Lib.hid (HB.out.trans (k4.mono HB.out.size))
      clear a4 k4
      go_wp2_with fail
      refine (equal_is true A4.out (HV3.out.keep K4.out) (by simp)).mono ?_
      rintro e V5 ⟨rfl, nq, rfl⟩
      go_wp2
      go_roundw
      case rel => exact ⟨k + 1, by omega, by go_num, below_drewN K4.out nq⟩
      case measure => simp [intOf]; omega
    · have hk5 : k = 5 := by omega
      subst hk5
      have B4 := Lib.hid (B3.out.trans (HB.out.mono B3.out.size))
      have K4 := Lib.hid (K3.out.trans (HB.out.mono K3.out.size))
      clear HB
      go_wp2
      obtain ⟨wo, rfl⟩ : ∃ wo : World, wo = wr := ⟨_, rfl⟩
      go_loopw [67] (fun i wr => ∃ k : Nat, k ≤ F.length ∧ i = .int .i64 k ∧ Below wo.heap.size wo wr) (fun i _ => F.length - (intOf i).toNat)
      case atStart => exact ⟨0, Nat.zero_le _, rfl, Below.refl _ _⟩
      case round =>
        obtain ⟨k, hk, rfl, hB⟩ := hrel
        have HB := Lib.hid hB
        clear hB
        by_cases hlt : k < F.length
        · obtain ⟨b, o, x, rfl, hcell, hx⟩ := HCELL.out k hlt
          obtain ⟨f, hf⟩ : ∃ f, F.getD k [] = f := ⟨_, rfl⟩
          rw [hf] at hx
          have hfm : f ∈ F := by rw [← hf, getD_lt hlt]; exact List.getElem_mem hlt
          obtain ⟨hf12, hfg⟩ := HF2.out f hfm
          have hlow := block_lt_of_cell hcell
          have hcw := ((K4.out.trans (HB.out.mono K4.out.size)).cell (p := ⟨b, o + k, none⟩) hlow).trans hcell
          have hxs : x.size ≤ 12 := by rw [← Lex.len_eq, hx]; exact hf12
          obtain ⟨j1, j2⟩ := joinS_one f hfg hf12
          have HX := Lib.hid hx
          have CO := Lib.hid (fun (v : Value) (V : World) (hv : StrsV V v [f]) => join_c [f] (bytesOf (quoteF f)) 0 v V hv (fun p hp => by simp at hp; subst hp; omega) (by simp [sumL]; omega) (by rw [j1]) j2)
          clear hcell hlow hf j1 j2 hfg hfm
          by_cases hx0 : x.size = 0
          · have hE : x.toList.isEmpty = true := by rw [Lib.toList_data, List.isEmpty_iff, ← List.length_eq_zero_iff, Lex.len_eq]; exact hx0
            have hq : bytesOf (quoteF f) = ⟨#[34]⟩ ++ x ++ ⟨#[34]⟩ := by
              refine (bytesOf_eq (b := (⟨#[34]⟩ : ByteArray) ++ x ++ ⟨#[34]⟩) ?_).symm
              have hf0 : f = [] := by rw [← hx, ← List.length_eq_zero_iff, Lex.len_eq]; exact hx0
              rw [app_list, app_list, hx, hf0]; rfl
            rw [hq] at CO
            clear hx hq hx0
            go_wp2_with fail
            refine (CO.out _ _ (StrsV.of_block (L := [f]) (heap_alloc_at rfl) (Nat.le_refl _) (by show 1 ≤ maxLen; unfold maxLen; decide) (by rw [← HX.out]; rfl))).mono ?_
            rintro e V5 ⟨rfl, k5⟩
            have K5 := Lib.hid k5
            clear k5
            go_wp2
            go_roundw
            case rel => ((repeat apply Exists.intro); exact ⟨⟨k + 1, by omega, by go_num, HB.out.trans (((Below.refl _ wr).alloc (Nat.le_refl _) _).mono HB.out.size |>.trans (K5.out.mono (by have := HB.out.size; simp; omega)))⟩, rfl⟩)
            case measure => simp [intOf]; omega
          · have hE := str_ne hx0
            have hfne : f ≠ [] := by intro e; rw [e] at hx; exact hx0 (by rw [← Lex.len_eq, hx]; rfl)
            have hany : bareB f = (!(f.any (· == 32)) && !(f.any (· == 35))) := by
              rw [bare_any f hfne, contains_is, ← Bool.not_or]
              congr 1
              rw [Bool.eq_iff_iff]
              simp only [List.any_eq_true, Bool.or_eq_true, decide_eq_true_iff, beq_iff_eq]
              constructor
              · rintro ⟨c, hc, h | h⟩
                · exact .inl ⟨c, hc, UInt8.toNat_inj.1 h⟩
                · exact .inr ⟨c, hc, UInt8.toNat_inj.1 h⟩
              · rintro (⟨c, hc, h⟩ | ⟨c, hc, h⟩)
                · exact ⟨c, hc, .inl (by rw [h]; rfl)⟩
                · exact ⟨c, hc, .inr (by rw [h]; rfl)⟩
            cases h32 : f.any (· == 32)
            · have C32 := Lib.hid (fun V : World => contains_c false x 32 (by rw [hx]; exact h32) V)
              cases h35 : f.any (· == 35)
              · have C35 := Lib.hid (fun V : World => contains_c false x 35 (by rw [hx]; exact h35) V)
                have hq : bytesOf (quoteF f) = x := by
                  unfold quoteF
                  rw [hany, h32, h35, if_pos (by rfl)]
                  exact (bytesOf_eq hx).symm
                rw [hq] at CO
                clear hx hq hx0 hfne hany h32 h35
                go_wp2_with fail
                refine (C32.out _).mono ?_
                rintro e V4 ⟨rfl, rfl⟩
                go_wp2_with fail
                refine (C35.out _).mono ?_
                rintro e V4 ⟨rfl, rfl⟩
                go_wp2_with fail
                refine (CO.out _ _ (StrsV.of_block (L := [f]) (heap_alloc_at rfl) (Nat.le_refl _) (by show 1 ≤ maxLen; unfold maxLen; decide) (by rw [← HX.out]; rfl))).mono ?_
                rintro e V5 ⟨rfl, k5⟩
                have K5 := Lib.hid k5
                clear k5
                go_wp2
                go_roundw
                case rel => ((repeat apply Exists.intro); exact ⟨⟨k + 1, by omega, by go_num, HB.out.trans (((Below.refl _ wr).alloc (Nat.le_refl _) _).mono HB.out.size |>.trans (K5.out.mono (by have := HB.out.size; simp; omega)))⟩, rfl⟩)
                case measure => simp [intOf]; omega
              · have C35 := Lib.hid (fun V : World => contains_c true x 35 (by rw [hx]; exact h35) V)
                have hq : bytesOf (quoteF f) = ⟨#[34]⟩ ++ x ++ ⟨#[34]⟩ := by
                  refine (bytesOf_eq (b := (⟨#[34]⟩ : ByteArray) ++ x ++ ⟨#[34]⟩) ?_).symm
                  unfold quoteF
                  rw [hany, h32, h35, if_neg (by simp), app_list, app_list, hx]
                  simp
                rw [hq] at CO
                clear hx hq hx0 hfne hany h32 h35
                go_wp2_with fail
                refine (C32.out _).mono ?_
                rintro e V4 ⟨rfl, rfl⟩
                go_wp2_with fail
                refine (C35.out _).mono ?_
                rintro e V4 ⟨rfl, rfl⟩
                go_wp2_with fail
                refine (CO.out _ _ (StrsV.of_block (L := [f]) (heap_alloc_at rfl) (Nat.le_refl _) (by show 1 ≤ maxLen; unfold maxLen; decide) (by rw [← HX.out]; rfl))).mono ?_
                rintro e V5 ⟨rfl, k5⟩
                have K5 := Lib.hid k5
                clear k5
                go_wp2
                go_roundw
                case rel => ((repeat apply Exists.intro); exact ⟨⟨k + 1, by omega, by go_num, HB.out.trans (((Below.refl _ wr).alloc (Nat.le_refl _) _).mono HB.out.size |>.trans (K5.out.mono (by have := HB.out.size; simp; omega)))⟩, rfl⟩)
                case measure => simp [intOf]; omega
            · have C32 := Lib.hid (fun V : World => contains_c true x 32 (by rw [hx]; exact h32) V)
              have hq : bytesOf (quoteF f) = ⟨#[34]⟩ ++ x ++ ⟨#[34]⟩ := by
                refine (bytesOf_eq (b := (⟨#[34]⟩ : ByteArray) ++ x ++ ⟨#[34]⟩) ?_).symm
                unfold quoteF
                rw [hany, h32, if_neg (by simp), app_list, app_list, hx]
                simp
              rw [hq] at CO
              clear hx hq hx0 hfne hany h32
              go_wp2_with fail
              refine (C32.out _).mono ?_
              rintro e V4 ⟨rfl, rfl⟩
              go_wp2_with fail
              refine (CO.out _ _ (StrsV.of_block (L := [f]) (heap_alloc_at rfl) (Nat.le_refl _) (by show 1 ≤ maxLen; unfold maxLen; decide) (by rw [← HX.out]; rfl))).mono ?_
              rintro e V5 ⟨rfl, k5⟩
              have K5 := Lib.hid k5
              clear k5
              go_wp2
              go_roundw
              case rel => ((repeat apply Exists.intro); exact ⟨⟨k + 1, by omega, by go_num, HB.out.trans (((Below.refl _ wr).alloc (Nat.le_refl _) _).mono HB.out.size |>.trans (K5.out.mono (by have := HB.out.size; simp; omega)))⟩, rfl⟩)
              case measure => simp [intOf]; omega
        · have hke : k = F.length := by omega
          subst hke
          have B5 := Lib.hid (B4.out.trans (HB.out.mono B4.out.size))
          clear HB
          go_wp2_with fail
          refine (works_any _ (HM.out.keep B5.out)).mono ?_
          rintro e V6 ⟨rfl, k6⟩
          go_wp2
          go_ret
          exact ⟨rfl, B5.out.trans (k6.mono B5.out.size)⟩

namespace lexemeBack
theorem own : ownKnob Tryd.prog.godebug = none := by kernel_rfl
set_option maxRecDepth 100000 in
theorem lifted (os : Os) (started : os.Started) (H : Type) (enc : TypeId × Value → H) :
    ReturnsInHanded {} Tryd.checked os 6 .any (fun w args => (Rows.lexemeBackSpec.pre enc Tryd.prog Tryd.f6 Rows.lexemeBackRow.domain false w args ∧ laidMetH Tryd.prog Rows.lexemeBackRow.laid w) ∧ sizedMet enc Tryd.prog Tryd.f6 (OpenSpec.ofChange Rows.lexemeBackSpec) false w args)
      (Rows.lexemeBackSpec.post enc Tryd.prog Tryd.f6 false true false false) := by
  refine handed_shaped (X := fun w _ => laidMetH Tryd.prog Rows.lexemeBackRow.laid w) own started (by kernel_rfl) Tryd.func6
    (ChangeSpec.witness_shaped (enc := enc) (C := Tryd.checked) (os := os) (X := fun w _ => laidMetH Tryd.prog Rows.lexemeBackRow.laid w) false (World.laidAll Tryd.prog os Rows.lexemeBackRow.laid) #[.slice none 0 0, .string ByteArray.empty] 8 (World.laidAll_os _ _ _)
      (World.shaped_of_ZipB (by kernel_rfl) (by kernel_rfl)) (by kernel_rfl) (by kernel_rfl) (by kernel_rfl)
      (by rw [MakeChecks.laidMetH_plain _ _ _ (by kernel_rfl)]; exact laidMet_laidAll _ (by kernel_rfl) (by kernel_rfl))) ?_
  intro W base args ds gs before hval0 hW hsh
  have hval : ∀ (j : Nat) t v, Tryd.f6.params[j]? = some t → args[j]? = some v → Value.okWide Tryd.prog W .any base t v := hval0
  have hW' := hW
  obtain ⟨p, q, hA0, hV, rfl, _, _⟩ := hW
  have hA : DataW.TrodAll enc Tryd.prog W 0 (fun _ => true) true Tryd.f6.params.toList args.toList ds p := hA0
  rw [Tryd.params6] at hA hval
  obtain ⟨v0, vs0, d0, ds0, p0, q0, hargs, rfl, rfl, h0, r0⟩ := trodAll_cons hA
  obtain ⟨v1, vs1, d1, ds1, p1, q1, rfl, rfl, rfl, h1, r1⟩ := trodAll_cons r0
  obtain ⟨rfl, rfl, rfl⟩ := trodAll_nil r1
  obtain rfl : args = #[v0, v1] := by cases args; simp_all
  obtain ⟨rfl, rfl⟩ := trodVars_none hV
  obtain ⟨a0, c0, R0, rfl, hc0, hx0, hb0⟩ := open_rows Tryd.underlying30 (hval 0 30 v0 rfl rfl) h0
  obtain ⟨s1, rfl, rfl, rfl, hs1⟩ := open_string Tryd.underlying9 (hval 1 9 v1 rfl rfl) h1
  refine (lexemeBack_walk R0 a0 c0 hc0 hx0 s1 hs1 W hb0 (max_at hsh)).mono fun e W' ⟨he, hB⟩ => ?_
  subst he
  refine ⟨_, rfl, post_law (by kernel_rfl) ?_ rfl hW' rfl rfl Tryd.underlying4 hB⟩
  rw [Tryd.params6]
  intro t ht
  have hall : ([30, 9].all fun u => Tryd.prog.readableRec u && decide (u < Tryd.prog.types.size)) = true := by kernel_rfl
  have h1 := List.all_eq_true.1 hall t ht
  have h2 : Tryd.prog.readableRec t = true ∧ t < Tryd.prog.types.size := by simpa using h1
  exact h2

theorem said : Rows.LexemeBackSaid :=
  OpenClaim.holds_of_wide 6 Tryd.f6 rfl rfl rfl rfl rfl rfl rfl ⟨rfl, rfl, rfl, rfl, rfl⟩ rfl rfl rfl rfl rfl (by kernel_rfl) Tryd.func6 (by kernel_rfl)
    (of_decide_eq_true (by kernel_rfl)) (by unfold Func.isWrapper; first | (rw [if_pos (by decide +kernel)]; kernel_rfl) | (rw [if_neg (by decide +kernel)]; exact ⟨rfl, rfl⟩))
    (fun os started H enc _ => lifted os started H enc)
theorem plain (f : FuncId) (fn : Func) (hf : Tryd.pinned.checked.prog.funcNamed "analemma/analemmalaw05.LexemeBack" = some f) (hfn : Tryd.pinned.checked.prog.funcs[f]? = some fn) :
    false = Tryd.pinned.checked.prog.looks [] ∧ ∀ (j : Nat) t, fn.params[j]? = some t → Tryd.pinned.checked.prog.wantsStandIn t = false := by
  obtain rfl : f = 6 := Option.some.inj ((show Tryd.prog.funcNamed "analemma/analemmalaw05.LexemeBack" = some 6 by kernel_rfl).symm.trans hf) |>.symm
  obtain rfl : fn = Tryd.f6 := (Option.some.inj (Tryd.func6.symm.trans hfn)).symm
  refine ⟨by kernel_rfl, fun j t ht => ?_⟩
  rw [Tryd.params6] at ht
  have hm : t ∈ [30, 9] := by simpa using Array.mem_of_getElem? ht
  have hall : ([30, 9].all fun u => !Tryd.prog.wantsStandIn u) = true := by kernel_rfl
  exact (show Tryd.prog.wantsStandIn t = false by simpa using List.all_eq_true.1 hall t hm)
theorem card : Rows.LexemeBackCardSaid :=
  Claim7.holds_tied_plain_at .later [] _ _ _ _ said (fun _ h => by cases h) (by kernel_rfl) (fun _ h => by cases h) lexemeBack_row_tie rfl ⟨rfl, rfl⟩ (by kernel_rfl) rfl plain (by kernel_rfl)
end lexemeBack
#print axioms lexemeBack.card
end Go.Proofs.YtjdckmhlgcjdgaaDoor
