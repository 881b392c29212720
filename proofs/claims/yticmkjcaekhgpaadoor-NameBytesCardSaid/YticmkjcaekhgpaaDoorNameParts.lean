/- The law NameParts returns true for all numbers, and its tied card holds; no condition beyond the row itself. -/
import Derived.Test.YticmkjcaekhgpaaDoorPartsL
import Derived.Test.YticmkjcaekhgpaaDoorSplitL
import Derived.Test.YticmkjcaekhgpaaDoorShaped
import Derived.Outline
namespace Go.Proofs.YticmkjcaekhgpaaDoor
open Go.ChangeShapes Go.WideShapes Go.ChangeAt Go.RowKit

/-- the parts of a name that strings.Split lays: a row at a new block, each part a name -/
theorem split_is (s : ByteArray) (hs : s.size ≤ 200) (hz : zoneOk s.data.toList = true) (w : World) (hm : ∃ m, w.cell? ⟨0, 0, none⟩ = some (.int .i64 m)) :
    Calls Tryd.prog 35 #[.string s, .string ⟨#[47]⟩] w fun e w' => ∃ (n : Nat), e = .returned (.slice (some ⟨w.heap.size, 0, none⟩) n n) ∧ n ≤ 1000 ∧
      (∀ j, j < n → ∃ p : ByteArray, w'.cell? ⟨w.heap.size, j, none⟩ = some (.string p) ∧ p.size ≤ 1000 ∧ zoneOk p.data.toList = true) ∧ Below w.heap.size w w' := by
  obtain ⟨m, hm⟩ := hm
  refine (Tryd.strings_Split s ⟨#[47]⟩ m w (by omega) hm (by decide)).mono ?_
  rintro e V ⟨rfl, rfl⟩
  have hl := split_lists _ s rfl
  have hn := Lib.splitB_all ⟨#[47]⟩ (by decide) 0 _ s rfl
  have hle := Lib.countB_le ⟨#[47]⟩ (by decide) s.size s (Nat.le_refl _)
  refine ⟨Lib.countB s ⟨#[47]⟩ + 1, rfl, by omega, fun j hj => ?_, (Below.refl _ _).alloc (Nat.le_refl _) _⟩
  have hj' : j < (Lib.splitB ⟨#[47]⟩ 0 (Lib.countB s ⟨#[47]⟩) s).length := by omega
  have hp : zoneOk ((Lib.splitB ⟨#[47]⟩ 0 (Lib.countB s ⟨#[47]⟩) s)[j].data.toList) = true := by
    refine zone_piece hz ?_
    rw [← hl]
    exact List.mem_map.2 ⟨_, List.getElem_mem hj', rfl⟩
  refine ⟨_, ?_, ?_, hp⟩
  · rw [World.cell?_alloc_at _ _ _ _ rfl]
    simp [hj']
  · have := zone_len _ hp
    rw [len_eq] at this
    omega

theorem rep_is (s o : ByteArray) (c : Int) (hs : s.size ≤ 10) (h0 : 0 ≤ c) (hc : c ≤ 30) (ho : bytesOf (Lib.repeatL s.data.toList c.toNat) = o) (w : World) :
    Calls Tryd.prog 36 #[.string s, .int .i64 c] w fun e w' => e = .returned (.string o) ∧ Below w.heap.size w w' := by
  obtain ⟨k, rfl⟩ := Int.eq_ofNat_of_zero_le h0
  have hm : s.size * k ≤ 10 * 30 := Nat.mul_le_mul hs (by omega)
  refine (Tryd.strings_Repeat s k w (by omega) (by omega)).mono ?_
  rintro e V ⟨rfl, hB⟩
  rw [Int.toNat_natCast] at ho
  exact ⟨by rw [← ho]; rfl, hB⟩
theorem ba_list {a b : ByteArray} : (a ++ b).data.toList = a.data.toList ++ b.data.toList := by rw [ByteArray.data_append, Array.toList_append]

set_option maxHeartbeats 4000000 in
theorem nameParts_walk (A : List (List UInt8)) (a : Option Addr) (ca : Nat) (hA : A.length ≤ ca) (hAm : ca ≤ maxLen) (B : List (List UInt8)) (b : Option Addr) (cb : Nat) (hB : B.length ≤ cb) (hBm : cb ≤ maxLen)
    (n : Int) (hn0 : 0 ≤ n) (hn : n ≤ 255) (W : World) (ra : RowsAt W a A) (rb : RowsAt W b B) (hm : ∃ m, W.cell? ⟨0, 0, none⟩ = some (.int .i64 m)) (h0W : 0 < W.heap.size) :
    Calls Tryd.prog 11 #[.slice a A.length ca, .slice b B.length cb, .int .u8 n] W fun e w' => e = .returned (.bool true) ∧ Below W.heap.size W w' := by
  obtain ⟨s, hs⟩ : ∃ s, bytesOf (zoneL A) = s := ⟨_, rfl⟩
  obtain ⟨t, ht⟩ : ∃ t, bytesOf (zoneL B) = t := ⟨_, rfl⟩
  have sl : s.data.toList = zoneL A := by rw [← hs]; rfl
  have tl : t.data.toList = zoneL B := by rw [← ht]; rfl
  have sz : s.size ≤ 59 := by rw [← len_eq, sl]; exact (zoneL_len A).2
  have tz : t.size ≤ 59 := by rw [← len_eq, tl]; exact (zoneL_len B).2
  have sm : s.size ≤ maxLen := by unfold maxLen; omega
  have tm : t.size ≤ maxLen := by unfold maxLen; omega
  have so : zoneOk s.data.toList = true := by rw [sl]; exact zoneL_ok A
  have to' : zoneOk t.data.toList = true := by rw [tl]; exact zoneL_ok B
  have C21a := Lib.hid (zone21_is s A a ca hA hAm hs)
  have C21b := Lib.hid (zone21_is t B b cb hB hBm ht)
  have C13s := Lib.hid (zone_is true s sm so)
  have C13t := Lib.hid (zone_is true t tm to')
  have C13j := Lib.hid (zone_is (decide ((s.size : Int) + (t.size : Int) ≤ 59)) (s ++ ⟨#[47]⟩ ++ t) (by unfold maxLen; rw [ByteArray.size_append, ByteArray.size_append]; show s.size + 1 + t.size ≤ _; omega)
    (by rw [ba_list, ba_list]; show zoneOk (_ ++ [47] ++ _) = _; rw [zoneOk_join _ _ so to', len_eq, len_eq, Bool.eq_iff_iff]; simp; omega))
  have C13e := Lib.hid (zone_is false (s ++ ⟨#[47]⟩) (by unfold maxLen; rw [ByteArray.size_append]; show s.size + 1 ≤ _; omega) (by rw [ba_list]; exact zoneOk_end _))
  have C13b := Lib.hid (zone_is false (⟨#[47]⟩ ++ s) (by unfold maxLen; rw [ByteArray.size_append]; show 1 + s.size ≤ _; omega) (by rw [ba_list]; exact zoneOk_begin _))
  have C13d := Lib.hid (zone_is false (s ++ ⟨#[47, 47]⟩ ++ t) (by unfold maxLen; rw [ByteArray.size_append, ByteArray.size_append]; show s.size + 2 + t.size ≤ _; omega) (by rw [ba_list, ba_list]; exact zoneOk_two _ _))
  have CSP := Lib.hid (split_is s (by omega) so)
  obtain ⟨o, ho⟩ : ∃ o, bytesOf (Lib.repeatL [120] (n % 20).toNat) = o := ⟨_, rfl⟩
  have CR1 := Lib.hid (rep_is ⟨#[120]⟩ o (n % 20) (by decide) (by omega) (by omega) ho)
  have ol : o.data.toList = xs (n % 20).toNat := by rw [← ho, bytesOf_list, xs_rep]
  have oz : o.size ≤ 20 := by rw [← len_eq, ol]; simp [xs]; omega
  obtain ⟨b1, h1⟩ : ∃ b, decide (1 ≤ n % 20) = b := ⟨_, rfl⟩
  obtain ⟨b2, h2⟩ : ∃ b, decide (n % 20 ≤ 14) = b := ⟨_, rfl⟩
  have C13o := Lib.hid (zone_is (b1 && b2) o (by unfold maxLen; omega) (by rw [ol, xs_ok, ← h1, ← h2]; congr 1 <;> (rw [Bool.eq_iff_iff]; first | (simp; done) | (simp; omega))))
  have C13p := Lib.hid (zone_is (b1 && b2) (⟨#[65, 47]⟩ ++ o) (by unfold maxLen; rw [ByteArray.size_append]; show 2 + o.size ≤ _; omega)
    (by rw [ba_list, ol]; show zoneOk (65 :: 47 :: xs (n % 20).toNat) = _; rw [xs_axs _ (by omega), xs_ok, ← h1, ← h2]; congr 1 <;> (rw [Bool.eq_iff_iff]; first | (simp; done) | (simp; omega))))
  obtain ⟨q, hq⟩ : ∃ q, bytesOf (Lib.repeatL [97, 98, 99, 47] (n % 17).toNat) = q := ⟨_, rfl⟩
  have CR2 := Lib.hid (rep_is ⟨#[97, 98, 99, 47]⟩ q (n % 17) (by decide) (by omega) (by omega) hq)
  have ml : (q ++ ⟨#[97, 98, 99, 100]⟩).data.toList = abcs (n % 17).toNat := by rw [ba_list, ← hq, bytesOf_list]; exact abcs_rep _
  have mz : (q ++ ⟨#[97, 98, 99, 100]⟩).size = q.size + 4 := by rw [ByteArray.size_append]; rfl
  have qz : q.size + 4 = 4 * (n % 17).toNat + 4 := by rw [← mz, ← len_eq, ml, abcs_len]
  have C13m := Lib.hid (zone_is (decide ((q.size : Int) + 4 ≤ 60)) (q ++ ⟨#[97, 98, 99, 100]⟩) (by unfold maxLen; omega) (by rw [ml, abcs_ok, Bool.eq_iff_iff]; simp; omega))
  have qs : q.size ≤ 100 := by omega
  have HM := Lib.hid hm
  have RA := Lib.hid ra
  have RB := Lib.hid rb
  have H1 := Lib.hid h1
  have H2 := Lib.hid h2
  unfold maxLen at hAm hBm
  clear hs ht sl tl sm tm so to' ra rb hm ho ol hq ml mz qz h1 h2
  go_enter Tryd.func11, Tryd.ntmps11
  go_wp2_with fail
  refine (C21a.out _ RA.out).mono ?_
  rintro e V1 ⟨rfl, k1⟩
  have B1 := Lib.hid k1
  have RB1 := Lib.hid (RB.out.keep k1)
  clear k1
  go_wp2_with fail
  refine (C21b.out _ RB1.out).mono ?_
  rintro e V2 ⟨rfl, k2⟩
  have B2 := Lib.hid (B1.out.trans (k2.mono B1.out.size))
  clear k2
  go_wp2_with fail
  refine (C13s.out _).mono ?_
  rintro e V3 ⟨rfl, k3⟩
  have B3 := Lib.hid (B2.out.trans (k3.mono B2.out.size))
  clear k3
  go_wp2_with fail
  refine (C13t.out _).mono ?_
  rintro e V4 ⟨rfl, k4⟩
  have B4 := Lib.hid (B3.out.trans (k4.mono B3.out.size))
  clear k4
  go_wp2_with fail
  refine (C13j.out _).mono ?_
  rintro e V5 ⟨rfl, k5⟩
  have B5 := Lib.hid (B4.out.trans (k5.mono B4.out.size))
  have HM5 := Lib.hid (show ∃ m, V5.cell? ⟨0, 0, none⟩ = some (.int .i64 m) from HM.out.imp fun m h => (B5.out.cell (p := ⟨0, 0, none⟩) h0W).trans h)
  clear k5
  go_wp2_with fail
  refine (CSP.out _ HM5.out).mono ?_
  rintro e V6 ⟨N, rfl, hN, hcells, k6⟩
  have B6 := Lib.hid (B5.out.trans (k6.mono B5.out.size))
  have HC := Lib.hid hcells
  clear k6 hcells
  go_wp2_with fail
  go_loopw [42, 10] (fun i _ wr => ∃ k : Nat, k ≤ N ∧ i = .int .i64 k ∧ Below V6.heap.size V6 wr) (fun i _ _ => N - (intOf i).toNat)
  case atStart => exact ⟨0, Nat.zero_le _, rfl, Below.refl _ _⟩
  case round =>
    obtain ⟨k, hk, rfl, kr⟩ := hrel
    have KR := Lib.hid kr
    clear kr
    by_cases hlt : k < N
    · obtain ⟨p, hc, hps, hpo⟩ := HC.out k hlt
      have hc' := (KR.out.cell (p := ⟨V5.heap.size, k, none⟩) (block_lt_of_cell hc)).trans hc
      have C13k := Lib.hid (zone_is true p (by unfold maxLen; omega) hpo)
      clear hpo hc
      go_wp2_with fail
      refine (C13k.out _).mono ?_
      rintro e V7 ⟨rfl, k7⟩
      have K7 := Lib.hid k7
      clear k7
      go_wp2
      go_roundw
      case rel => exact ⟨k + 1, by omega, by go_num, KR.out.trans (K7.out.mono KR.out.size)⟩
      case measure => simp [intOf]; omega
    · go_wp2_with fail
      refine (CR1.out _).mono ?_
      rintro e V7 ⟨rfl, k7⟩
      have B7 := Lib.hid (B6.out.trans ((KR.out.trans (k7.mono KR.out.size)).mono B6.out.size))
      clear k7
      go_wp2_with fail
      refine (C13o.out _).mono ?_
      rintro e V8 ⟨rfl, k8⟩
      have B8 := Lib.hid (B7.out.trans (k8.mono B7.out.size))
      clear k8
      have h1 := H1.out
      have h2 := H2.out
      clear H1 H2
      cases b1 <;> cases b2
      all_goals
        go_wp2_with fail
        refine (C13p.out _).mono ?_
        rintro e V9 ⟨rfl, k9⟩
        have B9 := Lib.hid (B8.out.trans (k9.mono B8.out.size))
        clear k9
        go_wp2_with fail
        refine (C13o.out _).mono ?_
        rintro e V10 ⟨rfl, k10⟩
        have B10 := Lib.hid (B9.out.trans (k10.mono B9.out.size))
        clear k10
        go_wp2_with fail
        refine (CR2.out _).mono ?_
        rintro e V11 ⟨rfl, k11⟩
        have B11 := Lib.hid (B10.out.trans (k11.mono B10.out.size))
        clear k11
        go_wp2_with fail
        refine (C13m.out _).mono ?_
        rintro e V12 ⟨rfl, k12⟩
        have B12 := Lib.hid (B11.out.trans (k12.mono B11.out.size))
        clear k12
        go_wp2_with fail
        refine (C13e.out _).mono ?_
        rintro e V13 ⟨rfl, k13⟩
        have B13 := Lib.hid (B12.out.trans (k13.mono B12.out.size))
        clear k13
        go_wp2_with fail
        refine (C13b.out _).mono ?_
        rintro e V14 ⟨rfl, k14⟩
        have B14 := Lib.hid (B13.out.trans (k14.mono B13.out.size))
        clear k14
        go_wp2_with fail
        refine (C13d.out _).mono ?_
        rintro e V15 ⟨rfl, k15⟩
        have B15 := Lib.hid (B14.out.trans (k15.mono B14.out.size))
        clear k15
        go_wp2_with fail
        refine (works_any _).mono ?_
        rintro e V16 ⟨rfl, k16⟩
        go_wp2
        go_ret
        exact ⟨rfl, B15.out.trans (k16.mono B15.out.size)⟩

namespace nameParts
theorem own : ownKnob Tryd.prog.godebug = none := by kernel_rfl
set_option maxRecDepth 100000 in
theorem lifted (os : Os) (started : os.Started) (H : Type) (enc : TypeId × Value → H) :
    ReturnsInHanded {} Tryd.checked os 11 .any (fun w args => (Rows.namePartsSpec.pre enc Tryd.prog Tryd.f11 Rows.namePartsRow.domain false w args ∧ laidMetH Tryd.prog Rows.namePartsRow.laid w) ∧ sizedMet enc Tryd.prog Tryd.f11 (OpenSpec.ofChange Rows.namePartsSpec) false w args)
      (Rows.namePartsSpec.post enc Tryd.prog Tryd.f11 false true false false) := by
  refine handed_shaped (X := fun w _ => laidMetH Tryd.prog Rows.namePartsRow.laid w) own started (by kernel_rfl) Tryd.func11
    (ChangeSpec.witness_shaped (enc := enc) (C := Tryd.checked) (os := os) (X := fun w _ => laidMetH Tryd.prog Rows.namePartsRow.laid w) false (World.laidAll Tryd.prog os Rows.namePartsRow.laid) #[.slice none 0 0, .slice none 0 0, .int .u8 0] 8 (World.laidAll_os _ _ _)
      (World.shaped_of_ZipB (by kernel_rfl) (by kernel_rfl)) (by kernel_rfl) (by kernel_rfl) (by kernel_rfl)
      (by rw [MakeChecks.laidMetH_plain _ _ _ (by kernel_rfl)]; exact laidMet_laidAll _ (by kernel_rfl) (by kernel_rfl))) ?_
  intro W base args ds gs before hval0 hW hsh
  have hval : ∀ (j : Nat) t v, Tryd.f11.params[j]? = some t → args[j]? = some v → Value.okWide Tryd.prog W .any base t v := hval0
  have hW' := hW
  obtain ⟨p, q, hA0, hV, rfl, _, _⟩ := hW
  have hA : DataW.TrodAll enc Tryd.prog W 0 (fun _ => true) true Tryd.f11.params.toList args.toList ds p := hA0
  rw [Tryd.params11] at hA hval
  obtain ⟨v0, vs0, d0, ds0, p0, q0, hargs, rfl, rfl, h0, r0⟩ := trodAll_cons hA
  obtain ⟨v1, vs1, d1, ds1, p1, q1, rfl, rfl, rfl, h1, r1⟩ := trodAll_cons r0
  obtain ⟨v2, vs2, d2, ds2, p2, q2, rfl, rfl, rfl, h2, r2⟩ := trodAll_cons r1
  obtain ⟨rfl, rfl, rfl⟩ := trodAll_nil r2
  obtain rfl : args = #[v0, v1, v2] := by cases args; simp_all
  obtain ⟨rfl, rfl⟩ := trodVars_none hV
  obtain ⟨a0, c0, R0, rfl, hc0, hx0, hb0⟩ := open_rows (hval 0 24 v0 rfl rfl) h0
  obtain ⟨a1, c1, R1, rfl, hc1, hx1, hb1⟩ := open_rows (hval 1 24 v1 rfl rfl) h1
  obtain ⟨n2, rfl, rfl, rfl, hn2⟩ := open_int Tryd.underlying5 (hval 2 5 v2 rfl rfl) h2
  refine ((fun hb2 => nameParts_walk R0 a0 c0 hc0 hx0 R1 a1 c1 hc1 hx1 n2 hb2.1 hb2.2 W hb0 hb1 (maxLen_cell hsh) (by obtain ⟨m, hm⟩ := maxLen_cell hsh; exact block_lt_of_cell hm)) (show 0 ≤ n2 ∧ n2 ≤ 255 by have := bounds_u8 hn2; omega)).mono fun e W' ⟨he, hB⟩ => ?_
  subst he
  refine ⟨_, rfl, post_law (by kernel_rfl) ?_ rfl hW' rfl rfl Tryd.underlying4 hB⟩
  rw [Tryd.params11]
  intro t ht
  have hall : ([24, 24, 5].all fun u => Tryd.prog.readableRec u && decide (u < Tryd.prog.types.size)) = true := by kernel_rfl
  have h1 := List.all_eq_true.1 hall t ht
  have h2 : Tryd.prog.readableRec t = true ∧ t < Tryd.prog.types.size := by simpa using h1
  exact h2

theorem said : Rows.NamePartsSaid :=
  OpenClaim.holds_of_wide 11 Tryd.f11 rfl rfl rfl rfl rfl rfl rfl ⟨rfl, rfl, rfl, rfl, rfl⟩ rfl rfl rfl rfl rfl (by kernel_rfl) Tryd.func11 (by kernel_rfl)
    (of_decide_eq_true (by kernel_rfl)) (by unfold Func.isWrapper; first | (rw [if_pos (by decide +kernel)]; kernel_rfl) | (rw [if_neg (by decide +kernel)]; exact ⟨rfl, rfl⟩))
    (fun os started H enc _ => lifted os started H enc)
theorem plain (f : FuncId) (fn : Func) (hf : Tryd.pinned.checked.prog.funcNamed "analemma/analemmalaw07.NameParts" = some f) (hfn : Tryd.pinned.checked.prog.funcs[f]? = some fn) :
    false = Tryd.pinned.checked.prog.looks [] ∧ ∀ (j : Nat) t, fn.params[j]? = some t → Tryd.pinned.checked.prog.wantsStandIn t = false := by
  obtain rfl : f = 11 := Option.some.inj ((show Tryd.prog.funcNamed "analemma/analemmalaw07.NameParts" = some 11 by kernel_rfl).symm.trans hf) |>.symm
  obtain rfl : fn = Tryd.f11 := (Option.some.inj (Tryd.func11.symm.trans hfn)).symm
  refine ⟨by kernel_rfl, fun j t ht => ?_⟩
  rw [Tryd.params11] at ht
  have hm : t ∈ [24, 24, 5] := by simpa using Array.mem_of_getElem? ht
  have hall : ([24, 24, 5].all fun u => !Tryd.prog.wantsStandIn u) = true := by kernel_rfl
  exact (show Tryd.prog.wantsStandIn t = false by simpa using List.all_eq_true.1 hall t hm)
theorem card : Rows.NamePartsCardSaid :=
  Claim7.holds_tied_plain_at .later [] _ _ _ _ said (fun _ h => by cases h) (by kernel_rfl) (fun _ h => by cases h) nameParts_row_tie rfl ⟨rfl, rfl⟩ (by kernel_rfl) rfl plain (by kernel_rfl)
end nameParts
#print axioms nameParts.card
end Go.Proofs.YticmkjcaekhgpaaDoor
