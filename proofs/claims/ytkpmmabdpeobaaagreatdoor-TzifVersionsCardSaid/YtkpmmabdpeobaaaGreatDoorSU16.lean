/- Abbreviations of tables: table.abbr and analemmaref40.abbr. The function analemmaref40.types: the error of the types of a table. The types of a table that the program has seen, as maps: what they hold, and the sum over the second one, plain; a step of a range over a map from strings to integers. The function analemmaref40.transitions: the error of the transitions of a table. The method types of table.checker: the error of the types of a table. The method trans of table.checker: the error of the transitions of a table. -/
import Derived.Test.YtkpmmabdpeobaaaGreatDoorSU4
import Derived.Test.YtkpmmabdpeobaaaGreatDoorSU14
import Derived.Deep.QuietTactic
import Derived.BigQuiet
import Derived.Outline
import Derived.Maps.RangeWalk
import Derived.Carry
namespace Go.Proofs.YtkpmmabdpeobaaaGreatDoor.Px
open Go.RowKit
open Civ
theorem inB_iff {c : UInt8} : inB c = true ↔ ((65 ≤ c.toNat ∧ c.toNat ≤ 90) ∨ (97 ≤ c.toNat ∧ c.toNat ≤ 122)) ∨ (48 ≤ c.toNat ∧ c.toNat ≤ 57) ∨ c.toNat = 43 ∨ c.toNat = 45 := by
 unfold inB letC othC
 simp [or_assoc]
set_option maxHeartbeats 4000000 in
theorem rabbr_any (s : ByteArray) (hs : s.size ≤ maxLen) (w : World) :
 Calls Tryz.prog 114 #[.string s] w fun e w' => e = .returned (.bool (nameOk s.data.toList)) ∧ w = w' := by
 have hn : nameOk s.data.toList = (decide (3 ≤ s.size) && decide (s.size ≤ 7) && s.data.toList.all inB) := by unfold nameOk; rw [len_list]
 have HN := Lib.hid hn
 clear hn
 unfold maxLen at hs
 go_enter Tryz.func114, Tryz.ntmps114
 go_wp2_with fail
 go_loop [3, 4, 5] (fun i _ _ => ∃ k : Nat, k ≤ s.size ∧ i = .int .i64 k ∧ (s.data.toList.take k).all inB = true) (fun i _ _ => s.size - (intOf i).toNat)
 case atStart => exact ⟨0, Nat.zero_le _, rfl, rfl⟩
 case round =>
  obtain ⟨k, hk, rfl, hin⟩ := hrel
  have HIN := Lib.hid hin
  clear hin
  by_cases hlt : k < s.size
  · have hki : (k : Int) < (s.size : Int) := by omega
    have hsn := take_snoc s k hlt
    have HB := Lib.hid (fun h : inB s[k] = false => all_bad k hlt h)
    have HI := Lib.hid (inB_iff (c := s[k]))
    have HS := Lib.hid (fun h : inB s[k] = true => show (s.data.toList.take (k + 1)).all inB = true by rw [hsn, List.all_append, HIN.out]; simp [h])
    clear hsn
    have HNB := Lib.hid (fun h : inB s[k] = false => show Ending.returned (Value.bool false) = Ending.returned (Value.bool (nameOk s.data.toList)) by rw [HN.out, HB.out h, Bool.and_false])
    by_cases hb : inB s[k] = true
    · have HK := Lib.hid (HS.out hb)
      have hr := HI.out.1 hb
      clear HNB HS HI HB hb
      go_wp2_with fail
      all_goals first
       | (exfalso; omega)
       | (exfalso; simp at *; omega)
       | (go_round; (case rel => exact ⟨k + 1, by omega, by go_num, HK.out⟩); (case measure => simp [intOf]; omega))
    · have HK := Lib.hid (HNB.out (by simpa using hb))
      have hr : ¬ (((65 ≤ s[k].toNat ∧ s[k].toNat ≤ 90) ∨ (97 ≤ s[k].toNat ∧ s[k].toNat ≤ 122)) ∨ (48 ≤ s[k].toNat ∧ s[k].toNat ≤ 57) ∨ s[k].toNat = 43 ∨ s[k].toNat = 45) := fun h => hb (HI.out.2 h)
      clear HNB HS HI HB hb
      go_wp2_with fail
      all_goals first
       | (exfalso; omega)
       | (exfalso; simp at *; omega)
       | (go_ret; exact ⟨HK.out, rfl⟩)
  · have hks : k = s.size := by omega
    subst hks
    have hall := Lib.hid (show s.data.toList.all inB = true by have := HIN.out; rwa [List.take_of_length_le (by rw [len_list]; omega)] at this)
    by_cases h3 : 3 ≤ s.size
    · by_cases h7 : s.size ≤ 7
      · have i3 : (3 : Int) ≤ (s.size : Int) := by omega
        have i7 : (s.size : Int) ≤ 7 := by omega
        go_wp2_with fail
        go_ret
        exact ⟨by rw [HN.out, decide_eq_true h3, decide_eq_true h7, hall.out]; rfl, rfl⟩
      · have i3 : (3 : Int) ≤ (s.size : Int) := by omega
        have i7 : (7 : Int) < (s.size : Int) := by omega
        go_wp2_with fail
        go_ret
        exact ⟨by rw [HN.out, decide_eq_true h3, decide_eq_false h7]; simp; omega, rfl⟩
    · have i3 : (s.size : Int) < 3 := by omega
      go_wp2_with fail
      go_ret
      exact ⟨by rw [HN.out, decide_eq_false h3]; rfl, rfl⟩
def inN (n : Nat) : Bool := (decide (65 ≤ n) && decide (n ≤ 90)) || (decide (97 ≤ n) && decide (n ≤ 122)) || (decide (48 ≤ n) && decide (n ≤ 57)) || decide (n = 43) || decide (n = 45)
theorem inN_iff {n : Nat} : inN n = true ↔ ((65 ≤ n ∧ n ≤ 90) ∨ (97 ≤ n ∧ n ≤ 122)) ∨ (48 ≤ n ∧ n ≤ 57) ∨ n = 43 ∨ n = 45 := by
 unfold inN
 simp [or_assoc]
theorem inN_byte (c : UInt8) : inN c.toNat = inB c := by rw [Bool.eq_iff_iff, inN_iff, inB_iff]
theorem inN_high {n : Nat} (h : 128 ≤ n) : inN n = false := by
 rw [Bool.eq_false_iff]
 intro e
 have := inN_iff.1 e
 omega
theorem decode_high (s : ByteArray) (pos : Nat) (h : pos < s.size) (hb : 128 ≤ s[pos].toNat) : 128 ≤ (Utf8.decode s pos).1 := by
 have e : (s.get! (pos + 0)).toNat = s[pos].toNat := by simp [ByteArray.get!, ByteArray.getElem_eq_getElem_data, h]
 unfold Utf8.decode
 dsimp only
 have hn : ¬ (s.get! (pos + 0)).toNat < 128 := by rw [e]; omega
 rw [if_neg hn]
 split
 · split
   · omega
   · decide
 · split
   · split
     · rename_i h2
       have h3 := of_decide_eq_true (Bool.and_eq_true_iff.1 h2).1
       dsimp only
       omega
     · decide
   · split
     · split
       · rename_i h2
         have h3 := of_decide_eq_true (Bool.and_eq_true_iff.1 h2).1
         dsimp only
         omega
       · decide
     · decide
theorem idx_in (s : ByteArray) : ∀ (f pos : Nat), s.size ≤ pos + f → decide (0 ≤ Lib.idxFuncFrom (fun n => !inN n) true s f pos) = !((s.data.toList.drop pos).all inB)
 | 0, pos, h => by
   rw [List.drop_of_length_le (by rw [len_list]; omega)]
   rfl
 | f + 1, pos, h => by
   unfold Lib.idxFuncFrom
   by_cases hp : pos < s.size
   · rw [if_pos hp, List.drop_eq_getElem_cons (by rw [len_list]; exact hp), List.all_cons]
     have e : s.data.toList[pos]'(by rw [len_list]; exact hp) = s[pos] := by simp [ByteArray.getElem_eq_getElem_data]
     rw [e]
     by_cases hb : inB s[pos] = true
     · have h128 : s[pos].toNat < 128 := by have := inB_iff.1 hb; omega
       rw [decode_ascii s pos hp h128]
       dsimp only
       rw [inN_byte, hb, if_neg (by simp), Bool.true_and]
       exact idx_in s f (pos + 1) (by omega)
     · have hb' : inB s[pos] = false := by simpa using hb
       have hp2 : (!inN (Utf8.decode s pos).1) = true := by
        by_cases h128 : s[pos].toNat < 128
        · rw [decode_ascii s pos hp h128]
          dsimp only
          rw [inN_byte, hb']
          rfl
        · rw [inN_high (decode_high s pos hp (by omega))]
          rfl
       rw [if_pos hp2, hb']
       simp
   · rw [if_neg hp, List.drop_of_length_le (by rw [len_list]; omega)]
     rfl
theorem wrong_any (n : Nat) (W : World) : FnGives Tryz.prog 150 #[] #[encR n] (.bool (!inN n)) W := by
 have hI := Lib.hid (inN_iff (n := n))
 show Calls Tryz.prog 150 #[.int .i32 (n : Int)] W fun e w' => e = .returned (.bool (!inN n)) ∧ ∃ q, w' = W.drewN q
 cases hb : inN n
 · have hr : ¬ (((65 ≤ n ∧ n ≤ 90) ∨ (97 ≤ n ∧ n ≤ 122)) ∨ (48 ≤ n ∧ n ≤ 57) ∨ n = 43 ∨ n = 45) := fun h => by rw [hI.out.2 h] at hb; cases hb
   clear hb hI
   go_enter Tryz.func150, Tryz.ntmps150
   go_wp2_with fail
   all_goals first
    | (go_ret; exact ⟨rfl, 0, rfl⟩)
    | (exfalso; omega)
    | (go_ret; refine ⟨congrArg Ending.returned (congrArg Value.bool ?_), 0, rfl⟩; first | rfl | (simp; done) | (simp; omega))
    | (exfalso; simp at *; omega)
 · have hr := hI.out.1 hb
   clear hb hI
   go_enter Tryz.func150, Tryz.ntmps150
   go_wp2_with fail
   all_goals first
    | (go_ret; exact ⟨rfl, 0, rfl⟩)
    | (exfalso; omega)
    | (go_ret; refine ⟨congrArg Ending.returned (congrArg Value.bool ?_), 0, rfl⟩; first | rfl | (simp; done) | (simp; omega))
    | (exfalso; simp at *; omega)
theorem enters_wrong : ∀ args w, (callFunc 150 args).run Tryz.prog w = .ok (.enter 150 args) w := enters_of Tryz.func150 (by kernel_rfl) rfl
theorem abbr_any (s : ByteArray) (hs : s.size ≤ maxLen) (w : World) :
 Calls Tryz.prog 104 #[.string s] w fun e w' => e = .returned (.bool (nameOk s.data.toList)) ∧ Below w.heap.size w w' := by
 have hn : nameOk s.data.toList = (decide (3 ≤ s.size) && decide (s.size ≤ 7) && s.data.toList.all inB) := by unfold nameOk; rw [len_list]
 rw [hn]
 have C := Tryz.strings_ContainsFunc 150 #[] enters_wrong (fun n => !inN n) s w (fun W x _ => wrong_any x W)
 have hi := idx_in s s.size 0 (by omega)
 rw [List.drop_zero] at hi
 unfold Lib.idxFunc at C
 rw [hi] at C
 have C := Lib.hid C
 clear hn hi
 unfold maxLen at hs
 by_cases h3 : 3 ≤ s.size
 · by_cases h7 : s.size ≤ 7
   · have i3 : (3 : Int) ≤ (s.size : Int) := by omega
     have i7 : (s.size : Int) ≤ 7 := by omega
     rw [decide_eq_true h3, decide_eq_true h7]
     cases ha : s.data.toList.all inB
     all_goals
      rw [ha] at C
      go_enter Tryz.func104, Tryz.ntmps104
      go_wp2_with fail
      refine C.out.mono ?_
      rintro e V ⟨rfl, hb⟩
      have HV := Lib.hid hb
      clear hb
      go_wp2_with fail
      go_ret
      exact ⟨rfl, HV.out⟩
   · have i3 : (3 : Int) ≤ (s.size : Int) := by omega
     have i7 : (7 : Int) < (s.size : Int) := by omega
     rw [decide_eq_true h3, decide_eq_false h7]
     go_enter Tryz.func104, Tryz.ntmps104
     go_wp2_with fail
     go_ret
     exact ⟨rfl, Below.refl _ _⟩
 · have i3 : (s.size : Int) < 3 := by omega
   rw [decide_eq_false h3]
   go_enter Tryz.func104, Tryz.ntmps104
   go_wp2_with fail
   go_ret
   exact ⟨rfl, Below.refl _ _⟩
end Go.Proofs.YtkpmmabdpeobaaaGreatDoor.Px
namespace Go.Proofs.YtkpmmabdpeobaaaGreatDoor.Px
open Go.RowKit
open Tb
theorem lcE_rng {l : Lc} (h : l.off < -54000 ∨ 54000 < l.off) : lcE l = 3 := by unfold lcE; rw [if_pos h]
theorem lcE_abbr {l : Lc} (h : ¬ (l.off < -54000 ∨ 54000 < l.off)) (hn : nameOk l.abbr.data.toList = false) : lcE l = 15 := by unfold lcE; rw [if_neg h, if_pos hn]
theorem lcE_ok {l : Lc} (h : ¬ (l.off < -54000 ∨ 54000 < l.off)) (hn : nameOk l.abbr.data.toList = true) : lcE l = 0 := by unfold lcE; rw [if_neg h, if_neg (by rw [hn]; decide)]
theorem nameOk_size {s : ByteArray} (h : nameOk s.data.toList = true) : s.size ≤ 7 := by
 unfold nameOk at h
 rw [len_list] at h
 simp only [Bool.and_eq_true, decide_eq_true_eq] at h
 omega
theorem go_bad {pre : List Lc} {n : Nat} {l : Lc} {r : List Lc} {x : Int} (h : lcE l = x) (hx : x ≠ 0) : typesGo pre n (l :: r) = x := by unfold typesGo; rw [h, if_pos hx]
theorem go_twice {pre : List Lc} {n : Nat} {l : Lc} {r : List Lc} (h : lcE l = 0) (hm : l ∈ pre) : typesGo pre n (l :: r) = 10 := by unfold typesGo; rw [if_neg (by rw [h]; decide), if_pos hm]
theorem go_next {pre : List Lc} {n : Nat} {l : Lc} {r : List Lc} (h : lcE l = 0) (hm : l ∉ pre) : typesGo pre n (l :: r) = typesGo (pre ++ [l]) (if pre.any (fun p => decide (p.abbr = l.abbr)) = true then n else n + l.abbr.size + 1) r := by
 rw [typesGo, if_neg (by rw [h]; decide), if_neg hm]
theorem lc_i {l : Lc} (h : Lc.Fit l) : -9223372036854775808 ≤ l.off ∧ l.off ≤ 9223372036854775807 := bounds_i64 h.1
theorem ba_eq {a b : ByteArray} (h : a.toList = b.toList) : a = b := by
 apply ByteArray.ext
 apply Array.ext'
 rw [← ByteArray.toList_eq, ← ByteArray.toList_eq, h]
theorem loc_ne {y l : Lc} (h : y ≠ l) : ∀ X : World, (if y.off = l.off then (if y.dst = l.dst then (if y.abbr.toList = l.abbr.toList then Result.ok (Next.value (Value.bool true)) X else Result.ok (Next.value (Value.bool false)) X) else Result.ok (Next.value (Value.bool false)) X) else Result.ok (Next.value (Value.bool false)) X) = Result.ok (Next.value (Value.bool false)) X := by
 intro X
 by_cases h1 : y.off = l.off
 case neg => rw [if_neg h1]
 rw [if_pos h1]
 by_cases h2 : y.dst = l.dst
 case neg => rw [if_neg h2]
 rw [if_pos h2]
 by_cases h3 : y.abbr.toList = l.abbr.toList
 case neg => rw [if_neg h3]
 exfalso
 apply h
 obtain ⟨_, _, _⟩ := y
 obtain ⟨_, _, _⟩ := l
 simp only [Lc.mk.injEq]
 exact ⟨h1, h2, ba_eq h3⟩
set_option maxHeartbeats 4000000 in
set_option maxRecDepth 100000 in
theorem rtypes_any (L : List Lc) (v : Value) (W : World) (h : LcV W v L) (hf : ∀ l ∈ L, Lc.Fit l) :
 Calls Tryz.prog 66 #[v] W fun e w' => e = .returned (.int .i64 (typesE L)) ∧ Below W.heap.size W w' := by
 obtain ⟨n, hn⟩ : ∃ n, L.length = n := ⟨_, rfl⟩
 by_cases h0 : n = 0
 · obtain ⟨a, c, rfl, _, _⟩ := h.slice
   rw [hn]
   have e0 : typesE L = 4 := by unfold typesE; rw [if_pos (by omega)]
   rw [e0]
   clear e0 h hf
   subst h0
   go_enter Tryz.func66, Tryz.ntmps66
   go_wp2_with fail
   go_ret
   exact ⟨rfl, Below.refl _ _⟩
 by_cases h254 : 254 < n
 · obtain ⟨a, c, rfl, _, _⟩ := h.slice
   rw [hn]
   have e0 : typesE L = 7 := by unfold typesE; rw [if_neg (by omega), if_pos (by omega)]
   rw [e0]
   have i0 : ¬ ((n : Int) = 0) := by omega
   have i1 : (254 : Int) < (n : Int) := by omega
   clear e0 h hf
   go_enter Tryz.func66, Tryz.ntmps66
   go_wp2_with fail
   go_ret
   exact ⟨rfl, Below.refl _ _⟩
 have eT : typesE L = typesGo [] 0 L := by unfold typesE; rw [if_neg (by omega), if_neg (by omega)]
 rw [eT]
 obtain ⟨b, o, c, rfl, hc1, hc2, hb, hcell⟩ := h.all (by omega)
 rw [hn] at hc1
 rw [hn]
 have HC := Lib.hid hcell
 have HF := Lib.hid hf
 have HN := Lib.hid hn
 have i0 : ¬ ((n : Int) = 0) := by omega
 have i1 : ¬ ((254 : Int) < (n : Int)) := by omega
 unfold maxLen at hc2
 obtain ⟨R, hR⟩ : ∃ R, typesGo [] 0 L = R := ⟨_, rfl⟩
 rw [hR]
 have HR := Lib.hid hR
 clear eT h hcell hf hn hR
 go_enter Tryz.func66, Tryz.ntmps66
 go_wp2_with fail
 go_loopw [3, 4, 5, 6] (fun b3 i4 _ _ wr => ∃ (i m : Nat), i ≤ n ∧ i4 = .int .i64 i ∧ b3 = .int .i64 m ∧ m ≤ 8 * i ∧ typesGo (L.take i) m (L.drop i) = R ∧ Below W.heap.size W wr) (fun _ i4 _ _ _ => n - (intOf i4).toNat)
 case atStart => exact ⟨0, 0, by omega, rfl, rfl, by omega, HR.out, Below.refl _ _⟩
 case round =>
  obtain ⟨i, m, hi, rfl, rfl, hm, hgo, hB⟩ := hrel
  have HG := Lib.hid hgo
  have HB := Lib.hid hB
  clear hgo hB
  by_cases hlt : i < n
  · have hli : i < L.length := by have := HN.out; omega
    obtain ⟨l, hl⟩ : ∃ l, L[i]? = some l := ⟨_, List.getElem?_eq_getElem hli⟩
    have hmem : l ∈ L := List.mem_of_getElem? hl
    have hdrop : L.drop i = l :: L.drop (i + 1) := by
     rw [List.drop_eq_getElem_cons hli]
     rw [List.getElem?_eq_getElem hli] at hl
     rw [Option.some.inj hl]
    have htake : L.take (i + 1) = L.take i ++ [l] := by rw [List.take_add_one, hl]; rfl
    have HG2 := HG.out
    rw [hdrop] at HG2
    have HL := Lib.hid (show typesGo (L.take i) m (l :: L.drop (i + 1)) = R from HG2)
    have HT := Lib.hid htake
    obtain ⟨c0, c1, c2⟩ := HC.out i l hl
    have k0 := (HB.out.cell (p := ⟨b, o + i * 3, none⟩) hb).trans c0
    have k1 := (HB.out.cell (p := ⟨b, o + i * 3 + 1, none⟩) hb).trans c1
    have k2 := (HB.out.cell (p := ⟨b, o + i * 3 + 2, none⟩) hb).trans c2
    have hfit := HF.out l hmem
    obtain ⟨f0, f1⟩ := lc_i hfit
    have hsz := hfit.2
    have HLi := Lib.hid hl
    clear HG2 hdrop htake c0 c1 c2 hfit hmem hl hli HG
    by_cases hr : l.off < -54000 ∨ 54000 < l.off
    · have HE := Lib.hid (show R = 3 by rw [← HL.out]; exact go_bad (lcE_rng hr) (by decide))
      go_wp2_with fail
      all_goals
       go_ret
       exact ⟨by rw [HE.out]; rfl, HB.out⟩
    · have r0 : ¬ l.off < -54000 := by omega
      have r1 : ¬ 54000 < l.off := by omega
      cases hnm : nameOk l.abbr.data.toList
      · have HE := Lib.hid (show R = 15 by rw [← HL.out]; exact go_bad (lcE_abbr hr hnm) (by decide))
        have CA := Lib.hid (rabbr_any l.abbr hsz)
        rw [hnm] at CA
        clear hnm hr
        go_wp2_with fail
        refine (CA.out _).mono ?_
        rintro _ X ⟨rfl, rfl⟩
        go_wp2_with fail
        go_ret
        exact ⟨by rw [HE.out]; rfl, HB.out⟩
      · have hl7 := nameOk_size hnm
        have HO := Lib.hid (lcE_ok hr hnm)
        have CA := Lib.hid (rabbr_any l.abbr hsz)
        rw [hnm] at CA
        clear hnm hr
        go_wp2_with fail
        refine (CA.out _).mono ?_
        rintro _ X ⟨rfl, rfl⟩
        go_wp2_with fail
        obtain ⟨wo, hwo⟩ : ∃ wo : World, wo = wr := ⟨_, rfl⟩
        rw [← hwo] at k0 k1 k2 HB ⊢
        clear hwo
        go_loopw [5, 6] (fun fr k6 wr => ∃ k : Nat, k ≤ i ∧ k6 = .int .i64 k ∧ fr = .bool (!(L.take k).any (fun p => decide (p.abbr = l.abbr))) ∧ l ∉ L.take k ∧ Below W.heap.size W wr) (fun _ k6 _ => i - (intOf k6).toNat)
        case atStart => exact ⟨0, by omega, rfl, rfl, by simp, HB.out⟩
        case round =>
         obtain ⟨k, hk, rfl, rfl, hnm, hB⟩ := hrel
         have HNM := Lib.hid hnm
         have HB2 := Lib.hid hB
         clear hnm hB
         by_cases hki : k < i
         · have hlk : k < L.length := by have := HN.out; omega
           obtain ⟨y, hy⟩ : ∃ y, L[k]? = some y := ⟨_, List.getElem?_eq_getElem hlk⟩
           obtain ⟨c0, c1, c2⟩ := HC.out k y hy
           have y0 := (HB2.out.cell (p := ⟨b, o + k * 3, none⟩) hb).trans c0
           have y1 := (HB2.out.cell (p := ⟨b, o + k * 3 + 1, none⟩) hb).trans c1
           have y2 := (HB2.out.cell (p := ⟨b, o + k * 3 + 2, none⟩) hb).trans c2
           obtain ⟨c0, c1, c2⟩ := HC.out i l HLi.out
           have k0 := (HB2.out.cell (p := ⟨b, o + i * 3, none⟩) hb).trans c0
           have k1 := (HB2.out.cell (p := ⟨b, o + i * 3 + 1, none⟩) hb).trans c1
           have k2 := (HB2.out.cell (p := ⟨b, o + i * 3 + 2, none⟩) hb).trans c2
           have htk : L.take (k + 1) = L.take k ++ [y] := by rw [List.take_add_one, hy]; rfl
           have HTK := Lib.hid htk
           have HY := Lib.hid hy
           clear c0 c1 c2 hlk hy htk
           by_cases hyl : y = l
           · subst hyl
             go_upto_region 17 with fail
             go_quiet (fail)
             have HE := Lib.hid (show R = 10 by rw [← HL.out]; exact go_twice HO.out (List.mem_of_getElem? (i := k) (by rw [List.getElem?_take, if_pos hki]; exact HY.out)))
             go_wp2_with fail
             go_ret
             exact ⟨by rw [HE.out]; rfl, Civ.below_drewN HB2.out _⟩
           · have hq := loc_ne hyl
             have HN2 := Lib.hid (show l ∉ L.take (k + 1) by
              rw [HTK.out]
              intro hm
              rcases List.mem_append.1 hm with hm | hm
              · exact HNM.out hm
              · rw [List.mem_singleton] at hm
                exact hyl hm.symm)
             obtain ⟨fr, hfr⟩ : ∃ fr, (!(L.take k).any (fun p => decide (p.abbr = l.abbr))) = fr := ⟨_, rfl⟩
             have HFR := Lib.hid (show (!(L.take (k + 1)).any (fun p => decide (p.abbr = l.abbr))) = (fr && !decide (y.abbr = l.abbr)) by rw [HTK.out, List.any_append, Bool.not_or, hfr]; simp)
             rw [hfr]
             clear hfr hyl
             cases fr
             · go_upto_region 17 with fail
               go_quiet (fail)
               clear hq
               go_wp2_with fail
               go_quiet (fail)
               go_wp2_with fail
               go_roundw
               case rel => exact ⟨k + 1, by omega, by go_num, by rw [HFR.out]; rfl, HN2.out, Civ.below_drewN HB2.out _⟩
               case measure => simp [intOf]; omega
             · by_cases he : y.abbr = l.abbr
               · have HE2 := Lib.hid he
                 rw [decide_eq_true he] at HFR
                 clear he
                 go_upto_region 17 with fail
                 go_quiet (fail)
                 clear hq
                 have ht : y.abbr.toList = l.abbr.toList := by rw [HE2.out]
                 go_wp2_with fail
                 go_quiet (fail)
                 go_wp2_with fail
                 go_roundw
                 case rel => exact ⟨k + 1, by omega, by go_num, by rw [HFR.out]; simp, HN2.out, Civ.below_drewN HB2.out _⟩
                 case measure => simp [intOf]; omega
               · have ht : ¬ y.abbr.toList = l.abbr.toList := fun h => he (ba_eq h)
                 rw [decide_eq_false he] at HFR
                 go_upto_region 17 with fail
                 go_quiet (fail)
                 clear hq
                 go_wp2_with fail
                 go_quiet (fail)
                 go_wp2_with fail
                 go_roundw
                 case rel => exact ⟨k + 1, by omega, by go_num, by rw [HFR.out]; simp [ht], HN2.out, Civ.below_drewN HB2.out _⟩
                 case measure => simp [intOf]; omega
         · obtain rfl : k = i := by omega
           have HX := Lib.hid (go_next (n := m) (r := L.drop (k + 1)) HO.out HNM.out)
           obtain ⟨c0, c1, c2⟩ := HC.out k l HLi.out
           have k2 := (HB2.out.cell (p := ⟨b, o + k * 3 + 2, none⟩) hb).trans c2
           obtain ⟨fr, hfr⟩ : ∃ fr, (L.take k).any (fun p => decide (p.abbr = l.abbr)) = fr := ⟨_, rfl⟩
           rw [hfr]
           rw [hfr] at HX
           clear hfr c0 c1 c2
           cases fr
           · go_wp2_with fail
             go_roundw
             case rel => exact ⟨k + 1, m + l.abbr.size + 1, by omega, by go_num, by go_num, by omega, by rw [HT.out, ← HL.out, HX.out]; rfl, HB2.out⟩
             case measure => simp [intOf]; omega
           · go_wp2_with fail
             go_roundw
             case rel => exact ⟨k + 1, m, by omega, by go_num, rfl, by omega, by rw [HT.out, ← HL.out, HX.out]; rfl, HB2.out⟩
             case measure => simp [intOf]; omega
  · obtain rfl : i = n := by omega
    have HE := Lib.hid (show (if 255 < m then (7 : Int) else 0) = R by
     have := HG.out
     rw [List.take_of_length_le (by have := HN.out; omega), List.drop_of_length_le (by have := HN.out; omega)] at this
     rw [← this]
     rfl)
    by_cases h255 : 255 < m
    · have j0 : (255 : Int) < (m : Int) := by omega
      rw [if_pos h255] at HE
      go_wp2_with fail
      go_ret
      exact ⟨by rw [← HE.out]; rfl, HB.out⟩
    · have j0 : ¬ (255 : Int) < (m : Int) := by omega
      rw [if_neg h255] at HE
      go_wp2_with fail
      go_ret
      exact ⟨by rw [← HE.out]; rfl, HB.out⟩
end Go.Proofs.YtkpmmabdpeobaaaGreatDoor.Px
namespace Go.Proofs.YtkpmmabdpeobaaaGreatDoor.Px
open Go.RowKit
open Go.Maps (Keyed)
open Tb
theorem foldl_if {α β : Type} (c : α → Bool) (d : α → β) (d0 : β) : ∀ (l : List α) (o : Option β), (∀ p ∈ l, c p = true → d p = d0) → l.foldl (fun o p => if c p = true then some (d p) else o) o = if l.any c = true then some d0 else o
 | [], o, _ => by simp
 | p :: r, o, h => by
   rw [List.foldl_cons, foldl_if c d d0 r _ (fun x hx => h x (List.mem_cons_of_mem _ hx)), List.any_cons]
   cases hc : c p
   · simp
   · rw [h p (List.mem_cons_self ..) hc]
     cases r.any c <;> simp
def strK (s : ByteArray) : Lit := .string s.data.toList
theorem strK_inj {a b : ByteArray} (h : strK a = strK b) : a = b := by
 unfold strK at h
 simp only [Lit.string.injEq] at h
 exact ByteArray.ext (Array.ext' h)
theorem same_iff {a b : Lit} (hb : WideAt.IsKeyLit b) : a.sameKey b = true ↔ a = b := ⟨WideAt.sameKey_eq, fun e => by rw [e]; exact WideAt.sameKey_self hb⟩
theorem same_str {a : Lit} {s : ByteArray} : a.sameKey (strK s) = true ↔ a = strK s := same_iff (b := strK s) trivial
theorem same_lc {a : Lit} {l : Lc} : a.sameKey (lcKey l) = true ↔ a = lcKey l := same_iff (b := lcKey l) trivial
def seenG (pre : List Lc) (x : Lit) : Option (DataW Unit) := pre.foldl (fun o p => if x.sameKey (lcKey p) = true then some (.lit (.bool true)) else o) none
def lenG (pre : List Lc) (x : Lit) : Option (DataW Unit) := pre.foldl (fun o p => if x.sameKey (strK p.abbr) = true then some (.lit (.int .i64 ((p.abbr.size : Int) + 1))) else o) none
theorem seenG_snoc (pre : List Lc) (l : Lc) : seenG (pre ++ [l]) = fun x => if x.sameKey (lcKey l) = true then some (.lit (.bool true)) else seenG pre x := by
 funext x
 unfold seenG
 rw [List.foldl_append]
 rfl
theorem lenG_snoc (pre : List Lc) (l : Lc) : lenG (pre ++ [l]) = fun x => if x.sameKey (strK l.abbr) = true then some (.lit (.int .i64 ((l.abbr.size : Int) + 1))) else lenG pre x := by
 funext x
 unfold lenG
 rw [List.foldl_append]
 rfl
theorem seenG_at {pre : List Lc} {l : Lc} (hp : ∀ p ∈ pre, Lc.Fit p) (hl : Lc.Fit l) : (seenG pre (lcKey l)).getD (.lit (.bool false)) = .lit (.bool (decide (l ∈ pre))) := by
 unfold seenG
 rw [foldl_if (fun p => (lcKey l).sameKey (lcKey p)) (fun _ => (.lit (.bool true) : DataW Unit)) (.lit (.bool true)) pre none (fun _ _ _ => rfl)]
 have e : pre.any (fun p => (lcKey l).sameKey (lcKey p)) = decide (l ∈ pre) := by
  rw [Bool.eq_iff_iff, List.any_eq_true, decide_eq_true_iff]
  constructor
  · rintro ⟨p, hm, hs⟩
    have := lcKey_inj hl.1 hl.2 (hp p hm).1 (hp p hm).2 (same_lc.1 hs)
    rw [this]
    exact hm
  · intro hm
    exact ⟨l, hm, same_lc.2 rfl⟩
 rw [e]
 cases decide (l ∈ pre) <;> rfl
theorem lenG_at (pre : List Lc) (a : ByteArray) : lenG pre (strK a) = if pre.any (fun p => decide (p.abbr = a)) = true then some (.lit (.int .i64 ((a.size : Int) + 1))) else none := by
 unfold lenG
 rw [foldl_if (fun p => (strK a).sameKey (strK p.abbr)) (fun p => (.lit (.int .i64 ((p.abbr.size : Int) + 1)) : DataW Unit)) (.lit (.int .i64 ((a.size : Int) + 1))) pre none (fun p _ hs => by
  have := strK_inj (same_str.1 hs)
  rw [this])]
 have e : pre.any (fun p => (strK a).sameKey (strK p.abbr)) = pre.any (fun p => decide (p.abbr = a)) := by
  congr 1
  funext p
  rw [Bool.eq_iff_iff, decide_eq_true_iff, same_str]
  exact ⟨fun h => (strK_inj h).symm, fun h => by rw [h]⟩
 rw [e]
def hasA (A : List ByteArray) (a : ByteArray) : Bool := A.any (fun x => decide (x = a))
theorem hasA_iff {A : List ByteArray} {a : ByteArray} : hasA A a = true ↔ a ∈ A := by unfold hasA; simp
def dA (pre : List Lc) : List ByteArray := pre.foldl (fun (acc : List ByteArray) (p : Lc) => if hasA acc p.abbr = true then acc else acc ++ [p.abbr]) []
theorem dA_snoc (pre : List Lc) (l : Lc) : dA (pre ++ [l]) = if hasA (dA pre) l.abbr = true then dA pre else dA pre ++ [l.abbr] := by
 unfold dA
 rw [List.foldl_append]
 rfl
theorem snoc_ind {α : Type} {P : List α → Prop} (h0 : P []) (h1 : ∀ (l : List α) (x : α), P l → P (l ++ [x])) : ∀ l, P l := by
 intro l
 have : ∀ m : List α, P m.reverse := by
  intro m
  induction m with
  | nil => exact h0
  | cons a r ih => rw [List.reverse_cons]; exact h1 _ _ ih
 have h := this l.reverse
 rwa [List.reverse_reverse] at h
theorem dA_mem (pre : List Lc) (a : ByteArray) : a ∈ dA pre ↔ pre.any (fun p => decide (p.abbr = a)) = true := by
 refine snoc_ind (P := fun pre => a ∈ dA pre ↔ pre.any (fun p => decide (p.abbr = a)) = true) (by simp [dA]) (fun pre l ih => ?_) pre
 rw [dA_snoc, List.any_append, Bool.or_eq_true, ← ih]
 have e : ([l].any (fun p => decide (p.abbr = a))) = true ↔ l.abbr = a := by simp
 rw [e]
 by_cases h : l.abbr ∈ dA pre
 · rw [if_pos (hasA_iff.2 h)]
   exact ⟨.inl, fun h2 => h2.elim id (fun e => e ▸ h)⟩
 · rw [if_neg (fun q => h (hasA_iff.1 q)), List.mem_append, List.mem_singleton]
   exact ⟨fun h2 => h2.imp id Eq.symm, fun h2 => h2.imp id Eq.symm⟩
theorem dA_nodup (pre : List Lc) : (dA pre).Nodup := by
 refine snoc_ind (P := fun pre => (dA pre).Nodup) (by simp [dA]) (fun pre l ih => ?_) pre
 rw [dA_snoc]
 by_cases h : l.abbr ∈ dA pre
 · rw [if_pos (hasA_iff.2 h)]; exact ih
 · rw [if_neg (fun q => h (hasA_iff.1 q)), List.nodup_append]
   exact ⟨ih, by simp, fun x hx y hy => by
    rw [List.mem_singleton] at hy
    subst hy
    intro e
    exact h (e ▸ hx)⟩
def sumS (A : List ByteArray) : Nat := (A.map (fun a => a.size + 1)).sum
theorem sumS_snoc (A : List ByteArray) (a : ByteArray) : sumS (A ++ [a]) = sumS A + a.size + 1 := by unfold sumS; simp; omega
theorem sum_step (pre : List Lc) (l : Lc) : sumS (dA (pre ++ [l])) = if pre.any (fun p => decide (p.abbr = l.abbr)) = true then sumS (dA pre) else sumS (dA pre) + l.abbr.size + 1 := by
 rw [dA_snoc]
 by_cases h : l.abbr ∈ dA pre
 · rw [if_pos (hasA_iff.2 h), if_pos ((dA_mem _ _).1 h)]
 · rw [if_neg (fun q => h (hasA_iff.1 q)), if_neg (fun h2 => h ((dA_mem _ _).2 h2)), sumS_snoc]
theorem sum_le : ∀ pre : List Lc, (∀ l ∈ pre, l.abbr.size ≤ 7) → sumS (dA pre) ≤ 8 * pre.length := by
 intro pre
 refine snoc_ind (P := fun pre => (∀ l ∈ pre, l.abbr.size ≤ 7) → sumS (dA pre) ≤ 8 * pre.length) (fun _ => by simp [dA, sumS]) (fun pre l ih h => ?_) pre
 have h1 := ih (fun x hx => h x (List.mem_append_left _ hx))
 have h2 := h l (by simp)
 rw [sum_step, List.length_append, List.length_singleton]
 split <;> omega
theorem sum_take {s : ByteArray} : ∀ (A : List ByteArray) (left : Lit → Bool), A.Nodup → s ∈ A → left (strK s) = true →
 sumS (A.filter (fun a => left (strK a))) = sumS (A.filter (fun a => left (strK a) && !(strK a).sameKey (strK s))) + s.size + 1
 | [], _, _, h, _ => by cases h
 | a :: r, left, hn, hm, hl => by
   obtain ⟨h1, h2⟩ := List.nodup_cons.1 hn
   by_cases e : a = s
   · subst e
     have e1 : (strK a).sameKey (strK a) = true := same_str.2 rfl
     have e2 : r.filter (fun x => left (strK x) && !(strK x).sameKey (strK a)) = r.filter (fun x => left (strK x)) := by
      apply List.filter_congr
      intro x hx
      have : (strK x).sameKey (strK a) = false := by
       rw [Bool.eq_false_iff]
       intro h
       exact h1 (strK_inj (same_str.1 h) ▸ hx)
      rw [this]
      simp
     rw [List.filter_cons_of_pos (p := fun a => left (strK a)) hl, List.filter_cons_of_neg (by simp [e1]), e2]
     unfold sumS
     simp
     omega
   · have hr : s ∈ r := (List.mem_cons.1 hm).resolve_left (fun h => e h.symm)
     have ih := sum_take r left h2 hr hl
     have e1 : (strK a).sameKey (strK s) = false := by
      rw [Bool.eq_false_iff]
      intro h
      exact e (strK_inj (same_str.1 h))
     by_cases hla : left (strK a) = true
     · rw [List.filter_cons_of_pos (p := fun a => left (strK a)) hla, List.filter_cons_of_pos (by simp [hla, e1])]
       unfold sumS at ih ⊢
       simp only [List.map_cons, List.sum_cons]
       omega
     · rw [List.filter_cons_of_neg (p := fun a => left (strK a)) hla, List.filter_cons_of_neg (by simp [hla])]
       exact ih
theorem sum_none {A : List ByteArray} {left : Lit → Bool} (h : ∀ k, left k = false) : sumS (A.filter (fun a => left (strK a))) = 0 := by
 rw [List.filter_eq_nil_iff.2 (fun a _ => by rw [h]; simp)]
 rfl
theorem sum_all {A : List ByteArray} {left : Lit → Bool} (h : ∀ a ∈ A, left (strK a) = true) : sumS (A.filter (fun a => left (strK a))) = sumS A := by
 rw [List.filter_eq_self.2 h]
theorem keyOf_str_inv {P : Program} {k : TypeId} (hk : P.underlying k = some .string) {key : Value} {kl : Lit} (h : keyOf P k key = some kl) : ∃ x, key = .string x ∧ kl = strK x ∧ x.size ≤ maxLen := by
 cases key <;> simp [keyOf, hk, mapKey] at h
 obtain ⟨hw, rfl⟩ := h
 exact ⟨_, rfl, rfl, hw⟩
theorem wpList_next_si {P : Program} (w : World) {ops : Array Oper} {rest : List Oper} {o : Oper} {a : Act} {Q : Exit → Act → World → Prop}
 (hg : o.guard = none) (it : Operand) (hop : o.op = Op.next it false) (k e : TypeId) (qe : IntKind) (K : Keyed P k) (hk : P.underlying k = some .string) (he : P.underlying e = some (.int qe))
 (b r n : Nat) (D : DataW Unit) (left : Lit → Bool) (cnt : Nat) (hit : a.eval it = .pointer (some ⟨r, 0, none⟩)) (h : w.ranges P k (plainElem P e) b r n D left cnt)
 (hDone : cnt = 0 → (∀ kl, left kl = false) → wpList P ops Q rest (a.put o.dst (.tuple #[.bool false])) w)
 (hMore : ∀ (x : ByteArray) (c : Int) (w' : World) (cnt' : Nat), x.size ≤ maxLen → (Lit.int qe c).wf = true → left (strK x) = true → (∀ zd, D.atKey (strK x) zd = .lit (.int qe c)) → w'.ranges P k (plainElem P e) b r n D (fun z => left z && !z.sameKey (strK x)) cnt' → cnt' < cnt →
  w.grownBy w' (some r) → w'.heap.size = w.heap.size → (Instr.entry (.pointer (some ⟨r, 0, none⟩))).run P w' = .ok (.tuple #[.string x, .int qe c]) w' → wpList P ops Q rest (a.put o.dst (.tuple #[.bool true, .string x, .int qe c])) w') :
 wpList P ops Q (o :: rest) a w :=
 wpList_next_ranges w hg it hop k K (plainElem P e) Value.string (Value.int qe) (fun key kl hkey => by obtain ⟨x, rfl, _⟩ := keyOf_str_inv hk hkey; exact ⟨x, rfl⟩) (fun v y hv => by obtain ⟨c, rfl, _⟩ := plainElem_int_inv he hv; exact ⟨c, rfl⟩)
  b r n D left cnt hit h hDone (fun x c kl y w' cnt' hkey hlk hv hat hrg hlt hgr hsz hen => by
   obtain ⟨x', ex, rfl, hwx⟩ := keyOf_str_inv hk hkey
   cases ex
   obtain ⟨c', ec, rfl, hwc⟩ := plainElem_int_inv he hv
   cases ec
   exact hMore x c w' cnt' hwx hwc hlk hat hrg hlt hgr hsz hen)
theorem Km.madeAt {L : List (Nat × Obj)} {R : List Rw} {M : List Mp} {w X : World} (h : Km L R M w X) (b : Nat) (hb : X.heap.size = b) (k e : TypeId) : Km L R (⟨b, k, e, 0, .map []⟩ :: M) w (X.alloc (.map #[] 0)) := by
 subst hb; exact h.made k e
theorem Km.swapM {L : List (Nat × Obj)} {R : List Rw} {a b : Mp} {M : List Mp} {w X : World} (h : Km L R (a :: b :: M) w X) : Km L R (b :: a :: M) w X :=
 ⟨h.kp, fun m hm => h.map m ((List.Perm.swap b a M).symm.subset hm), fun m hm => h.own m ((List.Perm.swap b a M).symm.subset hm), fun m hm => h.offL m ((List.Perm.swap b a M).symm.subset hm), fun m hm => h.offR m ((List.Perm.swap b a M).symm.subset hm), ((List.Perm.swap b a M).pairwise_iff (R := fun a b : Mp => a.b ≠ b.b) (fun {_ _} hab => Ne.symm hab)).1 h.offM⟩
end Go.Proofs.YtkpmmabdpeobaaaGreatDoor.Px
namespace Go.Proofs.YtkpmmabdpeobaaaGreatDoor.Px
open Go.RowKit
open Tb
theorem tr_i {l : Tr} (h : Tr.Fit l) : (-9223372036854775808 ≤ l.at' ∧ l.at' ≤ 9223372036854775807) ∧ (-9223372036854775808 ≤ l.ty ∧ l.ty ≤ 9223372036854775807) := ⟨bounds_i64 h.1, bounds_i64 h.2⟩
theorem tg_rng {n b m : Int} {y : Option Int} {x : Tr} {r : List Tr} (h : x.at' < -36028797018963968 ∨ 36028797018963968 < x.at') : transGo n b m y (x :: r) = 3 := by unfold transGo; rw [if_pos h]
theorem tg_ord {n b m : Int} {y : Option Int} {x : Tr} {r : List Tr} (h : ¬ (x.at' < -36028797018963968 ∨ 36028797018963968 < x.at')) (h2 : behindQ y x.at' = true) : transGo n b m y (x :: r) = 12 := by unfold transGo; rw [if_neg h, if_pos h2]
theorem tg_arg {n b m : Int} {y : Option Int} {x : Tr} {r : List Tr} (h : ¬ (x.at' < -36028797018963968 ∨ 36028797018963968 < x.at')) (h2 : behindQ y x.at' = false) (h3 : x.ty < 0 ∨ n ≤ x.ty ∨ x.ty = b) : transGo n b m y (x :: r) = 2 := by
 unfold transGo; rw [if_neg h, if_neg (by rw [h2]; decide), if_pos h3]
theorem tg_new {n b m : Int} {y : Option Int} {x : Tr} {r : List Tr} (h : ¬ (x.at' < -36028797018963968 ∨ 36028797018963968 < x.at')) (h2 : behindQ y x.at' = false) (h3 : ¬ (x.ty < 0 ∨ n ≤ x.ty ∨ x.ty = b)) (h4 : m + 1 < x.ty) : transGo n b m y (x :: r) = 12 := by
 unfold transGo; rw [if_neg h, if_neg (by rw [h2]; decide), if_neg h3, if_pos h4]
theorem tg_next {n b m : Int} {y : Option Int} {x : Tr} {r : List Tr} (h : ¬ (x.at' < -36028797018963968 ∨ 36028797018963968 < x.at')) (h2 : behindQ y x.at' = false) (h3 : ¬ (x.ty < 0 ∨ n ≤ x.ty ∨ x.ty = b)) (h4 : ¬ m + 1 < x.ty) : transGo n b m y (x :: r) = transGo n x.ty (max m x.ty) (some x.at') r := by
 rw [transGo, if_neg h, if_neg (by rw [h2]; decide), if_neg h3, if_neg h4]
def befT (R : List Tr) : Nat → Int
 | 0 => 0
 | i + 1 => (R[i]?.getD ⟨0, 0⟩).ty
def lasT (R : List Tr) : Nat → Option Int
 | 0 => none
 | i + 1 => some (R[i]?.getD ⟨0, 0⟩).at'
theorem bef_succ {R : List Tr} {i : Nat} {x : Tr} (h : R[i]? = some x) : befT R (i + 1) = x.ty ∧ lasT R (i + 1) = some x.at' := by
 show (R[i]?.getD ⟨0, 0⟩).ty = x.ty ∧ some (R[i]?.getD ⟨0, 0⟩).at' = some x.at'
 rw [h]
 exact ⟨rfl, rfl⟩
theorem drop_at {α : Type} {L : List α} {i : Nat} {l : α} (h : L[i]? = some l) : L.drop i = l :: L.drop (i + 1) := by
 have hi := (List.getElem?_eq_some_iff.1 h).1
 rw [List.drop_eq_getElem_cons hi]
 rw [List.getElem?_eq_getElem hi] at h
 rw [Option.some.inj h]
theorem tg_step {n b m : Int} {y : Option Int} {ta ty : Int} {R : List Tr} {i : Nat} {E : Int} (hg : transGo n b m y (⟨ta, ty⟩ :: R.drop (i + 1)) = E) (h : ¬ (ta < -36028797018963968 ∨ 36028797018963968 < ta)) (h2 : behindQ y ta = false) (h3 : ¬ (ty < 0 ∨ n ≤ ty ∨ ty = b)) (h4 : ¬ m + 1 < ty)
 (e1 : befT R (i + 1) = ty) (e2 : lasT R (i + 1) = some ta) {m' : Int} (hm : max m ty = m') : transGo n (befT R (i + 1)) m' (lasT R (i + 1)) (R.drop (i + 1)) = E := by
 rw [e1, e2, ← hm, ← hg, tg_next h h2 h3 h4]
set_option maxHeartbeats 4000000 in
set_option maxRecDepth 100000 in
theorem rtrans_any (x : Tab) (tv rv : Value) (f : ByteArray) (W : World) (h : TabV W tv rv f x) :
 Calls Tryz.prog 67 #[.agg #[tv, rv, .string f]] W fun e w' => e = .returned (.int .i64 (transE x)) ∧ Below W.heap.size W w' := by
 obtain ⟨n, hn⟩ : ∃ n, x.types.length = n := ⟨_, rfl⟩
 obtain ⟨N, hN⟩ : ∃ n, x.trans.length = n := ⟨_, rfl⟩
 obtain ⟨ta, tc, rfl, t1, t2⟩ := h.types.slice
 have hR := h.trans
 have hfit := h.trs
 obtain ⟨R, hRe⟩ : ∃ R, x.trans = R := ⟨_, rfl⟩
 have eT : transE x = transGo n 0 0 none R := by unfold transE; rw [hn, hRe]
 rw [hRe] at hR hfit hN
 rw [hn] at t1
 rw [eT, hn]
 obtain ⟨ra, rc, rfl, r1, r2⟩ := hR.slice
 have hall := fun h0 => hR.all h0
 rw [hN] at r1 hall
 rw [hN]
 unfold maxLen at t2 r2
 obtain ⟨E, hE⟩ : ∃ E, transGo n 0 0 none R = E := ⟨_, rfl⟩
 rw [hE]
 have HE := Lib.hid hE
 have HA := Lib.hid hall
 have HF := Lib.hid hfit
 have HN := Lib.hid hN
 have K0 := Lib.hid ((Kp.start W).alloc (.cells #[.slice ta n tc, .slice ra N rc, .string f] 25))
 clear h hR hall hfit eT hE hRe hN hn
 go_enter Tryz.func67, Tryz.ntmps67
 go_wp2_with fail
 go_loopw [3, 4, 5, 6] (fun m3 i4 _ _ wr => ∃ (i m : Nat), i ≤ N ∧ i4 = .int .i64 i ∧ m3 = .int .i64 m ∧ (m = 0 ∨ m < n) ∧ transGo n (befT R i) m (lasT R i) (R.drop i) = E ∧ Kp [(W.heap.size, .cells #[.slice ta n tc, .slice ra N rc, .string f] 25)] [] W wr) (fun _ i4 _ _ _ => N - (intOf i4).toNat)
 case atStart => exact ⟨0, 0, by omega, rfl, rfl, .inl rfl, HE.out, K0.out⟩
 case round =>
  obtain ⟨i, m, hi, rfl, rfl, hm, hgo, hK⟩ := hrel
  have HG := Lib.hid hgo
  have HK := Lib.hid hK
  clear hgo hK
  obtain ⟨⟨p0, p1, p2⟩, _, _, _⟩ := row3 (HK.out.at 0 rfl)
  have z0 := HK.out.lt 0 rfl
  by_cases hlt : i < N
  · obtain ⟨b, o, c, hra, _, _, hb, hcell⟩ := HA.out (by omega)
    simp only [Value.slice.injEq] at hra
    obtain ⟨rfl, _, rfl⟩ := hra
    obtain ⟨t, ht⟩ : ∃ t, R[i]? = some t := ⟨_, List.getElem?_eq_getElem (by have := HN.out; omega)⟩
    have HL := Lib.hid (show transGo n (befT R i) m (lasT R i) (t :: R.drop (i + 1)) = E by rw [← drop_at ht]; exact HG.out)
    obtain ⟨⟨f0, f1⟩, f2, f3⟩ := tr_i (HF.out t (List.mem_of_getElem? ht))
    obtain ⟨c0, c1⟩ := hcell i t ht
    have k0 := (HK.out.below.cell (p := ⟨b, o + i * 2, none⟩) hb).trans c0
    have k1 := (HK.out.below.cell (p := ⟨b, o + i * 2 + 1, none⟩) hb).trans c1
    have HC := Lib.hid hcell
    obtain ⟨hb1, hb2⟩ := bef_succ ht
    have HB1 := Lib.hid hb1
    have HB2 := Lib.hid hb2
    have hbw : b < wr.heap.size := Nat.lt_of_lt_of_le hb HK.out.below.size
    obtain ⟨ta', ty⟩ := t
    dsimp only at f0 f1 f2 f3 k0 k1
    have KA := Lib.hid ((HK.out.alloc (.cells #[.int .i64 ta', .int .i64 ty] 36)))
    have HH := Lib.hid ht
    clear c0 c1 hcell ht hb1 hb2 HG
    by_cases hr : ta' < -36028797018963968 ∨ 36028797018963968 < ta'
    · have HX := Lib.hid (show E = 3 by rw [← HL.out]; exact tg_rng hr)
      go_wp2_with fail
      all_goals
       go_ret
       exact ⟨by rw [HX.out]; rfl, KA.out.below⟩
    · have r0 : ¬ ta' < -36028797018963968 := by omega
      have r1 : ¬ 36028797018963968 < ta' := by omega
      have HR := Lib.hid hr
      clear hr
      cases i with
      | zero =>
        have HQ := Lib.hid (show behindQ (lasT R 0) ta' = false from rfl)
        simp only [Nat.zero_mul, Nat.add_zero] at k0 k1
        by_cases h3 : ty < 0 ∨ (n : Int) ≤ ty ∨ ty = 0
        · have HX := Lib.hid (show E = 2 by rw [← HL.out]; exact tg_arg HR.out HQ.out (h3))
          rcases (show ty < 0 ∨ (¬ ty < 0 ∧ (n : Int) ≤ ty) ∨ (¬ ty < 0 ∧ ¬ (n : Int) ≤ ty ∧ ty = 0) by omega) with a1 | ⟨a1, a2⟩ | ⟨a1, a2, rfl⟩
          all_goals
           clear h3
           go_wp2_with fail
           go_ret
           first | exact ⟨by rw [HX.out]; rfl, KA.out.below⟩ | exact ⟨by rw [HX.out]; rfl, Civ.below_drewN KA.out.below _⟩
        · have a1 : ¬ ty < 0 := by omega
          have a2 : ¬ (n : Int) ≤ ty := by omega
          have a3 : ¬ ty = 0 := by omega
          have H3 := Lib.hid (show ¬ (ty < 0 ∨ (n : Int) ≤ ty ∨ ty = befT R 0) from h3)
          clear h3
          by_cases h4 : (m : Int) + 1 < ty
          · have HX := Lib.hid (show E = 12 by rw [← HL.out]; exact tg_new HR.out HQ.out H3.out h4)
            go_wp2_with fail
            all_goals first
             | (go_ret; exact ⟨by rw [HX.out]; rfl, KA.out.below⟩)
             | (go_ret; exact ⟨by rw [HX.out]; rfl, Civ.below_drewN KA.out.below _⟩)
             | (exfalso; omega)
          · obtain ⟨k, rfl⟩ : ∃ k : Nat, ty = (k : Int) := ⟨ty.toNat, by omega⟩
            by_cases hmk : m ≤ k
            · have hmx : max (m : Int) (k : Int) = (k : Int) := by omega
              have HS := Lib.hid (tg_step HL.out HR.out HQ.out H3.out h4 HB1.out HB2.out hmx)
              go_wp2_with fail
              go_roundw
              case rel => exact ⟨0 + 1, k, by omega, by go_num, by first | rfl | go_num | (simp; omega), by omega, HS.out, KA.out.drop⟩
              case measure => simp [intOf]; omega
            · have hmx : max (m : Int) (k : Int) = (m : Int) := by omega
              have HS := Lib.hid (tg_step HL.out HR.out HQ.out H3.out h4 HB1.out HB2.out hmx)
              go_wp2_with fail
              go_roundw
              case rel => exact ⟨0 + 1, m, by omega, by go_num, by first | rfl | go_num | (simp; omega), by omega, HS.out, KA.out.drop⟩
              case measure => simp [intOf]; omega
      | succ j =>
        obtain ⟨y, hy⟩ : ∃ y, R[j]? = some y := ⟨_, List.getElem?_eq_getElem (by have := HN.out; omega)⟩
        obtain ⟨hy1, hy2⟩ := bef_succ hy
        obtain ⟨⟨u0, u1⟩, u2, u3⟩ := tr_i (HF.out y (List.mem_of_getElem? hy))
        obtain ⟨c0, c1⟩ := HC.out j y hy
        have q0 := (HK.out.below.cell (p := ⟨b, o + j * 2, none⟩) hb).trans c0
        have q1 := (HK.out.below.cell (p := ⟨b, o + j * 2 + 1, none⟩) hb).trans c1
        obtain ⟨ya, yt⟩ := y
        dsimp only at u0 u1 u2 u3 q0 q1 hy1 hy2
        have HY1 := Lib.hid hy1
        clear hy c0 c1
        by_cases ho : ta' ≤ ya
        · have HX := Lib.hid (show E = 12 by rw [← HL.out]; exact tg_ord HR.out (by rw [hy2]; unfold behindQ; simpa using ho))
          clear hy1 hy2
          go_upto_region 10 with fail
          go_quiet (fail)
          go_wp2_with fail
          go_ret
          exact ⟨by rw [HX.out]; rfl, Civ.below_drewN KA.out.below _⟩
        · have HQ := Lib.hid (show behindQ (lasT R (j + 1)) ta' = false by rw [hy2]; unfold behindQ; simpa using ho)
          clear hy1 hy2
          by_cases h3 : ty < 0 ∨ (n : Int) ≤ ty ∨ ty = yt
          · have HX := Lib.hid (show E = 2 by rw [← HL.out]; exact tg_arg HR.out HQ.out (by rw [HY1.out]; exact h3))
            rcases (show ty < 0 ∨ (¬ ty < 0 ∧ (n : Int) ≤ ty) ∨ (¬ ty < 0 ∧ ¬ (n : Int) ≤ ty ∧ ty = yt) by omega) with a1 | ⟨a1, a2⟩ | ⟨a1, a2, rfl⟩
            all_goals
             clear h3
             go_upto_region 10 with fail
             go_quiet (fail)
             go_wp2_with fail
             go_ret
             first | exact ⟨by rw [HX.out]; rfl, KA.out.below⟩ | exact ⟨by rw [HX.out]; rfl, Civ.below_drewN KA.out.below _⟩
          · have a1 : ¬ ty < 0 := by omega
            have a2 : ¬ (n : Int) ≤ ty := by omega
            have a3 : ¬ ty = yt := by omega
            have H3 := Lib.hid (show ¬ (ty < 0 ∨ (n : Int) ≤ ty ∨ ty = befT R (j + 1)) from by rw [HY1.out]; exact h3)
            clear h3
            by_cases h4 : (m : Int) + 1 < ty
            · have HX := Lib.hid (show E = 12 by rw [← HL.out]; exact tg_new HR.out HQ.out H3.out h4)
              go_upto_region 10 with fail
              go_quiet (fail)
              go_wp2_with fail
              all_goals first
               | (go_ret; exact ⟨by rw [HX.out]; rfl, KA.out.below⟩)
               | (go_ret; exact ⟨by rw [HX.out]; rfl, Civ.below_drewN KA.out.below _⟩)
               | (exfalso; omega)
            · obtain ⟨k, rfl⟩ : ∃ k : Nat, ty = (k : Int) := ⟨ty.toNat, by omega⟩
              by_cases hmk : m ≤ k
              · have hmx : max (m : Int) (k : Int) = (k : Int) := by omega
                have HS := Lib.hid (tg_step HL.out HR.out HQ.out H3.out h4 HB1.out HB2.out hmx)
                go_upto_region 10 with fail
                go_quiet (fail)
                go_wp2_with fail
                go_roundw
                case rel => exact ⟨(j + 1) + 1, k, by omega, by go_num, by first | rfl | go_num | (simp; omega), by omega, HS.out, KA.out.drop.call (Civ.below_drewN (Below.refl _ _) _) rfl rfl rfl rfl⟩
                case measure => simp [intOf]; omega
              · have hmx : max (m : Int) (k : Int) = (m : Int) := by omega
                have HS := Lib.hid (tg_step HL.out HR.out HQ.out H3.out h4 HB1.out HB2.out hmx)
                go_upto_region 10 with fail
                go_quiet (fail)
                go_wp2_with fail
                go_roundw
                case rel => exact ⟨(j + 1) + 1, m, by omega, by go_num, by first | rfl | go_num | (simp; omega), by omega, HS.out, KA.out.drop.call (Civ.below_drewN (Below.refl _ _) _) rfl rfl rfl rfl⟩
                case measure => simp [intOf]; omega
  · obtain rfl : i = N := by omega
    have HX := Lib.hid (show (if (m : Int) + 1 ≠ n then (4 : Int) else 0) = E by
     have := HG.out
     rw [List.drop_of_length_le (by have := HN.out; omega)] at this
     rw [← this]
     rfl)
    by_cases h1 : (m : Int) + 1 = n
    · have j0 : (m : Int) = (n : Int) - 1 := by omega
      rw [if_neg (by omega)] at HX
      go_wp2_with fail
      go_ret
      exact ⟨by rw [← HX.out]; rfl, HK.out.below⟩
    · have j0 : ¬ (m : Int) = (n : Int) - 1 := by omega
      rw [if_pos h1] at HX
      go_wp2_with fail
      go_ret
      exact ⟨by rw [← HX.out]; rfl, HK.out.below⟩
end Go.Proofs.YtkpmmabdpeobaaaGreatDoor.Px
namespace Go.Proofs.YtkpmmabdpeobaaaGreatDoor.Px
open Go.RowKit
open Tb
theorem len_go {L : List Lc} {i : Nat} {l : Lc} {R : Int} (hl : L[i]? = some l) (hg : typesGo (L.take i) (sumS (dA (L.take i))) (L.drop i) = R) (h : lcE l = 0) (hm : l ∉ L.take i) :
 typesGo (L.take (i + 1)) (sumS (dA (L.take (i + 1)))) (L.drop (i + 1)) = R := by
 have ht : L.take (i + 1) = L.take i ++ [l] := by rw [List.take_add_one, hl]; rfl
 rw [drop_at hl, go_next h hm] at hg
 rw [ht, sum_step]
 exact hg
theorem wf_64 {n : Int} (h : -9223372036854775808 ≤ n ∧ n ≤ 9223372036854775807) : (Lit.int .i64 n).wf = true := by
 have e := wrap64_wf n
 have : wrap64 n = n := by unfold wrap64; omega
 rwa [this] at e
theorem below_none {B : Nat} {W X Z : World} (h : Below B W X) (hg : X.grownBy Z none) (hB : B ≤ X.heap.size) : Below B W Z :=
 h.trans ⟨hg.os, hg.tape, hg.output, hg.size, fun k hk => hg.block k (Nat.lt_of_lt_of_le hk hB) (by simp)⟩
theorem below_some {B r : Nat} {W X Z : World} (h : Below B W X) (hg : X.grownBy Z (some r)) (hB : B ≤ X.heap.size) (hr : B ≤ r) : Below B W Z :=
 h.trans ⟨hg.os, hg.tape, hg.output, hg.size, fun k hk => hg.block k (Nat.lt_of_lt_of_le hk hB) (fun e => by
  have := Option.some.inj e
  omega)⟩
theorem len_has {L : List Lc} {D : DataW Unit} (h : FnOf D (lenG L)) {a : ByteArray} (ha : a ∈ dA L) : Maps.has D (strK a) = true := by
 rw [h.has (strK a) trivial, lenG_at, if_pos ((dA_mem L a).1 ha)]
 rfl
theorem len_is {L : List Lc} {D : DataW Unit} (h : FnOf D (lenG L)) {a : ByteArray} {c : Int} (hat : ∀ zd, D.atKey (strK a) zd = .lit (.int .i64 c)) : a ∈ dA L ∧ c = (a.size : Int) + 1 := by
 have h1 := Maps.has_true_of_atKey hat
 rw [h.has (strK a) trivial, lenG_at] at h1
 have h2 := h.val (strK a) trivial (.lit (.int .i64 0))
 rw [hat, lenG_at] at h2
 by_cases hb : L.any (fun p => decide (p.abbr = a)) = true
 · rw [if_pos hb] at h2
   exact ⟨(dA_mem L a).2 hb, by simpa using h2⟩
 · rw [if_neg hb] at h1
   cases h1
def Ty2 (L : List Lc) (W : World) (r i : Nat) (D : DataW Unit) (tot s : Nat) (X : World) : Prop :=
 ∃ left cnt, X.ranges Tryz.prog 9 (plainElem Tryz.prog 3) (W.heap.size + 1 + 1) r i D left cnt ∧ s + sumS ((dA L).filter (fun a => left (strK a))) = tot ∧ Below W.heap.size W X
structure Ty1 (L : List Lc) (tv rv : Value) (f : ByteArray) (R : Int) (W : World) (i : Nat) (X : World) : Prop where
 go : typesGo (L.take i) (sumS (dA (L.take i))) (L.drop i) = R
 sz : ∀ l ∈ L.take i, l.abbr.size ≤ 7
 maps : ∃ D4 D5, Km [(W.heap.size, .cells #[tv, rv, .string f] 105)] [] [⟨W.heap.size + 2, 9, 3, i, D5⟩, ⟨W.heap.size + 1, 28, 4, i, D4⟩] W X ∧ FnOf D4 (seenG (L.take i)) ∧ FnOf D5 (lenG (L.take i))
set_option maxHeartbeats 4000000 in
set_option maxRecDepth 100000 in
theorem types_any (x : Tab) (tv rv : Value) (f : ByteArray) (W : World) (h : TabV W tv rv f x) :
 Calls Tryz.prog 55 #[.agg #[tv, rv, .string f]] W fun e w' => e = .returned (.int .i64 (typesE x.types)) ∧ Below W.heap.size W w' := by
 obtain ⟨n, hn⟩ : ∃ n, x.types.length = n := ⟨_, rfl⟩
 have hL := h.types
 have hf := h.lcs
 obtain ⟨L, hLe⟩ : ∃ L, x.types = L := ⟨_, rfl⟩
 rw [hLe] at hL hf hn
 rw [hLe]
 have K0 := Lib.hid ((Kp.start W).alloc (.cells #[tv, rv, .string f] 105))
 clear h hLe
 by_cases h0 : n = 0
 · obtain ⟨a, c, rfl, _, _⟩ := hL.slice
   rw [hn] at K0 ⊢
   have e0 : typesE L = 4 := by unfold typesE; rw [if_pos (by omega)]
   rw [e0]
   clear e0 hL hf
   subst h0
   go_enter Tryz.func55, Tryz.ntmps55
   go_wp2_with fail
   go_ret
   exact ⟨rfl, K0.out.below⟩
 by_cases h254 : 254 < n
 · obtain ⟨a, c, rfl, _, _⟩ := hL.slice
   rw [hn] at K0 ⊢
   have e0 : typesE L = 7 := by unfold typesE; rw [if_neg (by omega), if_pos (by omega)]
   rw [e0]
   have i0 : ¬ ((n : Int) = 0) := by omega
   have i1 : (254 : Int) < (n : Int) := by omega
   clear e0 hL hf
   go_enter Tryz.func55, Tryz.ntmps55
   go_wp2_with fail
   go_ret
   exact ⟨rfl, K0.out.below⟩
 have eT : typesE L = typesGo [] 0 L := by unfold typesE; rw [if_neg (by omega), if_neg (by omega)]
 rw [eT]
 obtain ⟨b, o, c, rfl, hc1, hc2, hb, hcell⟩ := hL.all (by omega)
 rw [hn] at hc1
 rw [hn] at K0 ⊢
 have HC := Lib.hid hcell
 have HF := Lib.hid hf
 have HN := Lib.hid hn
 have i0 : ¬ ((n : Int) = 0) := by omega
 have i1 : ¬ ((254 : Int) < (n : Int)) := by omega
 unfold maxLen at hc2
 obtain ⟨R, hR⟩ : ∃ R, typesGo [] 0 L = R := ⟨_, rfl⟩
 rw [hR]
 have hmm := @run_makeMap Tryz.prog
 have K2 := Lib.hid (((Km.of K0.out).madeAt (W.heap.size + 1) (by simp) 28 4).madeAt (W.heap.size + 2) (by simp) 9 3)
 have T0 := Lib.hid (show Ty1 L (.slice (some ⟨b, o, none⟩) n c) rv f R W 0 _ from ⟨by rw [← hR]; rfl, fun l hl => by simp at hl, _, _, K2.out, FnOf.empty, FnOf.empty⟩)
 clear eT hL hcell hf hn hR
 go_enter Tryz.func55, Tryz.ntmps55
 go_wp2_with fail
 go_loopw [7, 27, 31, 40, 45] (fun _ i27 _ _ _ wr => ∃ i : Nat, i ≤ n ∧ i27 = .int .i64 i ∧ Ty1 L (.slice (some ⟨b, o, none⟩) n c) rv f R W i wr) (fun _ i27 _ _ _ _ => n - (intOf i27).toNat)
 case atStart => exact ⟨0, by omega, rfl, T0.out⟩
 case round =>
  obtain ⟨i, hi, rfl, hT⟩ := hrel
  have HT := Lib.hid hT
  obtain ⟨D4, D5, hK, hD4, hD5⟩ := hT.maps
  have HK := Lib.hid hK
  have HD4 := Lib.hid hD4
  have HD5 := Lib.hid hD5
  clear hT hK hD4 hD5
  by_cases hlt : i < n
  · obtain ⟨l, hl⟩ : ∃ l, L[i]? = some l := ⟨_, List.getElem?_eq_getElem (by have := HN.out; omega)⟩
    obtain ⟨c0, c1, c2⟩ := HC.out i l hl
    have k0 := (HK.out.below.cell (p := ⟨b, o + i * 3, none⟩) hb).trans c0
    have k1 := (HK.out.below.cell (p := ⟨b, o + i * 3 + 1, none⟩) hb).trans c1
    have k2 := (HK.out.below.cell (p := ⟨b, o + i * 3 + 2, none⟩) hb).trans c2
    have hfit := HF.out l (List.mem_of_getElem? hl)
    have hbw : b < wr.heap.size := Nat.lt_of_lt_of_le hb HK.out.below.size
    obtain ⟨f0, f1⟩ := lc_i hfit
    have hsz := hfit.2
    have HFit := Lib.hid hfit
    have HLi := Lib.hid hl
    have HL := Lib.hid (show typesGo (L.take i) (sumS (dA (L.take i))) (l :: L.drop (i + 1)) = R by rw [← drop_at hl]; exact HT.out.go)
    have KA := Lib.hid (HK.out.alloc (.cells #[.int .i64 l.off, .bool l.dst, .string l.abbr] 28))
    clear c0 c1 c2 hfit hl hmm
    by_cases hr : l.off < -54000 ∨ 54000 < l.off
    · have HX := Lib.hid (show R = 3 by rw [← HL.out]; exact go_bad (lcE_rng hr) (by decide))
      go_wp2_with fail
      all_goals
       go_ret
       exact ⟨by rw [HX.out]; rfl, KA.out.below⟩
    · have r0 : ¬ l.off < -54000 := by omega
      have r1 : ¬ 54000 < l.off := by omega
      cases hnm : nameOk l.abbr.data.toList
      · have HX := Lib.hid (show R = 15 by rw [← HL.out]; exact go_bad (lcE_abbr hr hnm) (by decide))
        have CA := Lib.hid (abbr_any l.abbr hsz)
        rw [hnm] at CA
        clear hnm hr
        go_wp2_with fail
        refine (CA.out _).mono ?_
        rintro _ X ⟨rfl, hbx⟩
        have KB := Lib.hid (KA.out.keep hbx)
        clear hbx
        go_wp2_with fail
        go_ret
        exact ⟨by rw [HX.out]; rfl, KB.out.below⟩
      · have hl7 := nameOk_size hnm
        have HO := Lib.hid (lcE_ok hr hnm)
        have CA := Lib.hid (abbr_any l.abbr hsz)
        rw [hnm] at CA
        clear hnm hr
        go_wp2_with fail
        refine (CA.out _).mono ?_
        rintro _ X ⟨rfl, hbx⟩
        have KB := Lib.hid (KA.out.keep hbx)
        clear hbx k0 k1 k2
        obtain ⟨⟨m0, m1, m2⟩, _, _, _⟩ := row3 (KB.out.kp.at 0 rfl)
        have z0 := KB.out.kp.lt 0 rfl
        have hfp : ∀ p ∈ L.take i, Lc.Fit p := fun p hp => HF.out p (List.mem_of_mem_take hp)
        have HS := Lib.hid (seenG_at hfp HFit.out)
        clear hfp
        by_cases hm : l ∈ L.take i
        · have HX := Lib.hid (show R = 10 by rw [← HL.out]; exact go_twice HO.out hm)
          rw [decide_eq_true hm] at HS
          clear hm
          go_wp2_with (first
           | (at_lookup; refine wpList_look_bool _ rfl _ _ 154 rfl 28 4 loc_keyed Tryz.underlying154 Tryz.underlying4 (zero_bool _) (W.heap.size + 1) i D4 (seenG (L.take i)) HD4.out rfl (KB.out.map _ (List.mem_cons_of_mem _ (List.mem_cons_self ..))) _ (lcKey l) rfl (lcKey_is HFit.out.1 HFit.out.2) true HS.out ?_)
           | go_in)
          go_ret
          exact ⟨by rw [HX.out]; rfl, KB.out.below⟩
        · have HM := Lib.hid hm
          rw [decide_eq_false hm] at HS
          clear hm
          have hwf := wf_64 (n := (l.abbr.size : Int) + 1) (by omega)
          go_wp2_with (first
           | (at_lookup; refine wpList_look_bool _ rfl _ _ 154 rfl 28 4 loc_keyed Tryz.underlying154 Tryz.underlying4 (zero_bool _) (W.heap.size + 1) i D4 (seenG (L.take i)) HD4.out rfl (KB.out.map _ (List.mem_cons_of_mem _ (List.mem_cons_self ..))) _ (lcKey l) rfl (lcKey_is HFit.out.1 HFit.out.2) false HS.out ?_)
           | (at_mapUpdate; refine wpList_mapUpdate_own _ rfl _ _ _ 154 rfl 28 4 loc_keyed Tryz.underlying154 _ (W.heap.size + 1) i D4 rfl (KB.out.map _ (List.mem_cons_of_mem _ (List.mem_cons_self ..))) (by unfold maxLen; omega) _ _ (lcKey l) rfl rfl (lcKey_is HFit.out.1 HFit.out.2) (.lit (.bool true)) [] (plainElem_bool Tryz.underlying4 true) ?_; intro w1 hown1 hgrow1; have K3 := Lib.hid (KB.out.swapM.turn hgrow1 hown1); obtain ⟨⟨n0, n1, n2⟩, _, _, _⟩ := row3 (K3.out.kp.at 0 rfl); have y0 := K3.out.kp.lt 0 rfl; clear hown1 hgrow1 m0 m1 m2 z0)
           | (at_mapUpdate; refine wpList_mapUpdate_own _ rfl _ _ _ 132 rfl 9 3 str_keyed Tryz.underlying132 _ (W.heap.size + 1 + 1) i D5 rfl (K3.out.map _ (List.mem_cons_of_mem _ (List.mem_cons_self ..))) (by unfold maxLen; omega) _ _ (strK l.abbr) rfl rfl (strKey_is HFit.out.2) (.lit (.int .i64 ((l.abbr.size : Int) + 1))) [] (plainElem_int Tryz.underlying3 hwf) ?_; intro w2 hown2 hgrow2; have K4 := Lib.hid (K3.out.swapM.turn hgrow2 hown2); clear hown2 hgrow2)
           | go_in)
          go_roundw
          case rel =>
           refine ⟨i + 1, by omega, by go_num, len_go HLi.out HT.out.go HO.out HM.out, fun p hp => ?_, _, _, K4.out.drop, ?_, ?_⟩
           · rw [List.take_add_one, HLi.out] at hp
             rcases List.mem_append.1 hp with hp | hp
             · exact HT.out.sz p hp
             · simp at hp
               subst hp
               exact hl7
           · rw [List.take_add_one, HLi.out]
             show FnOf _ (seenG (L.take i ++ [l]))
             rw [seenG_snoc]
             exact HD4.out.put (k := lcKey l) trivial _
           · rw [List.take_add_one, HLi.out]
             show FnOf _ (lenG (L.take i ++ [l]))
             rw [lenG_snoc]
             exact HD5.out.put (k := strK l.abbr) trivial _
          case measure => simp [intOf]; omega
  · obtain rfl : i = n := by omega
    have hLt : L.take i = L := List.take_of_length_le (by have := HN.out; omega)
    have hE : (if 255 < sumS (dA L) then (7 : Int) else 0) = R := by
     have := HT.out.go
     rw [hLt, List.drop_of_length_le (by have := HN.out; omega)] at this
     rw [← this]
     rfl
    have HE := Lib.hid hE
    have hsz := HT.out.sz
    rw [hLt] at hsz
    have hbd := sum_le L hsz
    have HLN := HN.out
    rw [HLN] at hbd
    have hd5 := HD5.out
    rw [hLt] at hd5
    have HD := Lib.hid hd5
    obtain ⟨tot, htot⟩ : ∃ s, sumS (dA L) = s := ⟨_, rfl⟩
    rw [htot] at HE hbd
    have HTot := Lib.hid htot
    have HW := Lib.hid (HK.out.below)
    have hW := HW.out.size
    clear hLt hE hsz hd5 HLN htot hmm
    go_wp2_with (first
     | (at_range; refine wpList_range_own _ rfl _ 132 rfl 9 3 str_keyed Tryz.underlying132 _ (W.heap.size + 1 + 1) i D5 rfl (HK.out.map _ (List.mem_cons_self ..)) ?_; intro w0 hrg0 hg0 hs0)
     | go_in)
    have hb0 := below_none HW.out hg0 hW
    obtain ⟨r, hr⟩ : ∃ r, wr.heap.size = r := ⟨_, rfl⟩
    rw [hr] at hrg0 hW
    have T2 := Lib.hid (show Ty2 L W r i D5 tot 0 w0 from ⟨_, _, hrg0, by rw [sum_all (fun a ha => len_has HD.out ha), Nat.zero_add]; exact HTot.out, hb0⟩)
    rw [hr]
    clear hrg0 hg0 hs0 hb0 HK HT K0 K2 T0 HD4 HD5 hr
    go_loopw [8, 10] (fun s8 _ wx => ∃ s : Nat, s8 = .int .i64 s ∧ Ty2 L W r i D5 tot s wx) (fun _ _ wx => wx.rangeLeft (W.heap.size + 1 + 1) r)
    case atStart => exact ⟨0, rfl, T2.out⟩
    case round =>
     obtain ⟨s, rfl, left, cnt, hrg, hsum, hbx⟩ := hrel
     have HB := Lib.hid hbx
     have hbs := hbx.size
     clear hbx
     go_wp2_with (first
      | (at_next; refine wpList_next_si _ rfl _ rfl 9 3 .i64 str_keyed Tryz.underlying9 Tryz.underlying3 (W.heap.size + 1 + 1) r i D5 _ _ rfl hrg ?_ ?_)
      | go_in)
     · intro _ hl0
       rw [sum_none hl0] at hsum
       obtain rfl : s = tot := by omega
       by_cases h255 : 255 < s
       · have j0 : (255 : Int) < (s : Int) := by omega
         rw [if_pos h255] at HE
         go_wp2_with fail
         go_ret
         exact ⟨by rw [← HE.out]; rfl, HB.out⟩
       · have j0 : ¬ (255 : Int) < (s : Int) := by omega
         rw [if_neg h255] at HE
         go_wp2_with fail
         go_ret
         exact ⟨by rw [← HE.out]; rfl, HB.out⟩
     · intro a c w1 cnt1 hsz hwf hlx hat hrg1 hlt hg1 hs1 hen
       obtain ⟨ha, rfl⟩ := len_is HD.out hat
       rw [sum_take (dA L) left (dA_nodup L) ha hlx] at hsum
       have HS := Lib.hid (show Ty2 L W r i D5 tot (s + (a.size + 1)) w1 from ⟨_, _, hrg1, by omega, below_some HB.out hg1 hbs hW⟩)
       have hm : w1.rangeLeft (W.heap.size + 1 + 1) r < wr.rangeLeft (W.heap.size + 1 + 1) r := by rw [hrg1.left_eq, hrg.left_eq]; exact hlt
       have HM := Lib.hid hm
       have hsb : (s : Int) + ((a.size : Int) + 1) ≤ 9223372036854775807 := by omega
       clear hm hrg1 hlt hg1 hs1 hat hlx hwf hsum
       go_wp2_with fail
       go_roundw
       case rel => exact ⟨s + (a.size + 1), by go_num, HS.out⟩
       case measure => exact HM.out
end Go.Proofs.YtkpmmabdpeobaaaGreatDoor.Px
namespace Go.Proofs.YtkpmmabdpeobaaaGreatDoor.Px
open Go.RowKit
open Tb
set_option maxHeartbeats 4000000 in
set_option maxRecDepth 100000 in
theorem trans_any (x : Tab) (tv rv : Value) (f : ByteArray) (W : World) (h : TabV W tv rv f x) :
 Calls Tryz.prog 56 #[.agg #[tv, rv, .string f]] W fun e w' => e = .returned (.int .i64 (transE x)) ∧ Below W.heap.size W w' := by
 obtain ⟨n, hn⟩ : ∃ n, x.types.length = n := ⟨_, rfl⟩
 obtain ⟨N, hN⟩ : ∃ n, x.trans.length = n := ⟨_, rfl⟩
 obtain ⟨ta, tc, rfl, t1, t2⟩ := h.types.slice
 have hR := h.trans
 have hfit := h.trs
 obtain ⟨R, hRe⟩ : ∃ R, x.trans = R := ⟨_, rfl⟩
 have eT : transE x = transGo n 0 0 none R := by unfold transE; rw [hn, hRe]
 rw [hRe] at hR hfit hN
 rw [hn] at t1
 rw [eT, hn]
 obtain ⟨ra, rc, rfl, r1, r2⟩ := hR.slice
 have hall := fun h0 => hR.all h0
 rw [hN] at r1 hall
 rw [hN]
 unfold maxLen at t2 r2
 obtain ⟨E, hE⟩ : ∃ E, transGo n 0 0 none R = E := ⟨_, rfl⟩
 rw [hE]
 have HE := Lib.hid hE
 have HA := Lib.hid hall
 have HF := Lib.hid hfit
 have HN := Lib.hid hN
 have K0 := Lib.hid ((Kp.start W).alloc (.cells #[.slice ta n tc, .slice ra N rc, .string f] 105))
 clear h hR hall hfit eT hE hRe hN hn
 go_enter Tryz.func56, Tryz.ntmps56
 go_wp2_with fail
 go_loopw [3, 4, 5, 6, 11, 16, 25, 41, 60] (fun b3 m4 _ _ i11 _ _ _ _ wr => ∃ (i m : Nat), i ≤ N ∧ i11 = .int .i64 i ∧ m4 = .int .i64 m ∧ b3 = .int .i64 (befT R i) ∧ (m = 0 ∨ m < n) ∧ transGo n (befT R i) m (lasT R i) (R.drop i) = E ∧ Kp [(W.heap.size, .cells #[.slice ta n tc, .slice ra N rc, .string f] 105)] [] W wr) (fun _ _ _ _ i11 _ _ _ _ _ => N - (intOf i11).toNat)
 case atStart => exact ⟨0, 0, by omega, rfl, rfl, rfl, .inl rfl, HE.out, K0.out⟩
 case round =>
  obtain ⟨i, m, hi, rfl, rfl, rfl, hm, hgo, hK⟩ := hrel
  have HG := Lib.hid hgo
  have HK := Lib.hid hK
  clear hgo hK
  obtain ⟨⟨p0, p1, p2⟩, _, _, _⟩ := row3 (HK.out.at 0 rfl)
  have z0 := HK.out.lt 0 rfl
  by_cases hlt : i < N
  · obtain ⟨b, o, c, hra, _, _, hb, hcell⟩ := HA.out (by omega)
    simp only [Value.slice.injEq] at hra
    obtain ⟨rfl, _, rfl⟩ := hra
    obtain ⟨t, ht⟩ : ∃ t, R[i]? = some t := ⟨_, List.getElem?_eq_getElem (by have := HN.out; omega)⟩
    have HL := Lib.hid (show transGo n (befT R i) m (lasT R i) (t :: R.drop (i + 1)) = E by rw [← drop_at ht]; exact HG.out)
    obtain ⟨⟨f0, f1⟩, f2, f3⟩ := tr_i (HF.out t (List.mem_of_getElem? ht))
    obtain ⟨c0, c1⟩ := hcell i t ht
    have k0 := (HK.out.below.cell (p := ⟨b, o + i * 2, none⟩) hb).trans c0
    have k1 := (HK.out.below.cell (p := ⟨b, o + i * 2 + 1, none⟩) hb).trans c1
    have HC := Lib.hid hcell
    obtain ⟨hb1, hb2⟩ := bef_succ ht
    have HB1 := Lib.hid hb1
    have HB2 := Lib.hid hb2
    have hbw : b < wr.heap.size := Nat.lt_of_lt_of_le hb HK.out.below.size
    obtain ⟨ta', ty⟩ := t
    dsimp only at f0 f1 f2 f3 k0 k1
    have KA := Lib.hid ((HK.out.alloc (.cells #[.int .i64 ta', .int .i64 ty] 36)))
    have HH := Lib.hid ht
    clear c0 c1 hcell ht hb1 hb2 HG
    by_cases hr : ta' < -36028797018963968 ∨ 36028797018963968 < ta'
    · have HX := Lib.hid (show E = 3 by rw [← HL.out]; exact tg_rng hr)
      go_wp2_with fail
      all_goals
       go_ret
       exact ⟨by rw [HX.out]; rfl, KA.out.below⟩
    · have r0 : ¬ ta' < -36028797018963968 := by omega
      have r1 : ¬ 36028797018963968 < ta' := by omega
      have HR := Lib.hid hr
      clear hr
      cases i with
      | zero =>
        have HQ := Lib.hid (show behindQ (lasT R 0) ta' = false from rfl)
        simp only [Nat.zero_mul, Nat.add_zero] at k0 k1
        rw [show befT R 0 = 0 from rfl]
        by_cases h3 : ty < 0 ∨ (n : Int) ≤ ty ∨ ty = 0
        · have HX := Lib.hid (show E = 2 by rw [← HL.out]; exact tg_arg HR.out HQ.out (h3))
          rcases (show ty < 0 ∨ (¬ ty < 0 ∧ (n : Int) ≤ ty) ∨ (¬ ty < 0 ∧ ¬ (n : Int) ≤ ty ∧ ty = 0) by omega) with a1 | ⟨a1, a2⟩ | ⟨a1, a2, rfl⟩
          all_goals
           clear h3
           go_upto_region 7 with fail
           go_quiet (fail)
           go_wp2_with fail
           go_ret
           first | exact ⟨by rw [HX.out]; rfl, KA.out.below⟩ | exact ⟨by rw [HX.out]; rfl, Civ.below_drewN KA.out.below _⟩
        · have a1 : ¬ ty < 0 := by omega
          have a2 : ¬ (n : Int) ≤ ty := by omega
          have a3 : ¬ ty = 0 := by omega
          have H3 := Lib.hid (show ¬ (ty < 0 ∨ (n : Int) ≤ ty ∨ ty = befT R 0) from h3)
          clear h3
          by_cases h4 : (m : Int) + 1 < ty
          · have HX := Lib.hid (show E = 12 by rw [← HL.out]; exact tg_new HR.out HQ.out H3.out h4)
            go_upto_region 7 with fail
            go_quiet (fail)
            go_wp2_with fail
            all_goals first
             | (go_ret; exact ⟨by rw [HX.out]; rfl, KA.out.below⟩)
             | (go_ret; exact ⟨by rw [HX.out]; rfl, Civ.below_drewN KA.out.below _⟩)
             | (exfalso; omega)
          · obtain ⟨k, rfl⟩ : ∃ k : Nat, ty = (k : Int) := ⟨ty.toNat, by omega⟩
            by_cases hmk : m ≤ k
            · have hmx : max (m : Int) (k : Int) = (k : Int) := by omega
              have HS := Lib.hid (tg_step HL.out HR.out HQ.out H3.out h4 HB1.out HB2.out hmx)
              go_upto_region 7 with fail
              go_quiet (fail)
              go_wp2_with fail
              go_region
              all_goals
               go_wp2_with fail
               go_roundw
               case rel => exact ⟨0 + 1, k, by omega, by go_num, by first | rfl | go_num | (simp; omega), by rw [HB1.out], by omega, HS.out, KA.out.drop.call (Civ.below_drewN (Below.refl _ _) _) rfl rfl rfl rfl⟩
               case measure => simp [intOf]; omega
            · have hmx : max (m : Int) (k : Int) = (m : Int) := by omega
              have HS := Lib.hid (tg_step HL.out HR.out HQ.out H3.out h4 HB1.out HB2.out hmx)
              go_upto_region 7 with fail
              go_quiet (fail)
              go_wp2_with fail
              go_region
              all_goals
               go_wp2_with fail
               go_roundw
               case rel => exact ⟨0 + 1, m, by omega, by go_num, by first | rfl | go_num | (simp; omega), by rw [HB1.out], by omega, HS.out, KA.out.drop.call (Civ.below_drewN (Below.refl _ _) _) rfl rfl rfl rfl⟩
               case measure => simp [intOf]; omega
      | succ j =>
        obtain ⟨y, hy⟩ : ∃ y, R[j]? = some y := ⟨_, List.getElem?_eq_getElem (by have := HN.out; omega)⟩
        obtain ⟨hy1, hy2⟩ := bef_succ hy
        obtain ⟨⟨u0, u1⟩, u2, u3⟩ := tr_i (HF.out y (List.mem_of_getElem? hy))
        obtain ⟨c0, c1⟩ := HC.out j y hy
        have q0 := (HK.out.below.cell (p := ⟨b, o + j * 2, none⟩) hb).trans c0
        have q1 := (HK.out.below.cell (p := ⟨b, o + j * 2 + 1, none⟩) hb).trans c1
        obtain ⟨ya, yt⟩ := y
        dsimp only at u0 u1 u2 u3 q0 q1 hy1 hy2
        have HY1 := Lib.hid hy1
        rw [hy1]
        clear hy c0 c1
        by_cases ho : ta' ≤ ya
        · have HX := Lib.hid (show E = 12 by rw [← HL.out]; exact tg_ord HR.out (by rw [hy2]; unfold behindQ; simpa using ho))
          clear hy1 hy2
          go_upto_region 7 with fail
          go_quiet (fail)
          go_wp2_with fail
          go_ret
          exact ⟨by rw [HX.out]; rfl, Civ.below_drewN KA.out.below _⟩
        · have HQ := Lib.hid (show behindQ (lasT R (j + 1)) ta' = false by rw [hy2]; unfold behindQ; simpa using ho)
          clear hy1 hy2
          by_cases h3 : ty < 0 ∨ (n : Int) ≤ ty ∨ ty = yt
          · have HX := Lib.hid (show E = 2 by rw [← HL.out]; exact tg_arg HR.out HQ.out (by rw [HY1.out]; exact h3))
            rcases (show ty < 0 ∨ (¬ ty < 0 ∧ (n : Int) ≤ ty) ∨ (¬ ty < 0 ∧ ¬ (n : Int) ≤ ty ∧ ty = yt) by omega) with a1 | ⟨a1, a2⟩ | ⟨a1, a2, rfl⟩
            all_goals
             clear h3
             go_upto_region 7 with fail
             go_quiet (fail)
             go_wp2_with fail
             go_ret
             first | exact ⟨by rw [HX.out]; rfl, KA.out.below⟩ | exact ⟨by rw [HX.out]; rfl, Civ.below_drewN KA.out.below _⟩
          · have a1 : ¬ ty < 0 := by omega
            have a2 : ¬ (n : Int) ≤ ty := by omega
            have a3 : ¬ ty = yt := by omega
            have H3 := Lib.hid (show ¬ (ty < 0 ∨ (n : Int) ≤ ty ∨ ty = befT R (j + 1)) from by rw [HY1.out]; exact h3)
            clear h3
            by_cases h4 : (m : Int) + 1 < ty
            · have HX := Lib.hid (show E = 12 by rw [← HL.out]; exact tg_new HR.out HQ.out H3.out h4)
              go_upto_region 7 with fail
              go_quiet (fail)
              go_wp2_with fail
              all_goals first
               | (go_ret; exact ⟨by rw [HX.out]; rfl, KA.out.below⟩)
               | (go_ret; exact ⟨by rw [HX.out]; rfl, Civ.below_drewN KA.out.below _⟩)
               | (exfalso; omega)
            · obtain ⟨k, rfl⟩ : ∃ k : Nat, ty = (k : Int) := ⟨ty.toNat, by omega⟩
              by_cases hmk : m ≤ k
              · have hmx : max (m : Int) (k : Int) = (k : Int) := by omega
                have HS := Lib.hid (tg_step HL.out HR.out HQ.out H3.out h4 HB1.out HB2.out hmx)
                go_upto_region 7 with fail
                go_quiet (fail)
                go_wp2_with fail
                go_region
                all_goals
                 go_wp2_with fail
                 go_roundw
                 case rel => exact ⟨(j + 1) + 1, k, by omega, by go_num, by first | rfl | go_num | (simp; omega), by rw [HB1.out], by omega, HS.out, KA.out.drop.call (Civ.below_drewN (Below.refl _ _) _) rfl rfl rfl rfl⟩
                 case measure => simp [intOf]; omega
              · have hmx : max (m : Int) (k : Int) = (m : Int) := by omega
                have HS := Lib.hid (tg_step HL.out HR.out HQ.out H3.out h4 HB1.out HB2.out hmx)
                go_upto_region 7 with fail
                go_quiet (fail)
                go_wp2_with fail
                go_region
                all_goals
                 go_wp2_with fail
                 go_roundw
                 case rel => exact ⟨(j + 1) + 1, m, by omega, by go_num, by first | rfl | go_num | (simp; omega), by rw [HB1.out], by omega, HS.out, KA.out.drop.call (Civ.below_drewN (Below.refl _ _) _) rfl rfl rfl rfl⟩
                 case measure => simp [intOf]; omega
  · obtain rfl : i = N := by omega
    have HX := Lib.hid (show (if (m : Int) + 1 ≠ n then (4 : Int) else 0) = E by
     have := HG.out
     rw [List.drop_of_length_le (by have := HN.out; omega)] at this
     rw [← this]
     rfl)
    by_cases h1 : (m : Int) + 1 = n
    · have j0 : (m : Int) + 1 = (n : Int) := by omega
      rw [if_neg (by omega)] at HX
      go_wp2_with fail
      go_ret
      exact ⟨by rw [← HX.out]; rfl, HK.out.below⟩
    · have j0 : ¬ (m : Int) + 1 = (n : Int) := by omega
      rw [if_pos h1] at HX
      go_wp2_with fail
      go_ret
      exact ⟨by rw [← HX.out]; rfl, HK.out.below⟩
end Go.Proofs.YtkpmmabdpeobaaaGreatDoor.Px
