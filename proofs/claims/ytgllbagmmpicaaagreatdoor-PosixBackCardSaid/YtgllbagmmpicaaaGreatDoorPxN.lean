/- Names of POSIX TZ strings: posix.name and analemmaref37.name. -/
import Derived.Test.YtgllbagmmpicaaaGreatDoorPxC
import Derived.Test.YtgllbagmmpicaaaGreatDoorShelf
import Derived.Shelf.Strings.SlTrimAscii
import Derived.Deep.LoopGhost
namespace Go.Proofs.YtgllbagmmpicaaaGreatDoor.Px
open Go.RowKit
open Civ

def abc64 : ByteArray := ⟨#[65, 66, 67, 68, 69, 70, 71, 72, 73, 74, 75, 76, 77, 78, 79, 80, 81, 82, 83, 84, 85, 86, 87, 88, 89, 90, 97, 98, 99, 100, 101, 102, 103, 104, 105, 106, 107, 108, 109, 110, 111, 112, 113, 114, 115, 116, 117, 118, 119, 120, 121, 122, 48, 49, 50, 51, 52, 53, 54, 55, 56, 57, 43, 45]⟩
def letC (c : UInt8) : Bool := (decide (65 ≤ c.toNat) && decide (c.toNat ≤ 90)) || (decide (97 ≤ c.toNat) && decide (c.toNat ≤ 122))
def othC (c : UInt8) : Bool := (decide (48 ≤ c.toNat) && decide (c.toNat ≤ 57)) || decide (c.toNat = 43) || decide (c.toNat = 45)
def inB (c : UInt8) : Bool := letC c || othC c
theorem every_byte (p : UInt8 → Bool) (h : (List.range 256).all (fun n => p (UInt8.ofNat n)) = true) (c : UInt8) : p c = true := by
  have := List.all_eq_true.1 h c.toNat (List.mem_range.2 c.toNat_lt)
  rwa [UInt8.ofNat_toNat] at this
theorem contains_in (c : UInt8) : abc64.data.toList.contains c = inB c :=
  eq_of_beq (every_byte (fun c => abc64.data.toList.contains c == inB c) (by kernel_rfl) c)
theorem index_in (c : UInt8) (h : inB c = true) : c.toNat < 128 ∧ decide (0 ≤ Lib.indexByte abc64.data.toList c) = true := by
  have := every_byte (fun c => !(inB c) || (decide (c.toNat < 128) && decide (0 ≤ Lib.indexByte abc64.data.toList c))) (by kernel_rfl) c
  rw [h] at this
  simpa using this
/-- whether a string is a name -/
def nameOk (l : List UInt8) : Bool := decide (3 ≤ l.length) && decide (l.length ≤ 7) && l.all inB
theorem dropWhile_nil {p : UInt8 → Bool} : ∀ l : List UInt8, l.dropWhile p = [] ↔ l.all p = true
  | [] => by simp
  | a :: r => by
    cases h : p a
    · simp [h]
    · rw [List.dropWhile_cons_of_pos h, dropWhile_nil r, List.all_cons, h, Bool.true_and]
theorem takeWhile_all {p : UInt8 → Bool} : ∀ l : List UInt8, ∀ x ∈ l.takeWhile p, p x = true
  | [], x, h => by simp at h
  | a :: r, x, h => by
    cases ha : p a
    · simp [ha] at h
    · rw [List.takeWhile_cons_of_pos ha] at h
      rcases List.mem_cons.1 h with rfl | h
      · exact ha
      · exact takeWhile_all r x h
theorem trim_nil (l cs : List UInt8) : Lib.trimS l cs = [] ↔ l.all (cs.contains ·) = true := by
  unfold Lib.trimS Lib.trimLeftS Lib.trimRightS
  rw [dropWhile_nil, List.all_eq_true, List.all_eq_true]
  constructor
  · intro h x hx
    have e := List.takeWhile_append_dropWhile (p := (cs.contains ·)) (l := l.reverse)
    have hx' : x ∈ l.reverse := List.mem_reverse.2 hx
    rw [← e] at hx'
    rcases List.mem_append.1 hx' with h1 | h1
    · exact takeWhile_all _ x h1
    · exact h x (List.mem_reverse.2 h1)
  · intro h x hx
    exact h x (List.mem_reverse.1 ((List.dropWhile_sublist _).mem (List.mem_reverse.1 hx)))
theorem odd_in (c : UInt8) (h : inB c = true) (w : World) :
    Calls Tryz.prog 76 #[.int .i32 (c.toNat : Int)] w fun e w' => e = .returned (.bool false) ∧ w' = w := by
  obtain ⟨h1, h2⟩ := index_in c h
  have C := Tryz.strings_ContainsRune_ascii abc64 (c.toNat : Int) w (by omega) (by omega)
  rw [Int.toNat_natCast, show c.toNat.toUInt8 = c from UInt8.ofNat_toNat, h2] at C
  have HC := Lib.hid C
  clear C h1 h2 h
  go_enter Tryz.func76, Tryz.ntmps76
  go_wp2_with fail
  refine HC.out.mono ?_
  rintro e w' ⟨rfl, rfl⟩
  go_wp2_with fail
  go_ret
  exact ⟨rfl, rfl⟩
theorem enters_odd : ∀ args w, (callFunc 76 args).run Tryz.prog w = .ok (.enter 76 args) w := enters_of Tryz.func76 (by kernel_rfl) rfl
set_option maxHeartbeats 2000000 in
set_option maxRecDepth 1000000 in
theorem index_odd (s : ByteArray) (hs : s.data.toList.all inB = true) (w : World) :
    Calls Tryz.prog 131 #[.string s, .func (.func 76) #[] #[], .bool true] w fun e w' => e = .returned (.int .i64 (-1)) ∧ Below w.heap.size w w' := by
  have HS := Lib.hid hs
  have hef := enters_odd
  clear hs
  go_enter Tryz.func131, Tryz.ntmps131
  go_wp2
  go_loopg [] s.size (fun gf wx => ∃ pos : Nat, wx.heap[w.heap.size]? = some (.stringIter s pos) ∧ Below w.heap.size w wx ∧ s.size ≤ pos + gf)
  case atStart => exact ⟨0, World.iter_heap w s 0, (Below.refl _ w).alloc (Nat.le_refl _) _, by omega⟩
  case round =>
    obtain ⟨pos, hit, hbw, hfu⟩ := hrel
    by_cases hps : pos < s.size
    · obtain ⟨g', rfl⟩ : ∃ g', gk = g' + 1 := ⟨gk - 1, by omega⟩
      have hin : inB s[pos] = true := List.all_eq_true.1 HS.out _ (Array.mem_toList_iff.2 (Array.getElem_mem (xs := s.data) hps))
      have hnx : ∀ ty, (Instr.next (.pointer (some ⟨w.heap.size, 0, none⟩)) true ty).run Tryz.prog wr = _ := fun ty => Lib.run_next_any_at wr w.heap.size s pos ty hit hps
      rw [decode_ascii s pos hps (index_in _ hin).1] at hnx
      have hit2 := Lib.iterAt_heap wr w.heap.size s pos (pos + 1) hit
      have hbw2 := Lib.below_iterAt hbw (k := w.heap.size) (Nat.le_refl _) s (pos + 1)
      obtain ⟨W, hWd⟩ : ∃ W, wr.iterAt w.heap.size s (pos + 1) = W := ⟨_, rfl⟩
      rw [hWd] at hnx hit2 hbw2
      have cS := Lib.hid (odd_in s[pos] hin W)
      have HI := Lib.hid hit2
      have HB := Lib.hid hbw2
      clear hin hit hit2 hbw hbw2 hWd
      go_wp2_with (go_at_fn 76; refine cS.out.mono ?_; rintro e W' ⟨rfl, rfl⟩)
      go_roundg g'
      case measure => omega
      case rel => exact ⟨pos + 1, HI.out, HB.out, by omega⟩
    · have hnx : ∀ ty, (Instr.next (.pointer (some ⟨w.heap.size, 0, none⟩)) true ty).run Tryz.prog wr = _ := fun ty => Lib.run_next_end_at wr w.heap.size s pos ty hit hps
      have HB := Lib.hid hbw
      clear hit hbw
      go_wp2
      go_ret
      exact ⟨rfl, HB.out⟩
theorem contains_odd (s : ByteArray) (hs : s.data.toList.all inB = true) (w : World) :
    Calls Tryz.prog 75 #[.string s, .func (.func 76) #[] #[]] w fun e w' => e = .returned (.bool false) ∧ Below w.heap.size w w' := by
  have C := Lib.hid (index_odd s hs)
  clear hs
  go_enter Tryz.func75, Tryz.ntmps75
  go_wp2_with (first | (go_at_call 131; refine (C.out _).mono ?_; rintro e w' ⟨rfl, hb⟩) | go_in)
  go_ret
  exact ⟨rfl, hb⟩
theorem len_list (s : ByteArray) : s.data.toList.length = s.size := Array.length_toList
theorem bytes_nil {l : List UInt8} (h : l = []) : (⟨l.toArray⟩ : ByteArray) = ⟨#[]⟩ := by rw [h]
set_option maxHeartbeats 2000000 in
theorem name_any (s : ByteArray) (hs : s.size ≤ 1000000) (w : World) :
    Calls Tryz.prog 39 #[.string s] w fun e w' => e = .returned (.bool (nameOk s.data.toList)) ∧ Below w.heap.size w w' := by
  have hn : nameOk s.data.toList = (decide (3 ≤ s.size) && decide (s.size ≤ 7) && s.data.toList.all inB) := by unfold nameOk; rw [len_list]
  rw [hn]
  clear hn
  by_cases h3 : 3 ≤ s.size
  · have i3 : (3 : Int) ≤ (s.size : Int) := by omega
    by_cases h7 : s.size ≤ 7
    · have i7 : (s.size : Int) ≤ 7 := by omega
      have CT := Lib.hid (fun w => Any.strings_Trim_laid Tryz.lays160 (by kernel_rfl) s abc64 w (by omega) (by decide) (ascii_of_all (by decide)))
      have hT := trim_nil s.data.toList abc64.data.toList
      rw [show (fun x => abc64.data.toList.contains x) = inB from funext contains_in] at hT
      rw [decide_eq_true h3, decide_eq_true h7]
      by_cases ha : s.data.toList.all inB = true
      · have CO := Lib.hid (contains_odd s ha)
        rw [hT.2 ha] at CT
        rw [ha]
        clear hT ha h3 h7
        go_enter Tryz.func39, Tryz.ntmps39
        go_wp2_with fail
        refine (CT.out _).mono ?_
        rintro e V ⟨rfl, hb⟩
        have HV := Lib.hid hb
        clear hb
        go_wp2_with fail
        refine (CO.out _).mono ?_
        rintro e V2 ⟨rfl, hb⟩
        have HV2 := Lib.hid (HV.out.trans (hb.mono HV.out.size))
        clear hb
        go_wp2_with fail
        go_ret
        exact ⟨rfl, HV2.out⟩
      · obtain ⟨t, ht⟩ : ∃ t, (⟨(Lib.trimS s.data.toList abc64.data.toList).toArray⟩ : ByteArray) = t := ⟨_, rfl⟩
        have hne : t.data.toList ≠ [] := by rw [← ht]; intro h; exact ha (hT.1 (by simpa using h))
        have he2 : t.toList.isEmpty = false := by rw [ByteArray.toList_eq]; simpa using hne
        rw [ht] at CT
        rw [show s.data.toList.all inB = false by simpa using ha]
        clear hT ha h3 h7 hne ht
        go_enter Tryz.func39, Tryz.ntmps39
        go_wp2_with fail
        refine (CT.out _).mono ?_
        rintro e V ⟨rfl, hb⟩
        have HV := Lib.hid hb
        clear hb
        go_wp2_with fail
        go_ret
        exact ⟨rfl, HV.out⟩
    · have i7 : (7 : Int) < (s.size : Int) := by omega
      rw [decide_eq_true h3, decide_eq_false h7]
      clear h3 h7
      go_enter Tryz.func39, Tryz.ntmps39
      go_wp2_with fail
      go_ret
      exact ⟨rfl, Below.refl _ _⟩
  · have i3 : (s.size : Int) < 3 := by omega
    rw [decide_eq_false h3]
    clear h3
    go_enter Tryz.func39, Tryz.ntmps39
    go_wp2_with fail
    go_ret
    exact ⟨rfl, Below.refl _ _⟩
theorem ref_letter (c : UInt8) (b : Bool) (hb : letC c = b) (w : World) :
    Calls Tryz.prog 63 #[.int .u8 (c.toNat : Int)] w fun e w' => e = .returned (.bool b) ∧ w = w' := by
  rw [← hb]
  clear hb
  go_enter Tryz.func63, Tryz.ntmps63
  go_wp2
  all_goals
    go_ret
    refine ⟨?_, rfl⟩
    refine congrArg Ending.returned (congrArg Value.bool ?_)
    unfold letC
    rw [Bool.eq_iff_iff]
    first | (simp; done) | (simp; omega)
theorem ref_other (c : UInt8) (b : Bool) (hb : othC c = b) (w : World) :
    Calls Tryz.prog 64 #[.int .u8 (c.toNat : Int)] w fun e w' => e = .returned (.bool b) ∧ w = w' := by
  rw [← hb]
  clear hb
  go_enter Tryz.func64, Tryz.ntmps64
  go_wp2
  all_goals
    go_ret
    refine ⟨?_, rfl⟩
    refine congrArg Ending.returned (congrArg Value.bool ?_)
    unfold othC
    rw [Bool.eq_iff_iff]
    first | (simp; done) | (simp; omega)
theorem take_snoc (s : ByteArray) (k : Nat) (h : k < s.size) : s.data.toList.take (k + 1) = s.data.toList.take k ++ [s[k]] := by
  rw [List.take_succ_eq_append_getElem (by simpa using h)]; rfl
theorem all_bad {s : ByteArray} (k : Nat) (h : k < s.size) (hb : inB s[k] = false) : s.data.toList.all inB = false := by
  rw [Bool.eq_false_iff]
  intro ha
  have := List.all_eq_true.1 ha _ (Array.mem_toList_iff.2 (Array.getElem_mem (xs := s.data) h))
  rw [show s.data[k] = s[k] from rfl, hb] at this
  cases this
def NamePost (s : ByteArray) (w : World) (e : Ending) (w' : World) : Prop := ∃ b : Bool, e = .returned (.tuple #[.bool (nameOk s.data.toList), .bool b]) ∧ (s.data.toList.all inB = true → b = s.data.toList.all letC) ∧ w = w'
theorem namePost {s : ByteArray} {w : World} {x y : Value} {a b : Bool} (hx : x = .bool a) (hy : y = .bool b) (ha : a = nameOk s.data.toList) (hb : s.data.toList.all inB = true → b = s.data.toList.all letC) : NamePost s w (.returned (.tuple #[x, y])) w :=
  ⟨b, by rw [hx, hy, ha], hb, rfl⟩
set_option maxHeartbeats 4000000 in
theorem ref_name (s : ByteArray) (hs : s.size ≤ 1000000) (w : World) :
    Calls Tryz.prog 42 #[.string s] w (NamePost s w) := by
  have hn : nameOk s.data.toList = (decide (3 ≤ s.size) && decide (s.size ≤ 7) && s.data.toList.all inB) := by unfold nameOk; rw [len_list]
  have HN := Lib.hid hn
  clear hn
  go_enter Tryz.func42, Tryz.ntmps42
  go_wp2_with fail
  go_loop [4, 5] (fun l i => ∃ k : Nat, k ≤ s.size ∧ i = .int .i64 k ∧ (s.data.toList.take k).all inB = true ∧ l = .bool ((s.data.toList.take k).all letC)) (fun _ i => s.size - (intOf i).toNat)
  case atStart => exact ⟨0, Nat.zero_le _, rfl, rfl, rfl⟩
  case round =>
    obtain ⟨k, hk, rfl, hin, rfl⟩ := hrel
    have HIN := Lib.hid hin
    clear hin
    obtain ⟨bl, hbl⟩ : ∃ bl, (s.data.toList.take k).all letC = bl := ⟨_, rfl⟩
    rw [hbl]
    have HBL := Lib.hid hbl
    clear hbl
    by_cases hlt : k < s.size
    · have hki : (k : Int) < (s.size : Int) := by omega
      obtain ⟨c, hc⟩ : ∃ c, s[k] = c := ⟨_, rfl⟩
      obtain ⟨b1, hb1⟩ : ∃ b, letC c = b := ⟨_, rfl⟩
      obtain ⟨b2, hb2⟩ : ∃ b, othC c = b := ⟨_, rfl⟩
      have C1 := Lib.hid (ref_letter s[k] b1 (by rw [hc, hb1]))
      have C2 := Lib.hid (ref_other s[k] b2 (by rw [hc, hb2]))
      have hsn := take_snoc s k hlt
      have HS1 := Lib.hid (show (s.data.toList.take (k + 1)).all inB = (b1 || b2) by rw [hsn, List.all_append, HIN.out, hc]; simp [inB, hb1, hb2])
      have HS2 := Lib.hid (show (s.data.toList.take (k + 1)).all letC = (bl && b1) by rw [hsn, List.all_append, HBL.out, hc]; simp [hb1])
      have HB := Lib.hid (fun h : (b1 || b2) = false => all_bad k hlt (show inB s[k] = false by rw [hc]; unfold inB; rw [hb1, hb2]; exact h))
      clear hc hb1 hb2 hsn
      cases b1
      · cases b2
        · go_wp2_with fail
          refine (C1.out _).mono ?_
          rintro e w' ⟨rfl, rfl⟩
          go_wp2_with fail
          refine (C2.out _).mono ?_
          rintro e w' ⟨rfl, rfl⟩
          go_wp2_with fail
          go_ret2
          exact namePost rfl rfl (by rw [HN.out, HB.out rfl, Bool.and_false]) (fun h => by rw [HB.out rfl] at h; cases h)
        · cases bl
          all_goals
            go_wp2_with fail
            refine (C1.out _).mono ?_
            rintro e w' ⟨rfl, rfl⟩
            go_wp2_with fail
            refine (C2.out _).mono ?_
            rintro e w' ⟨rfl, rfl⟩
            go_wp2_with (refine (C1.out _).mono ?_; rintro e w' ⟨rfl, rfl⟩)
            go_round
            case rel => exact ⟨k + 1, by omega, by go_num, HS1.out, by rw [HS2.out]; rfl⟩
            case measure => simp [intOf]; omega
      · cases bl
        all_goals
          go_wp2_with fail
          refine (C1.out _).mono ?_
          rintro e w' ⟨rfl, rfl⟩
          go_wp2_with (refine (C1.out _).mono ?_; rintro e w' ⟨rfl, rfl⟩)
          go_round
          case rel => exact ⟨k + 1, by omega, by go_num, by rw [HS1.out]; rfl, by rw [HS2.out]; rfl⟩
          case measure => simp [intOf]; omega
    · have hks : k = s.size := by omega
      subst hks
      have hall := Lib.hid (show s.data.toList.all inB = true by have := HIN.out; rwa [List.take_of_length_le (by rw [len_list]; omega)] at this)
      have hlet := Lib.hid (show s.data.toList.all letC = bl by have := HBL.out; rwa [List.take_of_length_le (by rw [len_list]; omega)] at this)
      by_cases h3 : 3 ≤ s.size
      · by_cases h7 : s.size ≤ 7
        · have i3 : (3 : Int) ≤ (s.size : Int) := by omega
          have i7 : (s.size : Int) ≤ 7 := by omega
          go_wp2_with fail
          go_ret2
          exact namePost rfl rfl (by rw [HN.out, decide_eq_true h3, decide_eq_true h7, hall.out]; rfl) (fun _ => hlet.out.symm)
        · have i3 : (3 : Int) ≤ (s.size : Int) := by omega
          have i7 : (7 : Int) < (s.size : Int) := by omega
          go_wp2_with fail
          go_ret2
          exact namePost rfl rfl (by rw [HN.out, decide_eq_true h3, decide_eq_false h7]; simp; omega) (fun _ => hlet.out.symm)
      · have i3 : (s.size : Int) < 3 := by omega
        go_wp2_with fail
        go_ret2
        exact namePost rfl rfl (by rw [HN.out, decide_eq_false h3]; rfl) (fun _ => hlet.out.symm)
end Go.Proofs.YtgllbagmmpicaaaGreatDoor.Px
