/- Names of POSIX TZ strings: posix.name and analemmaref37.name. The functions posix.Check and analemmaref37.Check: which TZs are right. The function analemmaref37.Check: which TZs are right. POSIX TZ strings, the plain laws: local times. The instants at which daylight saving time and standard time begin, the last of them that is not behind an instant; which years have to be looked at. No program in sight. The function analemmaref37.At: the local time of a TZ at an instant. -/
import Derived.Test.YtkpmmabdpeobaaaGreatDoorSU3
import Derived.Test.YtkpmmabdpeobaaaGreatDoorSShelf
import Derived.Shelf.Strings.SlTrimAscii
import Derived.Deep.LoopGhost
import Derived.Deep.DeepCutAuto
import Derived.OneCell
namespace Go.Proofs.YtkpmmabdpeobaaaGreatDoor.Px
open Go.RowKit
open Civ
def abc64 : ByteArray := ⟨#[65, 66, 67, 68, 69, 70, 71, 72, 73, 74, 75, 76, 77, 78, 79, 80, 81, 82, 83, 84, 85, 86, 87, 88, 89, 90, 97, 98, 99, 100, 101, 102, 103, 104, 105, 106, 107, 108, 109, 110, 111, 112, 113, 114, 115, 116, 117, 118, 119, 120, 121, 122, 48, 49, 50, 51, 52, 53, 54, 55, 56, 57, 43, 45]⟩
def letC (c : UInt8) : Bool := (decide (65 ≤ c.toNat) && decide (c.toNat ≤ 90)) || (decide (97 ≤ c.toNat) && decide (c.toNat ≤ 122))
def othC (c : UInt8) : Bool := (decide (48 ≤ c.toNat) && decide (c.toNat ≤ 57)) || decide (c.toNat = 43) || decide (c.toNat = 45)
def inB (c : UInt8) : Bool := letC c || othC c
theorem every_byte (p : UInt8 → Bool) (h : (List.range 256).all (fun n => p (UInt8.ofNat n)) = true) (c : UInt8) : p c = true := by
 have := List.all_eq_true.1 h c.toNat (List.mem_range.2 c.toNat_lt)
 rwa [UInt8.ofNat_toNat] at this
theorem contains_in (c : UInt8) : abc64.data.toList.contains c = inB c :=
 eq_of_beq (every_byte (fun c => abc64.data.toList.contains c == inB c) (by kernel_rfl) c)
theorem index_in (c : UInt8) (h : inB c = true) : c.toNat < 128 ∧ decide (0 ≤ Lib.indexByte abc64.data.toList c) = true := by
 have := every_byte (fun c => !(inB c) || (decide (c.toNat < 128) && decide (0 ≤ Lib.indexByte abc64.data.toList c))) (by kernel_rfl) c
 rw [h] at this
 simpa using this
def nameOk (l : List UInt8) : Bool := decide (3 ≤ l.length) && decide (l.length ≤ 7) && l.all inB
theorem dropWhile_nil {p : UInt8 → Bool} : ∀ l : List UInt8, l.dropWhile p = [] ↔ l.all p = true
 | [] => by simp
 | a :: r => by
   cases h : p a
   · simp [h]
   · rw [List.dropWhile_cons_of_pos h, dropWhile_nil r, List.all_cons, h, Bool.true_and]
theorem takeWhile_all {p : UInt8 → Bool} : ∀ l : List UInt8, ∀ x ∈ l.takeWhile p, p x = true
 | [], x, h => by simp at h
 | a :: r, x, h => by
   cases ha : p a
   · simp [ha] at h
   · rw [List.takeWhile_cons_of_pos ha] at h
     rcases List.mem_cons.1 h with rfl | h
     · exact ha
     · exact takeWhile_all r x h
theorem trim_nil (l cs : List UInt8) : Lib.trimS l cs = [] ↔ l.all (cs.contains ·) = true := by
 unfold Lib.trimS Lib.trimLeftS Lib.trimRightS
 rw [dropWhile_nil, List.all_eq_true, List.all_eq_true]
 constructor
 · intro h x hx
   have e := List.takeWhile_append_dropWhile (p := (cs.contains ·)) (l := l.reverse)
   have hx' : x ∈ l.reverse := List.mem_reverse.2 hx
   rw [← e] at hx'
   rcases List.mem_append.1 hx' with h1 | h1
   · exact takeWhile_all _ x h1
   · exact h x (List.mem_reverse.2 h1)
 · intro h x hx
   exact h x (List.mem_reverse.1 ((List.dropWhile_sublist _).mem (List.mem_reverse.1 hx)))
theorem odd_in (c : UInt8) (h : inB c = true) (w : World) :
 Calls Tryz.prog 148 #[.int .i32 (c.toNat : Int)] w fun e w' => e = .returned (.bool false) ∧ w' = w := by
 obtain ⟨h1, h2⟩ := index_in c h
 have C := Tryz.strings_ContainsRune_ascii abc64 (c.toNat : Int) w (by omega) (by omega)
 rw [Int.toNat_natCast, show c.toNat.toUInt8 = c from UInt8.ofNat_toNat, h2] at C
 have HC := Lib.hid C
 clear C h1 h2 h
 go_enter Tryz.func148, Tryz.ntmps148
 go_wp2_with fail
 refine HC.out.mono ?_
 rintro e w' ⟨rfl, rfl⟩
 go_wp2_with fail
 go_ret
 exact ⟨rfl, rfl⟩
theorem enters_odd : ∀ args w, (callFunc 148 args).run Tryz.prog w = .ok (.enter 148 args) w := enters_of Tryz.func148 (by kernel_rfl) rfl
set_option maxHeartbeats 2000000 in
set_option maxRecDepth 1000000 in
theorem index_odd (s : ByteArray) (hs : s.data.toList.all inB = true) (w : World) :
 Calls Tryz.prog 211 #[.string s, .func (.func 148) #[] #[], .bool true] w fun e w' => e = .returned (.int .i64 (-1)) ∧ Below w.heap.size w w' := by
 have HS := Lib.hid hs
 have hef := enters_odd
 clear hs
 go_enter Tryz.func211, Tryz.ntmps211
 go_wp2
 go_loopg [] s.size (fun gf wx => ∃ pos : Nat, wx.heap[w.heap.size]? = some (.stringIter s pos) ∧ Below w.heap.size w wx ∧ s.size ≤ pos + gf)
 case atStart => exact ⟨0, World.iter_heap w s 0, (Below.refl _ w).alloc (Nat.le_refl _) _, by omega⟩
 case round =>
  obtain ⟨pos, hit, hbw, hfu⟩ := hrel
  by_cases hps : pos < s.size
  · obtain ⟨g', rfl⟩ : ∃ g', gk = g' + 1 := ⟨gk - 1, by omega⟩
    have hin : inB s[pos] = true := List.all_eq_true.1 HS.out _ (Array.mem_toList_iff.2 (Array.getElem_mem (xs := s.data) hps))
    have hnx : ∀ ty, (Instr.next (.pointer (some ⟨w.heap.size, 0, none⟩)) true ty).run Tryz.prog wr = _ := fun ty => Lib.run_next_any_at wr w.heap.size s pos ty hit hps
    rw [decode_ascii s pos hps (index_in _ hin).1] at hnx
    have hit2 := Lib.iterAt_heap wr w.heap.size s pos (pos + 1) hit
    have hbw2 := Lib.below_iterAt hbw (k := w.heap.size) (Nat.le_refl _) s (pos + 1)
    obtain ⟨W, hWd⟩ : ∃ W, wr.iterAt w.heap.size s (pos + 1) = W := ⟨_, rfl⟩
    rw [hWd] at hnx hit2 hbw2
    have cS := Lib.hid (odd_in s[pos] hin W)
    have HI := Lib.hid hit2
    have HB := Lib.hid hbw2
    clear hin hit hit2 hbw hbw2 hWd
    go_wp2_with (go_at_fn 148; refine cS.out.mono ?_; rintro e W' ⟨rfl, rfl⟩)
    go_roundg g'
    case measure => omega
    case rel => exact ⟨pos + 1, HI.out, HB.out, by omega⟩
  · have hnx : ∀ ty, (Instr.next (.pointer (some ⟨w.heap.size, 0, none⟩)) true ty).run Tryz.prog wr = _ := fun ty => Lib.run_next_end_at wr w.heap.size s pos ty hit hps
    have HB := Lib.hid hbw
    clear hit hbw
    go_wp2
    go_ret
    exact ⟨rfl, HB.out⟩
theorem contains_odd (s : ByteArray) (hs : s.data.toList.all inB = true) (w : World) :
 Calls Tryz.prog 147 #[.string s, .func (.func 148) #[] #[]] w fun e w' => e = .returned (.bool false) ∧ Below w.heap.size w w' := by
 have C := Lib.hid (index_odd s hs)
 clear hs
 go_enter Tryz.func147, Tryz.ntmps147
 go_wp2_with (first | (go_at_call 211; refine (C.out _).mono ?_; rintro e w' ⟨rfl, hb⟩) | go_in)
 go_ret
 exact ⟨rfl, hb⟩
theorem len_list (s : ByteArray) : s.data.toList.length = s.size := Array.length_toList
set_option maxHeartbeats 2000000 in
theorem name_any (s : ByteArray) (hs : s.size ≤ 1000000) (w : World) :
 Calls Tryz.prog 101 #[.string s] w fun e w' => e = .returned (.bool (nameOk s.data.toList)) ∧ Below w.heap.size w w' := by
 have hn : nameOk s.data.toList = (decide (3 ≤ s.size) && decide (s.size ≤ 7) && s.data.toList.all inB) := by unfold nameOk; rw [len_list]
 rw [hn]
 clear hn
 by_cases h3 : 3 ≤ s.size
 · have i3 : (3 : Int) ≤ (s.size : Int) := by omega
   by_cases h7 : s.size ≤ 7
   · have i7 : (s.size : Int) ≤ 7 := by omega
     have CT := Lib.hid (fun w => Any.strings_Trim_laid Tryz.lays160 (by kernel_rfl) s abc64 w (by omega) (by decide) (ascii_of_all (by decide)))
     have hT := trim_nil s.data.toList abc64.data.toList
     rw [show (fun x => abc64.data.toList.contains x) = inB from funext contains_in] at hT
     rw [decide_eq_true h3, decide_eq_true h7]
     by_cases ha : s.data.toList.all inB = true
     · have CO := Lib.hid (contains_odd s ha)
       rw [hT.2 ha] at CT
       rw [ha]
       clear hT ha h3 h7
       go_enter Tryz.func101, Tryz.ntmps101
       go_wp2_with fail
       refine (CT.out _).mono ?_
       rintro e V ⟨rfl, hb⟩
       have HV := Lib.hid hb
       clear hb
       go_wp2_with fail
       refine (CO.out _).mono ?_
       rintro e V2 ⟨rfl, hb⟩
       have HV2 := Lib.hid (HV.out.trans (hb.mono HV.out.size))
       clear hb
       go_wp2_with fail
       go_ret
       exact ⟨rfl, HV2.out⟩
     · obtain ⟨t, ht⟩ : ∃ t, (⟨(Lib.trimS s.data.toList abc64.data.toList).toArray⟩ : ByteArray) = t := ⟨_, rfl⟩
       have hne : t.data.toList ≠ [] := by rw [← ht]; intro h; exact ha (hT.1 (by simpa using h))
       have he2 : t.toList.isEmpty = false := by rw [ByteArray.toList_eq]; simpa using hne
       rw [ht] at CT
       rw [show s.data.toList.all inB = false by simpa using ha]
       clear hT ha h3 h7 hne ht
       go_enter Tryz.func101, Tryz.ntmps101
       go_wp2_with fail
       refine (CT.out _).mono ?_
       rintro e V ⟨rfl, hb⟩
       have HV := Lib.hid hb
       clear hb
       go_wp2_with fail
       go_ret
       exact ⟨rfl, HV.out⟩
   · have i7 : (7 : Int) < (s.size : Int) := by omega
     rw [decide_eq_true h3, decide_eq_false h7]
     clear h3 h7
     go_enter Tryz.func101, Tryz.ntmps101
     go_wp2_with fail
     go_ret
     exact ⟨rfl, Below.refl _ _⟩
 · have i3 : (s.size : Int) < 3 := by omega
   rw [decide_eq_false h3]
   clear h3
   go_enter Tryz.func101, Tryz.ntmps101
   go_wp2_with fail
   go_ret
   exact ⟨rfl, Below.refl _ _⟩
theorem ref_letter (c : UInt8) (b : Bool) (hb : letC c = b) (w : World) :
 Calls Tryz.prog 116 #[.int .u8 (c.toNat : Int)] w fun e w' => e = .returned (.bool b) ∧ w = w' := by
 rw [← hb]
 clear hb
 go_enter Tryz.func116, Tryz.ntmps116
 go_wp2
 all_goals
  go_ret
  refine ⟨?_, rfl⟩
  refine congrArg Ending.returned (congrArg Value.bool ?_)
  unfold letC
  rw [Bool.eq_iff_iff]
  first | (simp; done) | (simp; omega)
theorem ref_other (c : UInt8) (b : Bool) (hb : othC c = b) (w : World) :
 Calls Tryz.prog 117 #[.int .u8 (c.toNat : Int)] w fun e w' => e = .returned (.bool b) ∧ w = w' := by
 rw [← hb]
 clear hb
 go_enter Tryz.func117, Tryz.ntmps117
 go_wp2
 all_goals
  go_ret
  refine ⟨?_, rfl⟩
  refine congrArg Ending.returned (congrArg Value.bool ?_)
  unfold othC
  rw [Bool.eq_iff_iff]
  first | (simp; done) | (simp; omega)
theorem take_snoc (s : ByteArray) (k : Nat) (h : k < s.size) : s.data.toList.take (k + 1) = s.data.toList.take k ++ [s[k]] := by
 rw [List.take_succ_eq_append_getElem (by simpa using h)]; rfl
theorem all_bad {s : ByteArray} (k : Nat) (h : k < s.size) (hb : inB s[k] = false) : s.data.toList.all inB = false := by
 rw [Bool.eq_false_iff]
 intro ha
 have := List.all_eq_true.1 ha _ (Array.mem_toList_iff.2 (Array.getElem_mem (xs := s.data) h))
 rw [show s.data[k] = s[k] from rfl, hb] at this
 cases this
def NamePost (s : ByteArray) (w : World) (e : Ending) (w' : World) : Prop := ∃ b : Bool, e = .returned (.tuple #[.bool (nameOk s.data.toList), .bool b]) ∧ (s.data.toList.all inB = true → b = s.data.toList.all letC) ∧ w = w'
theorem namePost {s : ByteArray} {w : World} {x y : Value} {a b : Bool} (hx : x = .bool a) (hy : y = .bool b) (ha : a = nameOk s.data.toList) (hb : s.data.toList.all inB = true → b = s.data.toList.all letC) : NamePost s w (.returned (.tuple #[x, y])) w :=
 ⟨b, by rw [hx, hy, ha], hb, rfl⟩
set_option maxHeartbeats 4000000 in
theorem ref_name (s : ByteArray) (hs : s.size ≤ 1000000) (w : World) :
 Calls Tryz.prog 119 #[.string s] w (NamePost s w) := by
 have hn : nameOk s.data.toList = (decide (3 ≤ s.size) && decide (s.size ≤ 7) && s.data.toList.all inB) := by unfold nameOk; rw [len_list]
 have HN := Lib.hid hn
 clear hn
 go_enter Tryz.func119, Tryz.ntmps119
 go_wp2_with fail
 go_loop [4, 5] (fun l i => ∃ k : Nat, k ≤ s.size ∧ i = .int .i64 k ∧ (s.data.toList.take k).all inB = true ∧ l = .bool ((s.data.toList.take k).all letC)) (fun _ i => s.size - (intOf i).toNat)
 case atStart => exact ⟨0, Nat.zero_le _, rfl, rfl, rfl⟩
 case round =>
  obtain ⟨k, hk, rfl, hin, rfl⟩ := hrel
  have HIN := Lib.hid hin
  clear hin
  obtain ⟨bl, hbl⟩ : ∃ bl, (s.data.toList.take k).all letC = bl := ⟨_, rfl⟩
  rw [hbl]
  have HBL := Lib.hid hbl
  clear hbl
  by_cases hlt : k < s.size
  · have hki : (k : Int) < (s.size : Int) := by omega
    obtain ⟨c, hc⟩ : ∃ c, s[k] = c := ⟨_, rfl⟩
    obtain ⟨b1, hb1⟩ : ∃ b, letC c = b := ⟨_, rfl⟩
    obtain ⟨b2, hb2⟩ : ∃ b, othC c = b := ⟨_, rfl⟩
    have C1 := Lib.hid (ref_letter s[k] b1 (by rw [hc, hb1]))
    have C2 := Lib.hid (ref_other s[k] b2 (by rw [hc, hb2]))
    have hsn := take_snoc s k hlt
    have HS1 := Lib.hid (show (s.data.toList.take (k + 1)).all inB = (b1 || b2) by rw [hsn, List.all_append, HIN.out, hc]; simp [inB, hb1, hb2])
    have HS2 := Lib.hid (show (s.data.toList.take (k + 1)).all letC = (bl && b1) by rw [hsn, List.all_append, HBL.out, hc]; simp [hb1])
    have HB := Lib.hid (fun h : (b1 || b2) = false => all_bad k hlt (show inB s[k] = false by rw [hc]; unfold inB; rw [hb1, hb2]; exact h))
    clear hc hb1 hb2 hsn
    cases b1
    · cases b2
      · go_wp2_with fail
        refine (C1.out _).mono ?_
        rintro e w' ⟨rfl, rfl⟩
        go_wp2_with fail
        refine (C2.out _).mono ?_
        rintro e w' ⟨rfl, rfl⟩
        go_wp2_with fail
        go_ret2
        exact namePost rfl rfl (by rw [HN.out, HB.out rfl, Bool.and_false]) (fun h => by rw [HB.out rfl] at h; cases h)
      · cases bl
        all_goals
         go_wp2_with fail
         refine (C1.out _).mono ?_
         rintro e w' ⟨rfl, rfl⟩
         go_wp2_with fail
         refine (C2.out _).mono ?_
         rintro e w' ⟨rfl, rfl⟩
         go_wp2_with (refine (C1.out _).mono ?_; rintro e w' ⟨rfl, rfl⟩)
         go_round
         case rel => exact ⟨k + 1, by omega, by go_num, HS1.out, by rw [HS2.out]; rfl⟩
         case measure => simp [intOf]; omega
    · cases bl
      all_goals
       go_wp2_with fail
       refine (C1.out _).mono ?_
       rintro e w' ⟨rfl, rfl⟩
       go_wp2_with (refine (C1.out _).mono ?_; rintro e w' ⟨rfl, rfl⟩)
       go_round
       case rel => exact ⟨k + 1, by omega, by go_num, by rw [HS1.out]; rfl, by rw [HS2.out]; rfl⟩
       case measure => simp [intOf]; omega
  · have hks : k = s.size := by omega
    subst hks
    have hall := Lib.hid (show s.data.toList.all inB = true by have := HIN.out; rwa [List.take_of_length_le (by rw [len_list]; omega)] at this)
    have hlet := Lib.hid (show s.data.toList.all letC = bl by have := HBL.out; rwa [List.take_of_length_le (by rw [len_list]; omega)] at this)
    by_cases h3 : 3 ≤ s.size
    · by_cases h7 : s.size ≤ 7
      · have i3 : (3 : Int) ≤ (s.size : Int) := by omega
        have i7 : (s.size : Int) ≤ 7 := by omega
        go_wp2_with fail
        go_ret2
        exact namePost rfl rfl (by rw [HN.out, decide_eq_true h3, decide_eq_true h7, hall.out]; rfl) (fun _ => hlet.out.symm)
      · have i3 : (3 : Int) ≤ (s.size : Int) := by omega
        have i7 : (7 : Int) < (s.size : Int) := by omega
        go_wp2_with fail
        go_ret2
        exact namePost rfl rfl (by rw [HN.out, decide_eq_true h3, decide_eq_false h7]; simp; omega) (fun _ => hlet.out.symm)
    · have i3 : (s.size : Int) < 3 := by omega
      go_wp2_with fail
      go_ret2
      exact namePost rfl rfl (by rw [HN.out, decide_eq_false h3]; rfl) (fun _ => hlet.out.symm)
end Go.Proofs.YtkpmmabdpeobaaaGreatDoor.Px
namespace Go.Proofs.YtkpmmabdpeobaaaGreatDoor.Px
open Go.RowKit
open Civ
structure Pos where
 std : ByteArray
 stdOff : Int
 dst : ByteArray
 dstOff : Int
 start : Dt
 stop : Dt
 deriving DecidableEq
def Pos.val (p : Pos) : Value := .agg #[.string p.std, .int .i64 p.stdOff, .string p.dst, .int .i64 p.dstOff, .int .i64 p.start.kind, .int .i64 p.start.day, .int .i64 p.start.month, .int .i64 p.start.week, .int .i64 p.start.sec,
 .int .i64 p.stop.kind, .int .i64 p.stop.day, .int .i64 p.stop.month, .int .i64 p.stop.week, .int .i64 p.stop.sec]
def Dt.zero : Dt := ⟨0, 0, 0, 0, 0⟩
def offB (x : Int) : Bool := decide (-89999 ≤ x ∧ x ≤ 89999)
def Pos.stdB (p : Pos) : Bool := nameOk p.std.data.toList && offB p.stdOff
def noneQ (c : ByteArray) (d k1 d1 m1 w1 s1 k2 d2 m2 w2 s2 : Int) : Bool := c.toList.isEmpty && decide (d = 0) && decide (k1 = 0) && decide (d1 = 0) && decide (m1 = 0) && decide (w1 = 0) && decide (s1 = 0) && decide (k2 = 0) && decide (d2 = 0) && decide (m2 = 0) && decide (w2 = 0) && decide (s2 = 0)
def Pos.noneB (p : Pos) : Bool := noneQ p.dst p.dstOff p.start.kind p.start.day p.start.month p.start.week p.start.sec p.stop.kind p.stop.day p.stop.month p.stop.week p.stop.sec
def Pos.dstB (p : Pos) : Bool := nameOk p.dst.data.toList && offB p.dstOff && p.start.ok && p.stop.ok
def Pos.ok (p : Pos) : Bool := p.stdB && (p.noneB || p.dstB)
def codeE (r : Bool) : Int := if r then 0 else 2
def RowAt (W : World) (b : Nat) (cs : Array Value) : Prop := b < W.heap.size ∧ ∀ i, W.cell? ⟨b, i, none⟩ = cs[i]?
theorem RowAt.keep {W W' : World} {b : Nat} {cs : Array Value} (h : RowAt W b cs) (hB : Below W.heap.size W W') : RowAt W' b cs :=
 ⟨Nat.lt_of_lt_of_le h.1 hB.size, fun i => (hB.cell (p := ⟨b, i, none⟩) h.1).trans (h.2 i)⟩
theorem rowAt_alloc (w : World) (cs : Array Value) (T : Nat) : RowAt (w.alloc (.cells cs T)) w.heap.size cs := ⟨by simp, fun _ => World.cell?_alloc_at _ _ _ _ rfl⟩
theorem RowAt.pos {V : World} {B : Nat} {a c : ByteArray} {b d k1 d1 m1 w1 s1 k2 d2 m2 w2 s2 : Int} (h : RowAt V B #[.string a, .int .i64 b, .string c, .int .i64 d, .int .i64 k1, .int .i64 d1, .int .i64 m1, .int .i64 w1, .int .i64 s1, .int .i64 k2, .int .i64 d2, .int .i64 m2, .int .i64 w2, .int .i64 s2]) :
 V.cell? ⟨B, 0, none⟩ = some (.string a) ∧ V.cell? ⟨B, 1, none⟩ = some (.int .i64 b) ∧ V.cell? ⟨B, 2, none⟩ = some (.string c) ∧ V.cell? ⟨B, 3, none⟩ = some (.int .i64 d) ∧ V.cell? ⟨B, 4, none⟩ = some (.int .i64 k1) ∧ V.cell? ⟨B, 5, none⟩ = some (.int .i64 d1) ∧ V.cell? ⟨B, 6, none⟩ = some (.int .i64 m1) ∧ V.cell? ⟨B, 7, none⟩ = some (.int .i64 w1) ∧ V.cell? ⟨B, 8, none⟩ = some (.int .i64 s1) ∧ V.cell? ⟨B, 9, none⟩ = some (.int .i64 k2) ∧ V.cell? ⟨B, 10, none⟩ = some (.int .i64 d2) ∧ V.cell? ⟨B, 11, none⟩ = some (.int .i64 m2) ∧ V.cell? ⟨B, 12, none⟩ = some (.int .i64 w2) ∧ V.cell? ⟨B, 13, none⟩ = some (.int .i64 s2) :=
 ⟨h.2 0, h.2 1, h.2 2, h.2 3, h.2 4, h.2 5, h.2 6, h.2 7, h.2 8, h.2 9, h.2 10, h.2 11, h.2 12, h.2 13⟩
set_option maxHeartbeats 4000000 in
set_option maxRecDepth 100000 in
theorem check_cells (a c : ByteArray) (b d k1 d1 m1 w1 s1 k2 d2 m2 w2 s2 : Int) (ha : a.size ≤ 1000000) (hc : c.size ≤ 1000000) (r : Bool)
 (hr : (nameOk a.data.toList && offB b && (noneQ c d k1 d1 m1 w1 s1 k2 d2 m2 w2 s2 || (nameOk c.data.toList && offB d && Dt.ok ⟨k1, d1, m1, w1, s1⟩ && Dt.ok ⟨k2, d2, m2, w2, s2⟩))) = r) (w : World) :
 Calls Tryz.prog 54 #[.agg #[.string a, .int .i64 b, .string c, .int .i64 d, .int .i64 k1, .int .i64 d1, .int .i64 m1, .int .i64 w1, .int .i64 s1, .int .i64 k2, .int .i64 d2, .int .i64 m2, .int .i64 w2, .int .i64 s2]] w fun e w' => e = .returned (.int .i64 (codeE r)) ∧ Below w.heap.size w w' := by
 have CN := Lib.hid (name_any a ha)
 have CM := Lib.hid (name_any c hc)
 have CO := Lib.hid (in64 b (-89999) 89999 (offB b) rfl)
 have CP := Lib.hid (in64 d (-89999) 89999 (offB d) rfl)
 have CD := Lib.hid (date_any ⟨k1, d1, m1, w1, s1⟩)
 have CE := Lib.hid (date_any ⟨k2, d2, m2, w2, s2⟩)
 have HNQ := Lib.hid (show noneQ c d k1 d1 m1 w1 s1 k2 d2 m2 w2 s2 = (c.toList.isEmpty && decide (d = 0) && decide (k1 = 0) && decide (d1 = 0) && decide (m1 = 0) && decide (w1 = 0) && decide (s1 = 0) && decide (k2 = 0) && decide (d2 = 0) && decide (m2 = 0) && decide (w2 = 0) && decide (s2 = 0)) from rfl)
 obtain ⟨b1, h1⟩ : ∃ x, nameOk a.data.toList = x := ⟨_, rfl⟩
 obtain ⟨b2, h2⟩ : ∃ x, offB b = x := ⟨_, rfl⟩
 obtain ⟨b3, h3⟩ : ∃ x, noneQ c d k1 d1 m1 w1 s1 k2 d2 m2 w2 s2 = x := ⟨_, rfl⟩
 obtain ⟨b4, h4⟩ : ∃ x, nameOk c.data.toList = x := ⟨_, rfl⟩
 obtain ⟨b5, h5⟩ : ∃ x, offB d = x := ⟨_, rfl⟩
 obtain ⟨b6, h6⟩ : ∃ x, Dt.ok ⟨k1, d1, m1, w1, s1⟩ = x := ⟨_, rfl⟩
 obtain ⟨b7, h7⟩ : ∃ x, Dt.ok ⟨k2, d2, m2, w2, s2⟩ = x := ⟨_, rfl⟩
 rw [h1] at CN hr
 rw [h2] at CO hr
 rw [h3] at HNQ hr
 rw [h4] at CM hr
 rw [h5] at CP hr
 rw [h6] at CD hr
 rw [h7] at CE hr
 subst hr
 clear h1 h2 h3 h4 h5 h6 h7
 go_enter Tryz.func54, Tryz.ntmps54
 go_upto_region 1 with fail
 have HA := Lib.hid ((Below.refl _ w).alloc (Nat.le_refl _) (.cells #[.string a, .int .i64 b, .string c, .int .i64 d, .int .i64 k1, .int .i64 d1, .int .i64 m1, .int .i64 w1, .int .i64 s1, .int .i64 k2, .int .i64 d2, .int .i64 m2, .int .i64 w2, .int .i64 s2] 50))
 have HR := Lib.hid (rowAt_alloc w #[.string a, .int .i64 b, .string c, .int .i64 d, .int .i64 k1, .int .i64 d1, .int .i64 m1, .int .i64 w1, .int .i64 s1, .int .i64 k2, .int .i64 d2, .int .i64 m2, .int .i64 w2, .int .i64 s2] 50)
 go_cut [3] (fun s wx => s = .bool (b1 && b2) ∧ Below w.heap.size w wx ∧ RowAt wx w.heap.size #[.string a, .int .i64 b, .string c, .int .i64 d, .int .i64 k1, .int .i64 d1, .int .i64 m1, .int .i64 w1, .int .i64 s1, .int .i64 k2, .int .i64 d2, .int .i64 m2, .int .i64 w2, .int .i64 s2])
 case first =>
  go_wp2_with fail
  refine (CN.out _).mono ?_
  rintro e V ⟨rfl, hb⟩
  obtain ⟨c0, c1, c2, c3, c4, c5, c6, c7, c8, c9, c10, c11, c12, c13⟩ := (HR.out.keep hb).pos
  have HV := Lib.hid hb
  clear hb
  cases b1
  · go_wp2_with fail
    go_meet
    exact ⟨rfl, HA.out.trans (HV.out.mono HA.out.size), HR.out.keep HV.out⟩
  · go_wp2_with fail
    refine (CO.out _).mono ?_
    rintro e w' ⟨rfl, rfl⟩
    go_wp2_with fail
    go_meet
    exact ⟨rfl, HA.out.trans (HV.out.mono HA.out.size), HR.out.keep HV.out⟩
 case rest =>
  obtain ⟨rfl, hb1, hr1⟩ := hcut
  obtain ⟨c0, c1, c2, c3, c4, c5, c6, c7, c8, c9, c10, c11, c12, c13⟩ := hr1.pos
  have HB1 := Lib.hid hb1
  have HR1 := Lib.hid hr1
  clear hb1 hr1
  go_upto_region 2 with fail
  obtain ⟨W1, rfl⟩ : ∃ W1, W1 = wc := ⟨_, rfl⟩
  go_cut [0, 4] (fun _ s wx => s = .bool b3 ∧ wx = W1)
  case first =>
   go_wp2_with fail
   all_goals (go_meet; refine ⟨congrArg Value.bool ?_, rfl⟩; rw [HNQ.out]; simp [*])
  case rest =>
   obtain ⟨rfl, rfl⟩ := hcut
   clear HNQ
   obtain ⟨W2, rfl⟩ : ∃ W2, W2 = wc := ⟨_, rfl⟩
   go_upto_region 3 with fail
   go_cut [5] (fun s wx => s = .bool (b4 && b5 && b6 && b7) ∧ Below W2.heap.size W2 wx)
   case first =>
    go_wp2_with fail
    refine (CM.out _).mono ?_
    rintro e V ⟨rfl, hb⟩
    have HV := Lib.hid hb
    have HRV := Lib.hid (HR1.out.keep hb)
    clear hb c0 c1 c2 c3 c4 c5 c6 c7 c8 c9 c10 c11 c12 c13
    obtain ⟨e0, e1, e2, e3, e4, e5, e6, e7, e8, e9, e10, e11, e12, e13⟩ := HRV.out.pos
    cases b4
    · go_wp2_with fail
      go_meet
      exact ⟨rfl, HV.out⟩
    · go_wp2_with fail
      refine (CP.out _).mono ?_
      rintro e w' ⟨rfl, rfl⟩
      cases b5
      · go_wp2_with fail
        go_meet
        exact ⟨rfl, HV.out⟩
      · go_wp2_with fail
        refine (CD.out _).mono ?_
        rintro e X ⟨rfl, hb⟩
        have HX := Lib.hid (HV.out.trans (hb.mono HV.out.size))
        have HRX := Lib.hid (HRV.out.keep hb)
        clear hb e0 e1 e2 e3 e4 e5 e6 e7 e8 e9 e10 e11 e12 e13
        obtain ⟨c0, c1, c2, c3, c4, c5, c6, c7, c8, c9, c10, c11, c12, c13⟩ := HRX.out.pos
        cases b6
        · go_wp2_with fail
          go_meet
          exact ⟨rfl, HX.out⟩
        · go_wp2_with fail
          refine (CE.out _).mono ?_
          rintro e Y ⟨rfl, hb⟩
          have HY := Lib.hid (HX.out.trans (hb.mono HX.out.size))
          clear hb
          go_wp2_with fail
          go_meet
          exact ⟨rfl, HY.out⟩
   case rest =>
    obtain ⟨rfl, hb3⟩ := hcut
    have HB3 := Lib.hid (HB1.out.trans (hb3.mono HB1.out.size))
    obtain ⟨b45, h45⟩ : ∃ x, (b4 && b5 && b6 && b7) = x := ⟨_, rfl⟩
    obtain ⟨b12, h12⟩ : ∃ x, (b1 && b2) = x := ⟨_, rfl⟩
    have H45 := Lib.hid h45
    have H12 := Lib.hid h12
    rw [h45, h12]
    clear hb3 c0 c1 c2 c3 c4 c5 c6 c7 c8 c9 c10 c11 c12 c13 h45 h12
    cases b12
    · go_wp2_with fail
      go_ret
      exact ⟨ret1 (by rw [H45.out, H12.out]; rfl), HB3.out⟩
    · cases b3
      · cases b45
        · go_wp2_with fail
          go_ret
          exact ⟨ret1 (by rw [H45.out, H12.out]; rfl), HB3.out⟩
        · go_wp2_with fail
          go_ret
          exact ⟨ret1 (by rw [H45.out, H12.out]; rfl), HB3.out⟩
      · go_wp2_with fail
        go_ret
        exact ⟨ret1 (by rw [H45.out, H12.out]; rfl), HB3.out⟩
theorem check_any (p : Pos) (ha : p.std.size ≤ 1000000) (hc : p.dst.size ≤ 1000000) (w : World) :
 Calls Tryz.prog 54 #[p.val] w fun e w' => e = .returned (.int .i64 (codeE p.ok)) ∧ Below w.heap.size w w' := by
 obtain ⟨a, b, c, d, ⟨k1, d1, m1, w1, s1⟩, ⟨k2, d2, m2, w2, s2⟩⟩ := p
 exact check_cells a c b d k1 d1 m1 w1 s1 k2 d2 m2 w2 s2 ha hc _ rfl w
end Go.Proofs.YtkpmmabdpeobaaaGreatDoor.Px
namespace Go.Proofs.YtkpmmabdpeobaaaGreatDoor.Px
open Go.RowKit
open Civ
theorem name_empty : nameOk [] = false := by kernel_rfl
set_option maxHeartbeats 4000000 in
set_option maxRecDepth 100000 in
theorem ref_check_cells (a c : ByteArray) (b d k1 d1 m1 w1 s1 k2 d2 m2 w2 s2 : Int) (ha : a.size ≤ 1000000) (hc : c.size ≤ 1000000) (r : Bool)
 (hr : (nameOk a.data.toList && offB b && (noneQ c d k1 d1 m1 w1 s1 k2 d2 m2 w2 s2 || (nameOk c.data.toList && offB d && Dt.ok ⟨k1, d1, m1, w1, s1⟩ && Dt.ok ⟨k2, d2, m2, w2, s2⟩))) = r) (w : World) :
 Calls Tryz.prog 72 #[.agg #[.string a, .int .i64 b, .string c, .int .i64 d, .int .i64 k1, .int .i64 d1, .int .i64 m1, .int .i64 w1, .int .i64 s1, .int .i64 k2, .int .i64 d2, .int .i64 m2, .int .i64 w2, .int .i64 s2]] w fun e w' => e = .returned (.int .i64 (codeE r)) ∧ Below w.heap.size w w' := by
 have CN := Lib.hid (ref_name a ha)
 have CM := Lib.hid (ref_name c hc)
 have CO := Lib.hid (roff b (offB b) rfl)
 have CP := Lib.hid (roff d (offB d) rfl)
 have CD := Lib.hid (ref_date_any ⟨k1, d1, m1, w1, s1⟩)
 have CE := Lib.hid (ref_date_any ⟨k2, d2, m2, w2, s2⟩)
 have HNQ := Lib.hid (show noneQ c d k1 d1 m1 w1 s1 k2 d2 m2 w2 s2 = (c.toList.isEmpty && decide (d = 0) && decide (k1 = 0) && decide (d1 = 0) && decide (m1 = 0) && decide (w1 = 0) && decide (s1 = 0) && decide (k2 = 0) && decide (d2 = 0) && decide (m2 = 0) && decide (w2 = 0) && decide (s2 = 0)) from rfl)
 have HC0 := Lib.hid (fun h : c.toList.isEmpty = true => show nameOk c.data.toList = false by rw [ByteArray.toList_eq, List.isEmpty_iff] at h; rw [h]; exact name_empty)
 unfold NamePost at CN CM
 obtain ⟨b1, h1⟩ : ∃ x, nameOk a.data.toList = x := ⟨_, rfl⟩
 obtain ⟨b2, h2⟩ : ∃ x, offB b = x := ⟨_, rfl⟩
 obtain ⟨b3, h3⟩ : ∃ x, noneQ c d k1 d1 m1 w1 s1 k2 d2 m2 w2 s2 = x := ⟨_, rfl⟩
 obtain ⟨b4, h4⟩ : ∃ x, nameOk c.data.toList = x := ⟨_, rfl⟩
 obtain ⟨b5, h5⟩ : ∃ x, offB d = x := ⟨_, rfl⟩
 obtain ⟨b6, h6⟩ : ∃ x, Dt.ok ⟨k1, d1, m1, w1, s1⟩ = x := ⟨_, rfl⟩
 obtain ⟨b7, h7⟩ : ∃ x, Dt.ok ⟨k2, d2, m2, w2, s2⟩ = x := ⟨_, rfl⟩
 rw [h1] at CN hr
 rw [h2] at CO hr
 rw [h3] at HNQ hr
 rw [h4] at CM hr HC0
 rw [h5] at CP hr
 rw [h6] at CD hr
 rw [h7] at CE hr
 subst hr
 clear h1 h2 h3 h4 h5 h6 h7
 have HA := Lib.hid ((Below.refl _ w).alloc (Nat.le_refl _) (.cells #[.string a, .int .i64 b, .string c, .int .i64 d, .int .i64 k1, .int .i64 d1, .int .i64 m1, .int .i64 w1, .int .i64 s1, .int .i64 k2, .int .i64 d2, .int .i64 m2, .int .i64 w2, .int .i64 s2] 50))
 have HR := Lib.hid (rowAt_alloc w #[.string a, .int .i64 b, .string c, .int .i64 d, .int .i64 k1, .int .i64 d1, .int .i64 m1, .int .i64 w1, .int .i64 s1, .int .i64 k2, .int .i64 d2, .int .i64 m2, .int .i64 w2, .int .i64 s2] 50)
 go_enter Tryz.func72, Tryz.ntmps72
 go_wp2_with fail
 refine (CN.out _).mono ?_
 rintro e w' ⟨q1, rfl, _, rfl⟩
 go_wp2_with fail
 refine (CM.out _).mono ?_
 rintro e w' ⟨q2, rfl, _, rfl⟩
 cases b1
 · go_wp2_with fail
   go_ret
   exact ⟨rfl, HA.out⟩
 · go_wp2_with fail
   refine (CO.out _).mono ?_
   rintro e w' ⟨rfl, rfl⟩
   cases b2
   · go_wp2_with fail
     go_ret
     exact ⟨rfl, HA.out⟩
   · by_cases he : c.toList.isEmpty = true
     · have hb4 := HC0.out he
       subst hb4
       have HE := Lib.hid he
       go_upto_region 7 with fail
       go_cut [0, 46] (fun _ s wx => s = .bool (!b3) ∧ Below w.heap.size w wx)
       case first =>
        go_wp2_with fail
        all_goals (go_meet; refine ⟨congrArg Value.bool ?_, ((Below.refl _ _).alloc (Nat.le_refl _) _).alloc (by simp) _⟩; rw [HNQ.out, HE.out]; simp [*])
       case rest =>
        obtain ⟨rfl, hb⟩ := hcut
        have HB := Lib.hid hb
        clear hb he
        cases b3
        · go_wp2_with fail
          go_ret
          exact ⟨rfl, HB.out⟩
        · go_wp2_with fail
          go_ret
          exact ⟨rfl, HB.out⟩
     · have he' : c.toList.isEmpty = false := by simpa using he
       have hb3 : b3 = false := by rw [HNQ.out, he']; rfl
       subst hb3
       clear HNQ he HC0
       have hv : ∀ V, Below ((w.alloc (.cells #[.string a, .int .i64 b, .string c, .int .i64 d, .int .i64 k1, .int .i64 d1, .int .i64 m1, .int .i64 w1, .int .i64 s1, .int .i64 k2, .int .i64 d2, .int .i64 m2, .int .i64 w2, .int .i64 s2] 50)).alloc (.cells #[.int .i64 0, .int .i64 0, .int .i64 0, .int .i64 0, .int .i64 0] 48)).heap.size ((w.alloc (.cells #[.string a, .int .i64 b, .string c, .int .i64 d, .int .i64 k1, .int .i64 d1, .int .i64 m1, .int .i64 w1, .int .i64 s1, .int .i64 k2, .int .i64 d2, .int .i64 m2, .int .i64 w2, .int .i64 s2] 50)).alloc (.cells #[.int .i64 0, .int .i64 0, .int .i64 0, .int .i64 0, .int .i64 0] 48)) V → Below w.heap.size w V ∧ RowAt V w.heap.size #[.string a, .int .i64 b, .string c, .int .i64 d, .int .i64 k1, .int .i64 d1, .int .i64 m1, .int .i64 w1, .int .i64 s1, .int .i64 k2, .int .i64 d2, .int .i64 m2, .int .i64 w2, .int .i64 s2] :=
        fun V hb => ⟨(HA.out.alloc (by simp) _).trans (hb.mono (by simp; omega)), (HR.out.keep ((Below.refl _ _).alloc (Nat.le_refl _) _)).keep hb⟩
       have HV := Lib.hid hv
       clear hv
       have HB0 := Lib.hid (HA.out.alloc (by simp) (.cells #[.int .i64 0, .int .i64 0, .int .i64 0, .int .i64 0, .int .i64 0] 48))
       cases b4
       · go_wp2_with fail
         go_ret
         exact ⟨rfl, HB0.out⟩
       · go_wp2_with fail
         refine (CP.out _).mono ?_
         rintro e w' ⟨rfl, rfl⟩
         cases b5
         · go_wp2_with fail
           go_ret
           exact ⟨rfl, HB0.out⟩
         · go_wp2_with fail
           refine (CD.out _).mono ?_
           rintro e V ⟨rfl, hb⟩
           obtain ⟨hb1, hb2⟩ := HV.out V hb
           have HB1 := Lib.hid hb1
           have HB2 := Lib.hid hb2
           obtain ⟨c0, c1, c2, c3, c4, c5, c6, c7, c8, c9, c10, c11, c12, c13⟩ := hb2.pos
           clear hb hb1 hb2
           cases b6
           · go_wp2_with fail
             go_ret
             exact ⟨rfl, HB1.out⟩
           · go_wp2_with fail
             refine (CE.out _).mono ?_
             rintro e X ⟨rfl, hb⟩
             have HX := Lib.hid (HB1.out.trans (hb.mono HB1.out.size))
             clear hb
             cases b7
             · go_wp2_with fail
               go_ret
               exact ⟨rfl, HX.out⟩
             · go_wp2_with fail
               go_ret
               exact ⟨rfl, HX.out⟩
theorem ref_check (p : Pos) (ha : p.std.size ≤ 1000000) (hc : p.dst.size ≤ 1000000) (w : World) :
 Calls Tryz.prog 72 #[p.val] w fun e w' => e = .returned (.int .i64 (codeE p.ok)) ∧ Below w.heap.size w w' := by
 obtain ⟨a, b, c, d, ⟨k1, d1, m1, w1, s1⟩, ⟨k2, d2, m2, w2, s2⟩⟩ := p
 exact ref_check_cells a c b d k1 d1 m1 w1 s1 k2 d2 m2 w2 s2 ha hc _ rfl w
end Go.Proofs.YtkpmmabdpeobaaaGreatDoor.Px
namespace Go.Proofs.YtkpmmabdpeobaaaGreatDoor.Px
open Go.RowKit
open Civ
abbrev Ev := Int × Bool
def leE (a b : Ev) : Prop := a.1 < b.1 ∨ (a.1 = b.1 ∧ (a.2 = true → b.2 = true))
theorem leE_refl (a : Ev) : leE a a := .inr ⟨rfl, id⟩
theorem leE_trans {a b c : Ev} (h : leE a b) (k : leE b c) : leE a c := by
 unfold leE at *
 rcases h with h | h <;> rcases k with k | k
 · left; omega
 · left; omega
 · left; omega
 · right; exact ⟨h.1.trans k.1, fun x => k.2 (h.2 x)⟩
theorem leE_anti {a b : Ev} (h : leE a b) (k : leE b a) : a = b := by
 unfold leE at *
 obtain ⟨a1, a2⟩ := a
 obtain ⟨b1, b2⟩ := b
 dsimp only at *
 rcases h with h | h <;> rcases k with k | k
 · omega
 · omega
 · omega
 · obtain ⟨rfl, h2⟩ := h
   cases a2 <;> cases b2 <;> simp_all
def stepL (t : Int) (s b : Ev) : Ev := if b.1 ≤ t ∧ (s.1 < b.1 ∨ (b.1 = s.1 ∧ b.2 = true)) then b else s
theorem stepL_le (t : Int) (s b : Ev) : leE s (stepL t s b) ∧ (b.1 ≤ t → leE b (stepL t s b)) ∧ (stepL t s b = s ∨ (stepL t s b = b ∧ b.1 ≤ t)) := by
 unfold stepL
 by_cases h : b.1 ≤ t ∧ (s.1 < b.1 ∨ (b.1 = s.1 ∧ b.2 = true))
 · rw [if_pos h]
   refine ⟨?_, fun _ => leE_refl _, .inr ⟨rfl, h.1⟩⟩
   rcases h.2 with h2 | h2
   · exact .inl h2
   · exact .inr ⟨h2.1.symm, fun _ => h2.2⟩
 · rw [if_neg h]
   refine ⟨leE_refl _, fun hb => ?_, .inl rfl⟩
   unfold leE
   by_cases h1 : b.1 < s.1
   · exact .inl h1
   · by_cases h2 : b.1 = s.1
     · exact .inr ⟨h2, fun h3 => absurd ⟨hb, .inr ⟨h2, h3⟩⟩ h⟩
     · exact absurd ⟨hb, .inl (by omega)⟩ h
def begI (p : Pos) (y : Int) : Int := 86400 * dayD p.start y + p.start.sec - p.stdOff
def endI (p : Pos) (y : Int) : Int := 86400 * dayD p.stop y + p.stop.sec - p.dstOff
def twoP (p : Pos) (t : Int) (s : Ev) (y : Int) : Ev := stepL t (stepL t s (begI p y, true)) (endI p y, false)
def twoR (p : Pos) (t : Int) (s : Ev) (y : Int) : Ev := stepL t (stepL t s (endI p y, false)) (begI p y, true)
def foldY (f : Ev → Int → Ev) (s : Ev) (y : Int) : Nat → Ev
 | 0 => s
 | n + 1 => f (foldY f s y n) (y + n)
def IsLast (p : Pos) (t : Int) (s : Ev) (y : Int) (n : Nat) (r : Ev) : Prop := leE s r ∧ (∀ k : Nat, k < n → (begI p (y + k) ≤ t → leE (begI p (y + k), true) r) ∧ (endI p (y + k) ≤ t → leE (endI p (y + k), false) r)) ∧
 (r = s ∨ ∃ k : Nat, k < n ∧ ((r = (begI p (y + k), true) ∧ begI p (y + k) ≤ t) ∨ (r = (endI p (y + k), false) ∧ endI p (y + k) ≤ t)))
theorem isLast_step {p : Pos} {t : Int} {s : Ev} {y : Int} {n : Nat} {r r' : Ev} (h : IsLast p t s y n r) (h1 : leE r r') (h2 : begI p (y + n) ≤ t → leE (begI p (y + n), true) r') (h3 : endI p (y + n) ≤ t → leE (endI p (y + n), false) r')
 (h4 : r' = r ∨ (r' = (begI p (y + n), true) ∧ begI p (y + n) ≤ t) ∨ (r' = (endI p (y + n), false) ∧ endI p (y + n) ≤ t)) : IsLast p t s y (n + 1) r' := by
 obtain ⟨a, b, c⟩ := h
 refine ⟨leE_trans a h1, fun k hk => ?_, ?_⟩
 · by_cases hn : k = n
   · subst hn; exact ⟨h2, h3⟩
   · obtain ⟨u, v⟩ := b k (by omega)
     exact ⟨fun x => leE_trans (u x) h1, fun x => leE_trans (v x) h1⟩
 · rcases h4 with rfl | h4
   · rcases c with c | ⟨k, hk, c⟩
     · exact .inl c
     · exact .inr ⟨k, by omega, c⟩
   · exact .inr ⟨n, by omega, h4⟩
theorem isLast_P (p : Pos) (t : Int) (s : Ev) (y : Int) : ∀ n, IsLast p t s y n (foldY (twoP p t) s y n)
 | 0 => ⟨leE_refl _, fun k hk => absurd hk (by omega), .inl rfl⟩
 | n + 1 => by
   obtain ⟨a1, a2, a3⟩ := stepL_le t (foldY (twoP p t) s y n) (begI p (y + n), true)
   obtain ⟨b1, b2, b3⟩ := stepL_le t (stepL t (foldY (twoP p t) s y n) (begI p (y + n), true)) (endI p (y + n), false)
   refine isLast_step (isLast_P p t s y n) (leE_trans a1 b1) (fun h => leE_trans (a2 h) b1) b2 ?_
   rw [show foldY (twoP p t) s y (n + 1) = stepL t (stepL t (foldY (twoP p t) s y n) (begI p (y + n), true)) (endI p (y + n), false) from rfl]
   rcases b3 with b3 | b3
   · rw [b3]
     rcases a3 with a3 | a3
     · exact .inl a3
     · exact .inr (.inl ⟨a3.1, a3.2⟩)
   · exact .inr (.inr ⟨b3.1, b3.2⟩)
theorem isLast_R (p : Pos) (t : Int) (s : Ev) (y : Int) : ∀ n, IsLast p t s y n (foldY (twoR p t) s y n)
 | 0 => ⟨leE_refl _, fun k hk => absurd hk (by omega), .inl rfl⟩
 | n + 1 => by
   obtain ⟨a1, a2, a3⟩ := stepL_le t (foldY (twoR p t) s y n) (endI p (y + n), false)
   obtain ⟨b1, b2, b3⟩ := stepL_le t (stepL t (foldY (twoR p t) s y n) (endI p (y + n), false)) (begI p (y + n), true)
   refine isLast_step (isLast_R p t s y n) (leE_trans a1 b1) b2 (fun h => leE_trans (a2 h) b1) ?_
   rw [show foldY (twoR p t) s y (n + 1) = stepL t (stepL t (foldY (twoR p t) s y n) (endI p (y + n), false)) (begI p (y + n), true) from rfl]
   rcases b3 with b3 | b3
   · rw [b3]
     rcases a3 with a3 | a3
     · exact .inl a3
     · exact .inr (.inr ⟨a3.1, a3.2⟩)
   · exact .inr (.inl ⟨b3.1, b3.2⟩)
theorem offB_iff {x : Int} : offB x = true ↔ (-89999 ≤ x ∧ x ≤ 89999) := by unfold offB; exact decide_eq_true_iff
theorem far_years {p : Pos} (h1 : p.start.ok = true) (h2 : p.stop.ok = true) (o1 : offB p.stdOff = true) (o2 : offB p.dstOff = true) {t y Y : Int} (hY1 : jan Y ≤ t / 86400) (hY2 : t / 86400 < jan (Y + 1)) :
 (Y + 1 < y → t < begI p y ∧ t < endI p y) ∧ (y < Y - 1 → begI p y ≤ t ∧ endI p y ≤ t) := by
 rw [offB_iff] at o1 o2
 have s1 := (Dt.ok_iff _).1 h1
 have s2 := (Dt.ok_iff _).1 h2
 have d1 := dayD_bd h1 y
 have d2 := dayD_bd h2 y
 have e := jan_lt (show Y < Y + 1 by omega)
 unfold begI endI
 constructor
 · intro h
   have j1 := jan_lt (show Y + 1 < y by omega)
   omega
 · intro h
   have j1 := jan_lt (show y < Y - 1 by omega)
   have j2 := jan_lt (show Y - 1 < Y by omega)
   omega
theorem beg_mono {p : Pos} (h1 : p.start.ok = true) {y z : Int} (h : y < z) : begI p y ≤ begI p z := by have := dayD_mono h1 h; unfold begI; omega
theorem end_mono {p : Pos} (h1 : p.stop.ok = true) {y z : Int} (h : y < z) : endI p y ≤ endI p z := by have := dayD_mono h1 h; unfold endI; omega
theorem isLast_le {p : Pos} (h1 : p.start.ok = true) (h2 : p.stop.ok = true) (o1 : offB p.stdOff = true) (o2 : offB p.dstOff = true) {t Y : Int} (hY1 : jan Y ≤ t / 86400) (hY2 : t / 86400 < jan (Y + 1)) {s : Ev} {a b : Int} {n m : Nat} {r q : Ev}
 (hr : IsLast p t s a n r) (hq : IsLast p t s b m q) (hb : b ≤ Y - 2) (hm : Y + 2 ≤ b + m - 1) : leE r q := by
 obtain ⟨_, _, c⟩ := hr
 obtain ⟨x, z, _⟩ := hq
 have hlow := fun y => far_years h1 h2 o1 o2 hY1 hY2 (y := y)
 rcases c with rfl | ⟨k, hk, c⟩
 · exact x
 · have cover : ∀ y, y ≤ Y + 1 → ∃ j : Nat, j < m ∧ (y ≤ b + j) ∧ (y = b + j ∨ (y < b + j ∧ b + (j : Int) < Y - 1)) := by
     intro y hy
     by_cases h : b ≤ y
     · exact ⟨(y - b).toNat, by omega, by omega, .inl (by omega)⟩
     · exact ⟨0, by omega, by omega, .inr ⟨by omega, by omega⟩⟩
   have hle : a + (k : Int) ≤ Y + 1 := by
    by_cases h : Y + 1 < a + (k : Int)
    · have := (hlow _).1 h
      rcases c with c | c <;> omega
    · omega
   obtain ⟨j, hj, _, hjy⟩ := cover _ hle
   rcases c with ⟨rfl, ct⟩ | ⟨rfl, ct⟩
   · rcases hjy with hjy | ⟨hjy, hjl⟩
     · rw [hjy] at ct ⊢
       exact (z j hj).1 ct
     · refine leE_trans ?_ ((z j hj).1 ((hlow _).2 hjl).1)
       have := beg_mono h1 hjy
       unfold leE
       dsimp only
       by_cases he : begI p (a + k) = begI p (b + j)
       · exact .inr ⟨he, id⟩
       · exact .inl (by omega)
   · rcases hjy with hjy | ⟨hjy, hjl⟩
     · rw [hjy] at ct ⊢
       exact (z j hj).2 ct
     · refine leE_trans ?_ ((z j hj).2 ((hlow _).2 hjl).2)
       have := end_mono h2 hjy
       unfold leE
       dsimp only
       by_cases he : endI p (a + k) = endI p (b + j)
       · exact .inr ⟨he, id⟩
       · exact .inl (by omega)
theorem isLast_eq {p : Pos} (h1 : p.start.ok = true) (h2 : p.stop.ok = true) (o1 : offB p.stdOff = true) (o2 : offB p.dstOff = true) {t Y : Int} (hY1 : jan Y ≤ t / 86400) (hY2 : t / 86400 < jan (Y + 1)) {s : Ev} {a b : Int} {n m : Nat} {r q : Ev}
 (hr : IsLast p t s a n r) (hq : IsLast p t s b m q) (ha : a ≤ Y - 2) (hn : Y + 2 ≤ a + n - 1) (hb : b ≤ Y - 2) (hm : Y + 2 ≤ b + m - 1) : r = q :=
 leE_anti (isLast_le h1 h2 o1 o2 hY1 hY2 hr hq hb hm) (isLast_le h1 h2 o1 o2 hY1 hY2 hq hr ha hn)
def ev0 : Ev := (-4611686018427387904, false)
def lastP (p : Pos) (t : Int) : Ev := foldY (twoP p t) ev0 (yearT t - 2) 5
theorem lastP_R {p : Pos} (h1 : p.start.ok = true) (h2 : p.stop.ok = true) (o1 : offB p.stdOff = true) (o2 : offB p.dstOff = true) (t : Int) (t0 : -36028797018963968 ≤ t) (t1 : t ≤ 36028797018963968) :
 foldY (twoR p t) ev0 (yearT t - 3) 7 = lastP p t := by
 have hy := yearOf_ok (t / 86400)
 have hb : -2000000000 ≤ yearOf (t / 86400) ∧ yearOf (t / 86400) ≤ 2000000000 := by
  obtain ⟨a, b⟩ := hy
  unfold jan at a b
  omega
 have e : yearT t = yearOf (t / 86400) := by unfold yearT; rw [if_neg (by omega), if_neg (by omega)]
 unfold lastP
 rw [e]
 exact isLast_eq h1 h2 o1 o2 hy.1 hy.2 (isLast_R p t ev0 _ 7) (isLast_P p t ev0 _ 5) (by omega) (by omega) (by omega) (by omega)
end Go.Proofs.YtkpmmabdpeobaaaGreatDoor.Px
namespace Go.Proofs.YtkpmmabdpeobaaaGreatDoor.Px
open Go.RowKit
open Civ
theorem cells_at {w : World} {b : Nat} {cs : Array Value} {t : TypeId} (h : w.heap[b]? = some (.cells cs t (0, 0))) (i : Nat) : w.cell? ⟨b, i, none⟩ = cs[i]? := by simp [World.cell?, h]
theorem free_at {w : World} {b : Nat} {cs : Array Value} {t : TypeId} (h : w.heap[b]? = some (.cells cs t (0, 0))) (i : Nat) : w.frozen? ⟨b, i, none⟩ = false := by simp [World.frozen?, h]
theorem cells_set {w : World} {b : Nat} {cs : Array Value} {t : TypeId} (h : w.heap[b]? = some (.cells cs t (0, 0))) (i : Nat) (u : Value) : (w.setCell ⟨b, i, none⟩ u).heap[b]? = some (.cells (cs.setIfInBounds i u) t (0, 0)) := by
 have hlt := lt_of_block h
 have h' : w.heap[b] = .cells cs t (0, 0) := by simpa [Array.getElem?_eq_getElem hlt] using h
 show (w.heap.modify b _)[b]? = _
 rw [Array.getElem?_eq_getElem (by simpa using hlt), Array.getElem_modify_self, h']
 rfl
theorem heap_new (w : World) (o : Obj) : (w.alloc o).heap[w.heap.size]? = some o := by
 show (w.heap.push o)[w.heap.size]? = some o
 simp
theorem heap_old {w : World} {b : Nat} {x : Obj} (h : w.heap[b]? = some x) (o : Obj) : (w.alloc o).heap[b]? = some x := by
 rw [← h]; exact Below.heap_alloc _ _ _ (lt_of_block h)
theorem heap_keep {W V : World} {b : Nat} {x : Obj} (h : W.heap[b]? = some x) (hB : Below W.heap.size W V) : V.heap[b]? = some x := (hB.block _ (lt_of_block h)).trans h
theorem row3 {w : World} {b : Nat} {x y z : Value} {t : TypeId} (h : w.heap[b]? = some (.cells #[x, y, z] t (0, 0))) : (w.cell? ⟨b, 0, none⟩ = some x ∧ w.cell? ⟨b, 1, none⟩ = some y ∧ w.cell? ⟨b, 2, none⟩ = some z) ∧
 w.frozen? ⟨b, 0, none⟩ = false ∧ w.frozen? ⟨b, 1, none⟩ = false ∧ w.frozen? ⟨b, 2, none⟩ = false :=
 ⟨⟨cells_at h 0, cells_at h 1, cells_at h 2⟩, free_at h 0, free_at h 1, free_at h 2⟩
def Loc (o : Int) (d : Bool) (s : ByteArray) : Value := .agg #[.int .i64 o, .bool d, .string s]
set_option maxHeartbeats 4000000 in
set_option maxRecDepth 100000 in
theorem ref_at_bad (a c : ByteArray) (b d k1 d1 m1 w1 s1 k2 d2 m2 w2 s2 : Int) (t : Int) (ha : a.size ≤ 1000000) (hc : c.size ≤ 1000000) (hp : Pos.ok ⟨a, b, c, d, ⟨k1, d1, m1, w1, s1⟩, ⟨k2, d2, m2, w2, s2⟩⟩ = false) (w : World) :
 Calls Tryz.prog 47 #[.agg #[.string a, .int .i64 b, .string c, .int .i64 d, .int .i64 k1, .int .i64 d1, .int .i64 m1, .int .i64 w1, .int .i64 s1, .int .i64 k2, .int .i64 d2, .int .i64 m2, .int .i64 w2, .int .i64 s2], .int .i64 t] w fun e w' => e = .returned (.tuple #[Loc 0 false ⟨#[]⟩, .int .i64 2]) ∧ Below w.heap.size w w' := by
 have CC := Lib.hid (ref_check ⟨a, b, c, d, ⟨k1, d1, m1, w1, s1⟩, ⟨k2, d2, m2, w2, s2⟩⟩ ha hc)
 rw [hp] at CC
 have HA := Lib.hid (((Below.refl _ w).alloc (Nat.le_refl _) (.cells #[.string a, .int .i64 b, .string c, .int .i64 d, .int .i64 k1, .int .i64 d1, .int .i64 m1, .int .i64 w1, .int .i64 s1, .int .i64 k2, .int .i64 d2, .int .i64 m2, .int .i64 w2, .int .i64 s2] 50)).alloc (by simp) (.cells #[.int .i64 0, .bool false, .string ⟨#[]⟩] 28))
 clear hp
 go_enter Tryz.func47, Tryz.ntmps47
 go_wp2_with fail
 refine (CC.out _).mono ?_
 rintro e V ⟨rfl, hb⟩
 rw [show codeE false = 2 from rfl]
 have hres := heap_keep (b := w.heap.size + 1) (x := .cells #[.int .i64 0, .bool false, .string ⟨#[]⟩] 28 (0, 0)) (by rw [← show (w.alloc (.cells #[.string a, .int .i64 b, .string c, .int .i64 d, .int .i64 k1, .int .i64 d1, .int .i64 m1, .int .i64 w1, .int .i64 s1, .int .i64 k2, .int .i64 d2, .int .i64 m2, .int .i64 w2, .int .i64 s2] 50)).heap.size = w.heap.size + 1 by simp]; exact heap_new _ _) hb
 have HV := Lib.hid (HA.out.trans (hb.mono HA.out.size))
 obtain ⟨⟨r0, r1, r2⟩, f0, f1, f2⟩ := row3 hres
 have HR := Lib.hid hres
 clear hb hres
 go_wp2_with fail
 refine bodyPost_ret (v := .tuple #[Loc 0 false ⟨#[]⟩, .int .i64 2]) (by simp [results, Tryz.results47, go_sem, Loc, r0, r1, r2]) rfl ⟨rfl, ?_⟩
 exact ((HV.out.setCell (by simp) _).setCell (by simp) _).setCell (by simp) _
end Go.Proofs.YtkpmmabdpeobaaaGreatDoor.Px
