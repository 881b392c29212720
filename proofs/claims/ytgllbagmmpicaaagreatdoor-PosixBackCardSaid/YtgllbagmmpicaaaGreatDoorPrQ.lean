/- The methods run, next, want and name of posix.reader. -/
import Derived.Test.YtgllbagmmpicaaaGreatDoorPrP
import Derived.Test.YtgllbagmmpicaaaGreatDoorPrE
import Derived.Test.YtgllbagmmpicaaaGreatDoorPxR
import Derived.Deep.QuietTactic
import Derived.BigQuiet
namespace Go.Proofs.YtgllbagmmpicaaaGreatDoor.Px
open Go.RowKit
open Civ
open Off (run past digQ parseO)

/-- a reader: where it lies, what is left, whether something was wrong -/
def RdAt (w : World) (b : Nat) (l : List UInt8) (q : Bool) : Prop := w.heap[b]? = some (.cells #[.string (bs l), .bool q] 58 (0, 0))
theorem RdAt.lt {w : World} {b : Nat} {l : List UInt8} {q : Bool} (h : RdAt w b l q) : b < w.heap.size := lt_of_block h
theorem RdAt.keep {w w' : World} {b : Nat} {l : List UInt8} {q : Bool} (h : RdAt w b l q) (hB : Below w.heap.size w w') : RdAt w' b l q := (hB.block b h.lt).trans h
theorem RdAt.row {w : World} {b : Nat} {l : List UInt8} {q : Bool} (h : RdAt w b l q) : (w.cell? ⟨b, 0, none⟩ = some (.string (bs l)) ∧ w.cell? ⟨b, 1, none⟩ = some (.bool q)) ∧ w.frozen? ⟨b, 0, none⟩ = false ∧ w.frozen? ⟨b, 1, none⟩ = false :=
  ⟨⟨cells_at h 0, cells_at h 1⟩, free_at h 0, free_at h 1⟩
theorem RdAt.setL {w : World} {b : Nat} {l : List UInt8} {q : Bool} (h : RdAt w b l q) (m : List UInt8) : RdAt (w.setCell ⟨b, 0, none⟩ (.string (bs m))) b m q := cells_set h 0 _
theorem RdAt.setB {w : World} {b : Nat} {l : List UInt8} {q : Bool} (h : RdAt w b l q) (r : Bool) : RdAt (w.setCell ⟨b, 1, none⟩ (.bool r)) b l r := cells_set h 1 _
def RdPost (w : World) (b : Nat) (v : Value) (l : List UInt8) (q : Bool) (e : Ending) (w' : World) : Prop := e = .returned v ∧ But b w w' ∧ RdAt w' b l q
theorem bs_size (l : List UInt8) : (bs l).size = l.length := List.size_toArray
theorem run_past (p : UInt8 → Bool) (l : List UInt8) : run p l ++ past p l = l := List.takeWhile_append_dropWhile
theorem run_take (p : UInt8 → Bool) (l : List UInt8) : l.take (l.length - (past p l).length) = run p l := by
  have h := run_past p l
  have hl : l.length = (run p l).length + (past p l).length := by rw [← List.length_append, h]
  conv => lhs; arg 2; rw [← h]
  rw [hl, Nat.add_sub_cancel, List.take_left' rfl]
theorem past_le (p : UInt8 → Bool) (l : List UInt8) : (past p l).length ≤ l.length := by
  have h := congrArg List.length (run_past p l)
  rw [List.length_append] at h; omega
set_option maxHeartbeats 1000000 in
theorem run_any (p : UInt8 → Bool) (cs : ByteArray) (hcs : cs.size ≤ 1000) (hp : ∀ c, cs.data.toList.contains c = p c) (ha : ∀ (j : Nat) b, cs.data.toList[j]? = some b → b.toNat < 128) (b : Nat) (l : List UInt8) (hl : l.length ≤ 1000000) (q : Bool) (w : World) (h : RdAt w b l q) :
    Calls Tryz.prog 58 #[.pointer (some ⟨b, 0, none⟩), .string cs] w (RdPost w b (.string (bs (run p l))) (past p l) q) := by
  have CT := Lib.hid (fun w => Any.strings_TrimLeft_laid Tryz.lays161 (by kernel_rfl) (bs l) cs w (by omega) ha)
  rw [show Lib.trimLeftS (bs l).data.toList cs.data.toList = past p l by unfold Lib.trimLeftS past; rw [show (fun x => cs.data.toList.contains x) = p from funext hp]; rfl] at CT
  obtain ⟨⟨c0, c1⟩, f0, f1⟩ := h.row
  have HR := Lib.hid h
  have hpl := past_le p l
  have HZ := Lib.hid (bs_size l)
  have HZ2 := Lib.hid (bs_size (past p l))
  obtain ⟨s, hs⟩ : ∃ s, bs l = s := ⟨_, rfl⟩
  obtain ⟨r, hr⟩ : ∃ r, bs (past p l) = r := ⟨_, rfl⟩
  rw [show (⟨(past p l).toArray⟩ : ByteArray) = r from hr] at CT
  rw [hs] at c0 CT HZ
  rw [hr] at HZ2
  have z1 : r.size ≤ s.size := by rw [HZ.out, HZ2.out]; exact hpl
  have z2 : s.size ≤ 1000000 := by rw [HZ.out]; exact hl
  have z3 : (0 : Int) ≤ (s.size : Int) - (r.size : Int) := by omega
  have z4 : (s.size : Int) - (r.size : Int) ≤ (s.size : Int) := by omega
  have z5 : IntKind.i64.wrap ((s.size : Int) - (r.size : Int)) = (s.size : Int) - (r.size : Int) := IntWalk.i64_in _ (by omega)
  have z6 : ((s.size : Int) - (r.size : Int)).toNat = s.size - r.size := by omega
  have HS := Lib.hid hs
  have HR2 := Lib.hid hr
  clear h ha hp hs hr hpl
  go_enter Tryz.func58, Tryz.ntmps58
  go_wp2_with fail
  refine (CT.out _).mono ?_
  rintro e V ⟨rfl, hb⟩
  have HB := Lib.hid hb
  have d0 := keep_cell c0 hb
  have d1 := HR.out.keep hb
  have g0 : V.frozen? ⟨b, 0, none⟩ = false := free_at d1 0
  have HV := Lib.hid d1
  have hlt := d1.lt
  clear hb d1
  go_wp2_with fail
  go_quiet (fail)
  go_wp2_with fail
  go_ret
  have hx : s.extract 0 (s.size - r.size) = bs (run p l) := by
    rw [Lib.extract_eq, ← HS.out, Nat.sub_zero, List.drop_zero, bs_size, ← HR2.out, bs_size, bs_list, run_take]; rfl
  refine ⟨congrArg (fun s => Ending.returned (Value.string s)) hx, ?_, ?_⟩
  · exact (But.of_below (Civ.below_drewN HB.out nq) (Nat.le_of_lt HR.out.lt)).trans (But.set _ _ _)
  · rw [← HR2.out]
    exact RdAt.setL (HV.out.keep (Civ.below_drewN (Below.refl _ _) nq)) _
set_option maxHeartbeats 1000000 in
theorem next_any (c : UInt8) (b : Nat) (l : List UInt8) (q : Bool) (w : World) (h : RdAt w b l q) :
    Calls Tryz.prog 57 #[.pointer (some ⟨b, 0, none⟩), .string ⟨#[c]⟩] w (RdPost w b (.bool (nextB c l)) (nextR c l) q) := by
  have hq : Lib.hasPrefix l [c] = nextB c l := by
    unfold Lib.hasPrefix nextB
    cases l with
    | nil => rfl
    | cons a r =>
      show (c == a && true) = (a == c)
      rw [Bool.and_true]
      exact Bool.eq_iff_iff.2 ⟨fun h => beq_iff_eq.2 (beq_iff_eq.1 h).symm, fun h => beq_iff_eq.2 (beq_iff_eq.1 h).symm⟩
  have ht : Lib.trimPrefix l [c] = nextR c l := by unfold Lib.trimPrefix nextR; rw [hq]; rfl
  have CP := Lib.hid (Tryz.strings_CutPrefix (bs l) ⟨#[c]⟩)
  rw [bs_list, show (⟨#[c]⟩ : ByteArray).data.toList = [c] from rfl, hq, ht] at CP
  obtain ⟨⟨c0, c1⟩, f0, f1⟩ := h.row
  have HR := Lib.hid h
  have hlt := h.lt
  obtain ⟨s, hs⟩ : ∃ s, bs l = s := ⟨_, rfl⟩
  obtain ⟨r, hr⟩ : ∃ r, bs (nextR c l) = r := ⟨_, rfl⟩
  rw [show (⟨(nextR c l).toArray⟩ : ByteArray) = r from hr] at CP
  rw [hs] at c0 CP
  have HR2 := Lib.hid hr
  clear h hq ht hs hr
  go_enter Tryz.func57, Tryz.ntmps57
  go_wp2_with fail
  refine (CP.out _).mono ?_
  rintro e V ⟨rfl, rfl⟩
  go_wp2_with fail
  go_ret
  refine ⟨rfl, But.set _ _ _, ?_⟩
  rw [← HR2.out]
  exact HR.out.setL _
set_option maxHeartbeats 1000000 in
theorem want_any (c : UInt8) (b : Nat) (l : List UInt8) (q : Bool) (w : World) (h : RdAt w b l q) :
    Calls Tryz.prog 27 #[.pointer (some ⟨b, 0, none⟩), .string ⟨#[c]⟩] w (fun e w' => ∃ v, RdPost w b v (nextR c l) (q || !nextB c l) e w') := by
  have CN := Lib.hid (next_any c b l q)
  unfold RdPost at CN
  have HR := Lib.hid h
  obtain ⟨n, hn⟩ : ∃ n, nextB c l = n := ⟨_, rfl⟩
  rw [hn] at CN ⊢
  clear h hn
  go_enter Tryz.func27, Tryz.ntmps27
  go_wp2_with fail
  refine (CN.out _ HR.out).mono ?_
  rintro e V ⟨rfl, hb, hr⟩
  have HB := Lib.hid hb
  have HV := Lib.hid hr
  obtain ⟨⟨d0, d1⟩, g0, g1⟩ := hr.row
  clear hb hr
  cases n
  · go_wp2_with fail
    go_end0
    exact ⟨_, rfl, HB.out.trans (But.set _ _ _), by rw [show (q || !false) = true by cases q <;> rfl]; exact HV.out.setB _⟩
  · go_wp2_with fail
    go_end0
    exact ⟨_, rfl, HB.out.trans (But.set _ _ _), by rw [show (q || !true) = q by cases q <;> rfl]; exact HV.out.setB _⟩
def abc52 : ByteArray := ⟨#[65, 66, 67, 68, 69, 70, 71, 72, 73, 74, 75, 76, 77, 78, 79, 80, 81, 82, 83, 84, 85, 86, 87, 88, 89, 90, 97, 98, 99, 100, 101, 102, 103, 104, 105, 106, 107, 108, 109, 110, 111, 112, 113, 114, 115, 116, 117, 118, 119, 120, 121, 122]⟩
theorem contains_let (c : UInt8) : abc52.data.toList.contains c = letC c :=
  eq_of_beq (every_byte (fun c => abc52.data.toList.contains c == letC c) (by kernel_rfl) c)
theorem nextR_le (c : UInt8) (l : List UInt8) : (nextR c l).length ≤ l.length := by unfold nextR; split <;> simp
set_option maxHeartbeats 1000000 in
set_option maxRecDepth 100000 in
theorem rd_name (b : Nat) (l : List UInt8) (hl : l.length ≤ 1000000) (q : Bool) (w : World) (h : RdAt w b l q) :
    Calls Tryz.prog 24 #[.pointer (some ⟨b, 0, none⟩)] w (RdPost w b (.string (bs (nmS l))) (nmR l) (q || nmB l)) := by
  have CN := Lib.hid (next_any 60 b l q)
  have hl2 := nextR_le 60 l
  unfold nmS nmR nmB nmT nmP
  obtain ⟨n, hn⟩ : ∃ n, nextB 60 l = n := ⟨_, rfl⟩
  obtain ⟨m, hm⟩ : ∃ m, nextR 60 l = m := ⟨_, rfl⟩
  rw [hn, hm] at CN ⊢
  rw [hm] at hl2
  have HR := Lib.hid h
  unfold RdPost at CN
  clear h hn hm
  cases n
  · have CR := Lib.hid (run_any letC abc52 (by decide) contains_let (ascii_of_all (by decide)) b m (by omega) q)
    unfold RdPost at CR
    rw [if_neg (by decide), if_neg (by decide), Bool.false_and, Bool.or_false]
    go_enter Tryz.func24, Tryz.ntmps24
    go_wp2_with fail
    refine (CN.out _ HR.out).mono ?_
    rintro e V ⟨rfl, hb, hr⟩
    have HB := Lib.hid hb
    have HV := Lib.hid hr
    clear hb hr
    go_wp2_with fail
    refine (CR.out _ HV.out).mono ?_
    rintro e V2 ⟨rfl, hb, hr⟩
    have HB2 := Lib.hid (HB.out.trans hb)
    have HV2 := Lib.hid hr
    clear hb hr
    go_wp2_with fail
    go_ret
    exact ⟨rfl, HB2.out, HV2.out⟩
  · have CR := Lib.hid (run_any inB abc64 (by decide) contains_in (ascii_of_all (by decide)) b m (by omega) q)
    have CW := Lib.hid (want_any 62 b (past inB m) q)
    unfold RdPost at CR CW
    rw [if_pos rfl, if_pos rfl, Bool.true_and]
    go_enter Tryz.func24, Tryz.ntmps24
    go_wp2_with fail
    refine (CN.out _ HR.out).mono ?_
    rintro e V ⟨rfl, hb, hr⟩
    have HB := Lib.hid hb
    have HV := Lib.hid hr
    clear hb hr
    go_wp2_with fail
    refine (CR.out _ HV.out).mono ?_
    rintro e V2 ⟨rfl, hb, hr⟩
    have HB2 := Lib.hid (HB.out.trans hb)
    have HV2 := Lib.hid hr
    clear hb hr
    go_wp2_with fail
    refine (CW.out _ HV2.out).mono ?_
    rintro e V3 ⟨v, rfl, hb, hr⟩
    have HB3 := Lib.hid (HB2.out.trans hb)
    have HV3 := Lib.hid hr
    clear hb hr
    go_wp2_with fail
    go_ret
    exact ⟨rfl, HB3.out, HV3.out⟩
end Go.Proofs.YtgllbagmmpicaaaGreatDoor.Px
