/- TZ strings, the plain laws: the string of a TZ. No program in sight. The function posix.Print: the string of a TZ. -/
import Derived.Test.YtkpmmabdpeobaaaGreatDoorSU8
import Derived.Test.YtkpmmabdpeobaaaGreatDoorSU7
import Derived.Lib.IndexAny
import Derived.Test.YtkpmmabdpeobaaaGreatDoorSU9
import Derived.Deep.QuietTactic
import Derived.BigQuiet
import Derived.Test.YtkpmmabdpeobaaaGreatDoorSU5
import Derived.Deep.RegionWith
import Derived.Deep.RegionHeld3
import Derived.Deep.DeepCutAuto
namespace Go.Proofs.YtkpmmabdpeobaaaGreatDoor.Px
open Off (dec two printN printO)
def shortN (n : Nat) : List UInt8 := dec (n / 3600) ++ (if n % 60 = 0 then (if n / 60 % 60 = 0 then [] else 58 :: two (n / 60 % 60)) else 58 :: two (n / 60 % 60) ++ 58 :: two (n % 60))
def shortL (x : Int) : List UInt8 := if x < 0 then 45 :: shortN (-x).toNat else shortN x.toNat
def quoteL (s : List UInt8) : List UInt8 := if s.all letC then s else 60 :: s ++ [62]
def textL (d : Dt) : List UInt8 :=
 (if d.kind = 1 then 74 :: dec d.day.toNat else if d.kind = 3 then 77 :: dec d.month.toNat ++ 46 :: dec d.week.toNat ++ 46 :: dec d.day.toNat else dec d.day.toNat) ++
  (if d.sec = 7200 then [] else 47 :: shortL d.sec)
def printL (p : Pos) : List UInt8 :=
 if p.dst.data.toList.isEmpty then quoteL p.std.data.toList ++ shortL (-p.stdOff)
 else quoteL p.std.data.toList ++ shortL (-p.stdOff) ++ quoteL p.dst.data.toList ++ (if p.dstOff = p.stdOff + 3600 then [] else shortL (-p.dstOff)) ++ 44 :: textL p.start ++ 44 :: textL p.stop
def printP (p : Pos) : List UInt8 × Int := if p.ok then (printL p, 0) else ([], 2)
theorem dec_all (n : Nat) (h : n < 1000) : (dec n).all Off.digQ = true := by
 rw [← Off.dec_lib h]; exact (dec_digits n).1
theorem suffix_mem {l : List UInt8} (h : Lib.hasSuffix l [58, 48, 48] = true) : (58 : UInt8) ∈ l := by
 unfold Lib.hasSuffix at h
 rw [List.isSuffixOf_iff_suffix] at h
 exact h.subset (by simp)
theorem suffix_yes (a : List UInt8) : Lib.hasSuffix (a ++ [58, 48, 48]) [58, 48, 48] = true := by
 unfold Lib.hasSuffix
 rw [List.isSuffixOf_iff_suffix]
 exact List.suffix_append _ _
theorem suffix_no (a : List UInt8) (x y : UInt8) (h : ¬ (x = 48 ∧ y = 48)) : Lib.hasSuffix (a ++ [58, x, y]) [58, 48, 48] = false := by
 rw [Bool.eq_false_iff]
 intro hh
 unfold Lib.hasSuffix at hh
 rw [List.isSuffixOf_iff_suffix] at hh
 obtain ⟨t, ht⟩ := hh
 have := (List.append_inj' ht rfl).2
 simp at this
 exact h ⟨this.1.symm, this.2.symm⟩
theorem two_zero (n : Nat) (h : n < 60) : (n = 0 ∧ two n = [48, 48]) ∨ (n ≠ 0 ∧ ∃ x y, two n = [x, y] ∧ ¬ (x = 48 ∧ y = 48)) := by
 by_cases h0 : n = 0
 · left; subst h0; exact ⟨rfl, rfl⟩
 · right
   refine ⟨h0, _, _, rfl, ?_⟩
   rintro ⟨h1, h2⟩
   have h1 := congrArg UInt8.toNat h1
   have h2 := congrArg UInt8.toNat h2
   rw [u8_nat (by omega), show (48 : UInt8).toNat = 48 from rfl] at h1 h2
   omega
theorem print_short (x : Int) (h0 : -604799 ≤ x) (h1 : x ≤ 604799) :
 (printO x = shortL x ∧ Lib.hasSuffix (shortL x) [58, 48, 48] = false) ∨ (printO x = shortL x ++ [58, 48, 48] ∧ Lib.hasSuffix (shortL x) [58, 48, 48] = false ∧ 1 ≤ (shortL x).length) := by
 have key : ∀ (n : Nat) (g : List UInt8), n ≤ 604799 → (58 : UInt8) ∉ g → (g ++ printN n = g ++ shortN n ∧ Lib.hasSuffix (g ++ shortN n) [58, 48, 48] = false) ∨ (g ++ printN n = g ++ shortN n ++ [58, 48, 48] ∧ Lib.hasSuffix (g ++ shortN n) [58, 48, 48] = false ∧ 1 ≤ (g ++ shortN n).length) := by
  intro n g hn hg
  have hd := dec_all (n / 3600) (by omega)
  unfold printN shortN
  by_cases hs : n % 60 = 0
  · rw [if_pos hs, if_pos hs, List.append_nil]
    rcases two_zero (n / 60 % 60) (by omega) with ⟨hm, e⟩ | ⟨hm, a, b, e, hab⟩
    · right
      rw [if_pos hm, e, List.append_nil]
      refine ⟨by simp, ?_, ?_⟩
      · rw [Bool.eq_false_iff]
        intro h
        rcases List.mem_append.1 (suffix_mem h) with h | h
        · exact hg h
        · have := List.all_eq_true.1 hd _ h
          cases this
      · have := dec_digits (n / 3600)
        rw [Off.dec_lib (by omega)] at this
        have := List.length_pos_iff.2 this.2.1
        rw [List.length_append]; omega
    · left
      rw [if_neg hm, e]
      refine ⟨rfl, ?_⟩
      have := suffix_no (g ++ dec (n / 3600)) a b hab
      rwa [List.append_assoc] at this
  · rw [if_neg hs, if_neg hs]
    rcases two_zero (n % 60) (by omega) with ⟨hm, e⟩ | ⟨hm, a, b, e, hab⟩
    · exact absurd hm hs
    · left
      rw [e]
      refine ⟨by simp, ?_⟩
      have := suffix_no (g ++ dec (n / 3600) ++ 58 :: two (n / 60 % 60)) a b hab
      simpa using this
 unfold printO shortL
 by_cases h : x < 0
 · rw [if_pos h, if_pos h]
   exact key (-x).toNat [45] (by omega) (by decide)
 · rw [if_neg h, if_neg h]
   exact key x.toNat [] (by omega) (by decide)
theorem shortN_len (n : Nat) : (shortN n).length ≤ 9 := by
 unfold shortN
 have := Off.dec_len (n / 3600)
 have h2 : ∀ n, (two n).length = 2 := fun _ => rfl
 split
 · split <;> simp [h2] <;> omega
 · simp [h2]; omega
theorem shortL_len (x : Int) : (shortL x).length ≤ 10 := by
 unfold shortL
 split
 · rw [List.length_cons]; have := shortN_len (-x).toNat; omega
 · have := shortN_len x.toNat; omega
theorem quoteL_len (s : List UInt8) : (quoteL s).length ≤ s.length + 2 := by
 unfold quoteL
 split
 · omega
 · simp
theorem textL_len (d : Dt) : (textL d).length ≤ 23 := by
 unfold textL
 have a1 := Off.dec_len d.day.toNat
 have a2 := Off.dec_len d.month.toNat
 have a3 := Off.dec_len d.week.toNat
 have a4 := shortL_len d.sec
 rw [List.length_append]
 have b1 : (if d.kind = 1 then 74 :: dec d.day.toNat else if d.kind = 3 then 77 :: dec d.month.toNat ++ 46 :: dec d.week.toNat ++ 46 :: dec d.day.toNat else dec d.day.toNat).length ≤ 12 := by
  split
  · simp; omega
  · split
    · simp; omega
    · omega
 have b2 : (if d.sec = 7200 then [] else 47 :: shortL d.sec).length ≤ 11 := by
  split
  · simp
  · simp; omega
 omega
end Go.Proofs.YtkpmmabdpeobaaaGreatDoor.Px
namespace Go.Proofs.YtkpmmabdpeobaaaGreatDoor.Px
open Go.RowKit
open Civ
open Off (dec two printN printO bs_add)
theorem bdrew (w : World) : Below w.heap.size w w.drew := ⟨rfl, rfl, rfl, Nat.le_refl _, fun _ _ => rfl⟩
theorem ptB {W X : World} {B : Nat} {a c : List UInt8} {b d k1 d1 m1 w1 s1 k2 d2 m2 w2 s2 : Int} (h : RowAt W B #[.string (bs a), .int .i64 b, .string (bs c), .int .i64 d, .int .i64 k1, .int .i64 d1, .int .i64 m1, .int .i64 w1, .int .i64 s1, .int .i64 k2, .int .i64 d2, .int .i64 m2, .int .i64 w2, .int .i64 s2]) (hB : Below W.heap.size W X) :
 X.cell? ⟨B, 4, none⟩ = some (.int .i64 k1) ∧ X.cell? ⟨B, 5, none⟩ = some (.int .i64 d1) ∧ X.cell? ⟨B, 6, none⟩ = some (.int .i64 m1) ∧ X.cell? ⟨B, 7, none⟩ = some (.int .i64 w1) ∧ X.cell? ⟨B, 8, none⟩ = some (.int .i64 s1) ∧ X.cell? ⟨B, 9, none⟩ = some (.int .i64 k2) ∧ X.cell? ⟨B, 10, none⟩ = some (.int .i64 d2) ∧ X.cell? ⟨B, 11, none⟩ = some (.int .i64 m2) ∧ X.cell? ⟨B, 12, none⟩ = some (.int .i64 w2) ∧ X.cell? ⟨B, 13, none⟩ = some (.int .i64 s2) ∧ Below W.heap.size W X := by
 obtain ⟨c0, c1, c2, c3, c4, c5, c6, c7, c8, c9, c10, c11, c12, c13⟩ := (h.keep hB).pos
 exact ⟨c4, c5, c6, c7, c8, c9, c10, c11, c12, c13, hB⟩
theorem ok_list {a c : List UInt8} {b d : Int} {x y : Dt} (hp : Pos.ok ⟨bs a, b, bs c, d, x, y⟩ = true) : a.all inB = true ∧ -89999 ≤ b ∧ b ≤ 89999 ∧ (c = [] ∨ (c ≠ [] ∧ c.all inB = true ∧ -89999 ≤ d ∧ d ≤ 89999 ∧ x.ok = true ∧ y.ok = true)) := by
 unfold Pos.ok Pos.stdB Pos.dstB Pos.noneB noneQ offB at hp
 dsimp only at hp
 rw [bs_list, bs_list] at hp
 simp only [Bool.and_eq_true, Bool.or_eq_true, decide_eq_true_eq] at hp
 obtain ⟨⟨h1, h2, h3⟩, h4⟩ := hp
 have hn : ∀ l, nameOk l = true → l.all inB = true ∧ l ≠ [] := by
  intro l h
  unfold nameOk at h
  simp only [Bool.and_eq_true, decide_eq_true_eq] at h
  exact ⟨h.2, by intro e; rw [e] at h; exact absurd h.1.1 (by decide)⟩
 refine ⟨(hn a h1).1, h2, h3, ?_⟩
 rcases h4 with h4 | h4
 · left
   have := h4.1.1.1.1.1.1.1.1.1.1.1
   rw [ByteArray.toList_eq, bs_list] at this
   simpa using this
 · right
   obtain ⟨⟨⟨h5, h6, h7⟩, h8⟩, h9⟩ := h4
   exact ⟨(hn c h5).2, (hn c h5).1, h6, h7, h8, h9⟩
end Go.Proofs.YtkpmmabdpeobaaaGreatDoor.Px
