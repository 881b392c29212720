/- Numbers as big-endian bytes, plain: the bytes of a number, the number of some bytes, that they go back and forth, and where things stand in lists that are put together. No program in sight. TZif data, plain: the bytes of a table, the version it needs, the table of some bytes; a right table is the one that its bytes say. No program in sight. TZif data, plain: the table that some bytes may be the data of; of a right table's data it is that table, so that tables with the same data are equal. No program in sight. TZif data, plain: where the digit of the version stands, and which bytes ahead of the second counts are not 0. No program in sight. A footer that is right has no line feed, plain: what the reader of a TZ passes over is none. No program in sight. What bytes are decoded to, plain: a table and a version just if these have the bytes as their data; bytes that are cut off, or with others behind, are none. No program in sight. Plain facts of the laws of TZif data: tables that are spoilt are wrong; which version is needed; the bytes at their places. No program in sight. Big-endian bytes one by one, plain; numbers in the range of some bytes. No program in sight. -/
import Derived.Test.YtkpmmabdpeobaaaGreatDoorSU14
import Derived.Test.YtkpmmabdpeobaaaGreatDoorSU32
import Derived.Test.YtkpmmabdpeobaaaGreatDoorSU28
import Derived.Laws.BitsAllLaws
namespace Go.Proofs.YtkpmmabdpeobaaaGreatDoor.Tz
abbrev B := List UInt8
def byt (x : Int) : UInt8 := UInt8.ofNat (x % 256).toNat
theorem byt_nat (x : Int) : ((byt x).toNat : Int) = x % 256 := by
 unfold byt
 have h1 : 0 ≤ x % 256 := Int.emod_nonneg _ (by decide)
 have h2 : x % 256 < 256 := Int.emod_lt_of_pos _ (by decide)
 rw [UInt8.toNat_ofNat']
 omega
def beN : Nat → Int → B
 | 0, _ => []
 | n + 1, x => byt (x / 256 ^ n) :: beN n x
theorem beN_len : ∀ (n : Nat) (x : Int), (beN n x).length = n
 | 0, _ => rfl
 | n + 1, x => by unfold beN; rw [List.length_cons, beN_len n x]
def sgn (b : UInt8) : Int := if b.toNat < 128 then (b.toNat : Int) else (b.toNat : Int) - 256
def getG (x : Int) (l : B) : Int := l.foldl (fun x c => x * 256 + (c.toNat : Int)) x
def getL : B → Int
 | [] => 0
 | b :: r => getG (sgn b) r
theorem getG_beN : ∀ (n : Nat) (y x : Int), getG y (beN n x) = y * 256 ^ n + x % 256 ^ n
 | 0, y, x => by unfold beN getG; simp [Int.emod_one]
 | n + 1, y, x => by
   have ih := getG_beN n (y * 256 + ((byt (x / 256 ^ n)).toNat : Int)) x
   have e : getG y (beN (n + 1) x) = getG (y * 256 + ((byt (x / 256 ^ n)).toNat : Int)) (beN n x) := rfl
   rw [e, ih, byt_nat]
   obtain ⟨p, hp⟩ : ∃ p : Int, (256 : Int) ^ n = p := ⟨_, rfl⟩
   have hpos : 0 < p := by rw [← hp]; exact Int.pow_pos (by decide)
   rw [Int.pow_succ, hp]
   obtain ⟨q, hq⟩ : ∃ q, x / p = q := ⟨_, rfl⟩
   rw [hq]
   have h1 : p * q + x % p = x := by rw [← hq]; exact Int.mul_ediv_add_emod x p
   have h2 : 256 * (q / 256) + q % 256 = q := Int.mul_ediv_add_emod q 256
   have h3 : 0 ≤ x % p := Int.emod_nonneg _ (by omega)
   have h4 : x % p < p := Int.emod_lt_of_pos _ hpos
   have h5 : 0 ≤ q % 256 := Int.emod_nonneg _ (by decide)
   have h6 : q % 256 < 256 := Int.emod_lt_of_pos _ (by decide)
   obtain ⟨r, hr⟩ : ∃ r, q % 256 = r := ⟨_, rfl⟩
   obtain ⟨s, hs⟩ : ∃ s, x % p = s := ⟨_, rfl⟩
   obtain ⟨d, hd⟩ : ∃ d, q / 256 = d := ⟨_, rfl⟩
   rw [hr] at h2 h5 h6 ⊢
   rw [hs] at h1 h3 h4
   rw [hd] at h2
   have h7 : 0 ≤ p * r := Int.mul_nonneg (by omega) h5
   have h8 : p * r ≤ p * 255 := Int.mul_le_mul_of_nonneg_left (by omega) (by omega)
   have e1 : x = (p * r + s) + (p * 256) * d := by
    rw [← h1, ← h2, Int.mul_add, ← Int.mul_assoc]
    omega
   have e2 : x % (p * 256) = p * r + s := by
    rw [e1, Int.add_mul_emod_self_left]
    exact Int.emod_eq_of_lt (by omega) (by omega)
   rw [e2, hs, Int.add_mul, Int.mul_comm p r, show y * (p * 256) = y * 256 * p by rw [Int.mul_assoc, Int.mul_comm p 256]]
   omega
theorem getL_beN (n : Nat) (x : Int) (h1 : -(128 * 256 ^ n) ≤ x) (h2 : x < 128 * 256 ^ n) : getL (beN (n + 1) x) = x := by
 have e : getL (beN (n + 1) x) = getG (sgn (byt (x / 256 ^ n))) (beN n x) := rfl
 rw [e, getG_beN]
 obtain ⟨p, hp⟩ : ∃ p : Int, (256 : Int) ^ n = p := ⟨_, rfl⟩
 have hpos : 0 < p := by rw [← hp]; exact Int.pow_pos (by decide)
 rw [hp] at h1 h2 ⊢
 have h3 : p * (x / p) + x % p = x := Int.mul_ediv_add_emod x p
 have h4 : -128 ≤ x / p := Int.le_ediv_of_mul_le hpos (by omega)
 have h5 : x / p < 128 := Int.ediv_lt_of_lt_mul hpos (by omega)
 have h6 := byt_nat (x / p)
 have h7 : sgn (byt (x / p)) = x / p := by
  unfold sgn
  split <;> omega
 rw [h7, Int.mul_comm]
 exact h3
theorem getL_1 {x : Int} (h1 : -128 ≤ x) (h2 : x < 128) : getL (beN 1 x) = x := getL_beN 0 x (by omega) (by omega)
theorem getL_4 {x : Int} (h1 : -2147483648 ≤ x) (h2 : x < 2147483648) : getL (beN 4 x) = x := getL_beN 3 x (by omega) (by omega)
theorem getL_8 {x : Int} (h1 : -9223372036854775808 ≤ x) (h2 : x < 9223372036854775808) : getL (beN 8 x) = x := getL_beN 7 x (by omega) (by omega)
def sub {α : Type} (b : List α) (k n : Nat) : List α := (b.drop k).take n
theorem sub_left {α : Type} {a : List α} (c : List α) {k n : Nat} (h : k + n ≤ a.length) : sub (a ++ c) k n = sub a k n := by
 unfold sub
 rw [List.drop_append_of_le_length (by omega), List.take_append_of_le_length (by rw [List.length_drop]; omega)]
theorem sub_right {α : Type} (a : List α) {c : List α} {k n : Nat} (h : a.length ≤ k) : sub (a ++ c) k n = sub c (k - a.length) n := by
 unfold sub
 rw [List.drop_append, List.drop_eq_nil_of_le h, List.nil_append]
theorem sub_all {α : Type} (a : List α) : sub a 0 a.length = a := by unfold sub; simp
theorem sub_sub {α : Type} (a : List α) {k n i m : Nat} (h : i + m ≤ n) : sub (sub a k n) i m = sub a (k + i) m := by
 unfold sub
 rw [List.drop_take, List.take_take, List.drop_drop, Nat.min_eq_left (by omega)]
theorem rows_at {α β : Type} {f : β → List α} {w : Nat} : ∀ (l : List β) (i : Nat) (x : β), (∀ y ∈ l, (f y).length = w) → l[i]? = some x → sub (l.flatMap f) (w * i) w = f x
 | [], _, _, _, hx => by simp at hx
 | y :: r, 0, x, h, hx => by
   simp only [List.getElem?_cons_zero, Option.some.injEq] at hx
   subst hx
   have hy := h y (List.mem_cons_self ..)
   rw [List.flatMap_cons, sub_left _ (by rw [hy]; omega), Nat.mul_zero, ← hy, sub_all]
 | y :: r, i + 1, x, h, hx => by
   rw [List.getElem?_cons_succ] at hx
   have hy := h y (List.mem_cons_self ..)
   rw [List.flatMap_cons, sub_right _ (by rw [hy, Nat.mul_add]; omega), hy, show w * (i + 1) - w = w * i by rw [Nat.mul_add]; omega]
   exact rows_at r i x (fun z hz => h z (List.mem_cons_of_mem _ hz)) hx
theorem rows_len {α β : Type} {f : β → List α} {w : Nat} : ∀ l : List β, (∀ y ∈ l, (f y).length = w) → (l.flatMap f).length = w * l.length
 | [], _ => by simp
 | y :: r, h => by
   rw [List.flatMap_cons, List.length_append, h y (List.mem_cons_self ..), rows_len r (fun z hz => h z (List.mem_cons_of_mem _ hz)), List.length_cons, Nat.mul_add]
   omega
end Go.Proofs.YtkpmmabdpeobaaaGreatDoor.Tz
namespace Go.Proofs.YtkpmmabdpeobaaaGreatDoor.Tz
open Px Tb
def names (ts : List Lc) : List B := ts.map (fun l => l.abbr.data.toList)
def headB (v tr ty ch : Int) : B := [84, 90, 105, 102, byt (48 + v)] ++ (List.replicate 15 0 ++ (beN 4 0 ++ (beN 4 0 ++ (beN 4 0 ++ (beN 4 tr ++ (beN 4 ty ++ beN 4 ch))))))
theorem headB_len (v tr ty ch : Int) : (headB v tr ty ch).length = 44 := by simp [headB, beN_len]
def plc (P : B) (l : Lc) : Int := Lib.index P (Po.w l.abbr.data.toList)
def typB (P : B) (l : Lc) : B := beN 4 l.off ++ [if l.dst then 1 else 0, byt (plc P l)]
theorem typB_len (P : B) (l : Lc) : (typB P l).length = 6 := by simp [typB, beN_len]
def poolT (x : Tab) : B := Po.abbrsP (names x.types)
def bodyB (x : Tab) (P : B) : B := x.trans.flatMap (fun t => beN 8 t.at') ++ (x.trans.flatMap (fun t => beN 1 t.ty) ++ (x.types.flatMap (typB P) ++ (P ++ (10 :: (x.foot ++ [10])))))
def encB (x : Tab) (v : Int) : B := headB v 0 1 1 ++ (List.replicate 7 0 ++ (headB v x.trans.length x.types.length (poolT x).length ++ bodyB x (poolT x)))
def highQ (d : Dt) : Bool := decide (d.sec < 0) || decide (90000 ≤ d.sec)
def versP (p : Pos) : Int := if p.dst.toList.isEmpty = true then 2 else if highQ p.start = true ∨ highQ p.stop = true then 3 else 2
def versT (x : Tab) : Int := versP (finG prF x.foot).1
def versE (x : Tab) : Int × Int := if checkE x = 0 then (versT x, 0) else (0, checkE x)
def encE (x : Tab) (v : Int) : B × Int := if checkE x = 0 then (if v < versT x ∨ 4 < v then ([], 18) else (encB x v, 0)) else ([], checkE x)
theorem versT_two (x : Tab) : versT x = 2 ∨ versT x = 3 := by
 unfold versT versP
 split
 · exact .inl rfl
 · split
   · exact .inr rfl
   · exact .inl rfl
theorem right_types {x : Tab} (h : checkE x = 0) : typesE x.types = 0 := by
 by_cases e : typesE x.types = 0
 · exact e
 · unfold checkE at h
   rw [if_pos e] at h
   exact h
theorem right_trans {x : Tab} (h : checkE x = 0) : transE x = 0 := by
 have h1 := right_types h
 by_cases e : transE x = 0
 · exact e
 · unfold checkE at h
   rw [if_neg (fun q => q h1), if_pos e] at h
   exact h
theorem right_foot {x : Tab} (h : checkE x = 0) : (finG rfF x.foot).2 = 0 ∧ x.foot.length ≤ 100 := by
 have h1 := right_types h
 have h2 := right_trans h
 unfold checkE at h
 rw [if_neg (fun q => q h1), if_neg (fun q => q h2)] at h
 unfold footE at h
 by_cases e : (finG rfF x.foot).2 = 0
 · refine ⟨e, ?_⟩
   by_cases hl : 100 < x.foot.length
   · unfold finG at e
     rw [if_pos hl] at e
     exact absurd e (by decide)
   · omega
 · rw [if_pos e] at h
   exact absurd h e
theorem right_ty {x : Tab} (h : checkE x = 0) : TransOk x.types.length 0 0 none x.trans := transGo_ok _ _ _ _ (right_trans h)
theorem right_lc {x : Tab} (h : checkE x = 0) : ∀ l ∈ x.types, (-54000 ≤ l.off ∧ l.off ≤ 54000) ∧ nameOk l.abbr.data.toList = true := fun l hl => by
 have := (typesE_zero (right_types h)).2.2.2 l hl
 unfold lcE at this
 by_cases h1 : l.off < -54000 ∨ 54000 < l.off
 · rw [if_pos h1] at this; exact absurd this (by decide)
 rw [if_neg h1] at this
 cases h2 : nameOk l.abbr.data.toList with
 | false => rw [if_pos h2] at this; exact absurd this (by decide)
 | true => exact ⟨by omega, rfl⟩
theorem name_len {l : B} (h : nameOk l = true) : 3 ≤ l.length ∧ l.length ≤ 7 := by
 unfold nameOk at h
 simp only [Bool.and_eq_true, decide_eq_true_eq] at h
 exact h.1
theorem name_zero {l : B} (h : nameOk l = true) : (0 : UInt8) ∉ l := fun hm => by
 unfold nameOk at h
 rw [Bool.and_eq_true] at h
 exact absurd (List.all_eq_true.1 h.2 0 hm) (by decide)
def wsum (l : List B) : Nat := (l.map (fun s => s.length + 1)).sum
theorem step_wsum (p s : B) : (Po.step p s).length ≤ p.length + (s.length + 1) := by
 unfold Po.step
 split
 · rw [List.length_append, Po.w_len]; omega
 · omega
theorem pool_wsum : ∀ (l : List B) (p : B), (Po.poolF p l).length ≤ p.length + wsum l
 | [], _ => Nat.le_refl _
 | s :: r, p => by
   have h1 := pool_wsum r (Po.step p s)
   have h2 := step_wsum p s
   have e : Po.poolF p (s :: r) = Po.poolF (Po.step p s) r := rfl
   have e2 : wsum (s :: r) = (s.length + 1) + wsum r := by unfold wsum; rw [List.map_cons, List.sum_cons]
   rw [e, e2]
   omega
theorem wsum_append (a b : List B) : wsum (a ++ b) = wsum a + wsum b := by unfold wsum; rw [List.map_append, List.sum_append]
theorem wsum_split (p q r : B → Bool) : ∀ l : List B, (∀ s, ¬(p s = true ∧ q s = true)) → (∀ s, p s = true ∨ q s = true → r s = true) → wsum (l.filter p) + wsum (l.filter q) ≤ wsum (l.filter r)
 | [], _, _ => Nat.le_refl _
 | s :: l, h1, h2 => by
   have ih := wsum_split p q r l h1 h2
   have ec : ∀ x : List B, wsum (s :: x) = (s.length + 1) + wsum x := fun x => by unfold wsum; rw [List.map_cons, List.sum_cons]
   have h3 := h1 s
   have h4 := h2 s
   cases hp : p s <;> cases hq : q s <;> cases hr : r s <;> simp_all <;> omega
theorem ord_wsum (l : List B) : ∀ n : Nat, wsum (Po.ordN l n) ≤ wsum (l.filter (fun s => decide (s.length ≤ n)))
 | 0 => Nat.zero_le _
 | n + 1 => by
   have e : Po.ordN l (n + 1) = l.filter (fun s => decide (s.length = n + 1)) ++ Po.ordN l n := rfl
   have ih := ord_wsum l n
   have h := wsum_split (fun s => decide (s.length = n + 1)) (fun s => decide (s.length ≤ n)) (fun s => decide (s.length ≤ n + 1)) l (fun s => by simp; omega) (fun s => by simp; omega)
   rw [e, wsum_append]
   omega
theorem filter_wsum (p : B → Bool) : ∀ l : List B, wsum (l.filter p) ≤ wsum l
 | [] => Nat.le_refl _
 | s :: l => by
   have ih := filter_wsum p l
   have ec : ∀ x : List B, wsum (s :: x) = (s.length + 1) + wsum x := fun x => by unfold wsum; rw [List.map_cons, List.sum_cons]
   rw [List.filter_cons, ec]
   split
   · rw [ec]; omega
   · omega
theorem lenS_firsts : ∀ (ts pre : List Lc) (seen : List B) (n : Nat), (∀ s : B, s ∈ seen ↔ s ∈ names pre) → lenS pre n ts = n + wsum (Po.firsts seen (names ts))
 | [], _, _, _, _ => rfl
 | l :: r, pre, seen, n, h => by
   have hq : pre.any (fun p => decide (p.abbr = l.abbr)) = decide (l.abbr.data.toList ∈ seen) := by
    rw [Bool.eq_iff_iff, List.any_eq_true, decide_eq_true_iff, h]
    unfold names
    rw [List.mem_map]
    constructor
    · rintro ⟨p, hp, e⟩
      rw [decide_eq_true_iff] at e
      exact ⟨p, hp, by rw [e]⟩
    · rintro ⟨p, hp, e⟩
      refine ⟨p, hp, ?_⟩
      rw [decide_eq_true_iff]
      exact ByteArray.ext (Array.ext' e)
   have en : names (l :: r) = l.abbr.data.toList :: names r := rfl
   unfold lenS
   rw [hq, en]
   by_cases hm : l.abbr.data.toList ∈ seen
   · rw [if_pos (by simpa using hm), Po.firsts_in hm]
     exact lenS_firsts r _ _ _ (fun s => by
      unfold names
      rw [List.map_append, List.mem_append, h]
      unfold names
      constructor
      · exact .inl
      · rintro (h1 | h1)
        · exact h1
        · simp only [List.map_cons, List.map_nil, List.mem_singleton] at h1
          rw [h1]
          exact (h _).1 hm)
   · rw [if_neg (by simpa using hm), Po.firsts_out hm]
     have ec : wsum (l.abbr.data.toList :: Po.firsts (l.abbr.data.toList :: seen) (names r)) = (l.abbr.data.toList.length + 1) + wsum (Po.firsts (l.abbr.data.toList :: seen) (names r)) := by unfold wsum; rw [List.map_cons, List.sum_cons]
     rw [ec, lenS_firsts r (pre ++ [l]) (l.abbr.data.toList :: seen) _ (fun s => by
      unfold names
      rw [List.map_append, List.mem_append, List.mem_cons, h]
      unfold names
      simp only [List.map_cons, List.map_nil, List.mem_singleton]
      exact Or.comm)]
     have : l.abbr.size = l.abbr.data.toList.length := Array.length_toList.symm
     omega
theorem typesGo_len : ∀ (ts pre : List Lc) (n : Nat), typesGo pre n ts = 0 → lenS pre n ts ≤ 255
 | [], _, n, h => by
   unfold typesGo at h
   unfold lenS
   by_cases hn : 255 < n
   · rw [if_pos hn] at h; exact absurd h (by decide)
   · omega
 | l :: r, pre, n, h => by
   unfold typesGo at h
   by_cases h1 : lcE l ≠ 0
   · rw [if_pos h1] at h; exact absurd h h1
   rw [if_neg h1] at h
   by_cases h2 : l ∈ pre
   · rw [if_pos h2] at h; exact absurd h (by decide)
   rw [if_neg h2] at h
   unfold lenS
   exact typesGo_len r _ _ h
theorem typesE_len {ts : List Lc} (h : typesE ts = 0) : lenS [] 0 ts ≤ 255 := by
 unfold typesE at h
 by_cases h1 : ts.length = 0
 · rw [if_pos h1] at h; exact absurd h (by decide)
 rw [if_neg h1] at h
 by_cases h2 : 254 < ts.length
 · rw [if_pos h2] at h; exact absurd h (by decide)
 rw [if_neg h2] at h
 exact typesGo_len _ _ _ h
theorem pool_right {x : Tab} (h : checkE x = 0) : Po.abbrsE (names x.types) = 0 ∧ (poolT x).length ≤ 255 ∧ ∀ l ∈ x.types, ∃ i : Nat, plc (poolT x) l = i ∧ i + l.abbr.data.toList.length + 1 ≤ (poolT x).length ∧ Po.w l.abbr.data.toList <+: (poolT x).drop i := by
 have hl := right_lc h
 have hnm : ∀ s ∈ names x.types, nameOk s = true := fun s hs => by
  obtain ⟨l, hm, rfl⟩ := List.mem_map.1 hs
  exact (hl l hm).2
 have h0 : ∀ s ∈ names x.types, (0 : UInt8) ∉ s := fun s hs => name_zero (hnm s hs)
 have hb : (names x.types).any Po.badB = false := by
  rw [List.any_eq_false]
  intro s hs
  have h1 := name_len (hnm s hs)
  have h2 := h0 s hs
  unfold Po.badB
  have e1 : s.isEmpty = false := by cases s with | nil => simp at h1 | cons a r => rfl
  have e2 : s.contains 0 = false := by rw [List.contains_eq_mem]; simpa using h2
  rw [e1, e2]
  simp
 have hP : poolT x = Po.poolF [] (Po.ordN (Po.firsts [] (names x.types)) (Po.mostL (names x.types))) := (Po.pool_ord h0 _ _ (.inl rfl)).symm
 have hlen : (poolT x).length ≤ 255 := by
  have h1 := pool_wsum (Po.ordN (Po.firsts [] (names x.types)) (Po.mostL (names x.types))) []
  have h2 := ord_wsum (Po.firsts [] (names x.types)) (Po.mostL (names x.types))
  have h3 := filter_wsum (fun s => decide (s.length ≤ Po.mostL (names x.types))) (Po.firsts [] (names x.types))
  have h4 := typesE_len (right_types h)
  rw [lenS_firsts x.types [] [] 0 (fun s => by simp [names])] at h4
  rw [hP]
  simp only [List.length_nil] at h1
  omega
 refine ⟨?_, hlen, fun l hm => ?_⟩
 · unfold Po.abbrsE
   rw [hb, if_neg (by decide), if_neg (by unfold poolT at hlen; omega)]
 · have hs : l.abbr.data.toList ∈ names x.types := List.mem_map.2 ⟨l, hm, rfl⟩
   have h1 := name_len (hnm _ hs)
   have hmo := (Po.most_le (names x.types) 0).2 _ hs
   have hord : l.abbr.data.toList ∈ Po.ordN (names x.types) (Po.mostL (names x.types)) := ((Po.ord_stb fun s hs => ⟨by have := name_len (hnm s hs); omega, (Po.most_le (names x.types) 0).2 s hs⟩ : St.Stb Po.rk (names x.types) (Po.ordN (names x.types) (Po.mostL (names x.types)))).mem _).2 hs
   have hhas := Po.pool_has (Po.ordN (names x.types) (Po.mostL (names x.types))) [] (.inl rfl) (fun s hs => h0 s (Po.ord_mem _ s hs).1) _ hord
   rcases Po.index_cases (poolT x) (Po.w l.abbr.data.toList) with ⟨h2, _⟩ | ⟨i, h2, h3, h4, _⟩
   · unfold poolT Po.abbrsP at h2
     omega
   · have h5 := Po.occ_len h4 h3
     rw [Po.w_len] at h5
     refine ⟨i, h2, by omega, ?_⟩
     unfold Lib.occAt at h4
     exact List.isPrefixOf_iff_prefix.1 h4
end Go.Proofs.YtkpmmabdpeobaaaGreatDoor.Tz
namespace Go.Proofs.YtkpmmabdpeobaaaGreatDoor.Tz
open Px Tb
def cntAt (b : B) (k : Nat) : Int := getL (sub b k 4)
def u8At (b : B) (k : Nat) : Int := ((b.getD k 0).toNat : Int)
def nameAt (P : B) (k : Nat) : Option B := if (0 : UInt8) ∈ P.drop k then some ((P.drop k).takeWhile (fun c => c != 0)) else none
def trAt (b : B) (n i : Nat) : Tr := ⟨getL (sub b (95 + 8 * i) 8), u8At b (95 + 8 * n + i)⟩
def lcAt (b P : B) (q i : Nat) : Option Lc := match nameAt P (b.getD (q + 6 * i + 5) 0).toNat with
 | none => none
 | some s => some ⟨getL (sub b (q + 6 * i) 4), decide (b.getD (q + 6 * i + 4) 0 = 1), bs s⟩
def lcsAt (b P : B) (q : Nat) : Nat → Nat → Option (List Lc)
 | _, 0 => some []
 | i, k + 1 => match lcAt b P q i with
   | none => none
   | some l => match lcsAt b P q (i + 1) k with
     | none => none
     | some r => some (l :: r)
def readT (b : B) (n m c : Nat) : Option Tab := match lcsAt b (sub b (95 + 9 * n + 6 * m) c) (95 + 9 * n) 0 m with
 | none => none
 | some ts => some ⟨ts, (List.range n).map (trAt b n), sub b (95 + 9 * n + 6 * m + c + 1) (b.length - (95 + 9 * n + 6 * m + c + 2))⟩
def cntOk (b : B) : Prop := 95 ≤ b.length ∧ 0 ≤ cntAt b 83 ∧ 0 ≤ cntAt b 87 ∧ 0 ≤ cntAt b 91 ∧ cntAt b 83 ≤ b.length ∧ cntAt b 87 ≤ b.length ∧ cntAt b 91 ≤ b.length ∧ 95 + 9 * cntAt b 83 + 6 * cntAt b 87 + cntAt b 91 + 2 ≤ b.length
instance (b : B) : Decidable (cntOk b) := by unfold cntOk; exact inferInstance
def readL (b : B) : Option Tab := if cntOk b then readT b (cntAt b 83).toNat (cntAt b 87).toNat (cntAt b 91).toNat else none
theorem sub_at {α : Type} {a b : List α} (c : List α) {k n : Nat} (ha : a.length = k) (hb : b.length = n) : sub (a ++ (b ++ c)) k n = b := by
 unfold sub
 rw [List.drop_left' ha, List.take_left' hb]
theorem sub_one {b : B} {k : Nat} {y : UInt8} (h : sub b k 1 = [y]) : b.getD k 0 = y := by
 unfold sub at h
 have h2 : (b.drop k)[0]? = some y := by
  have : ((b.drop k).take 1)[0]? = some y := by rw [h]; rfl
  rwa [List.getElem?_take_of_lt (by decide)] at this
 rw [List.getElem?_drop, Nat.add_zero] at h2
 rw [List.getD_eq_getElem?_getD, h2]
 rfl
structure Pieces (b N M C T8 T1 TY P F : B) (n m c : Nat) : Prop where
 at_n : sub b 83 4 = N
 at_m : sub b 87 4 = M
 at_c : sub b 91 4 = C
 at_t8 : sub b 95 (8 * n) = T8
 at_t1 : sub b (95 + 8 * n) n = T1
 at_ty : sub b (95 + 9 * n) (6 * m) = TY
 at_p : sub b (95 + 9 * n + 6 * m) c = P
 at_f : b.drop (95 + 9 * n + 6 * m + c) = F
 at_len : b.length = 95 + 9 * n + 6 * m + c + F.length
theorem pieces {b A N M C T8 T1 TY P F : B} {n m c : Nat} (hb : b = A ++ (N ++ (M ++ (C ++ (T8 ++ (T1 ++ (TY ++ (P ++ F)))))))) (hA : A.length = 83) (hN : N.length = 4) (hM : M.length = 4) (hC : C.length = 4)
 (h8 : T8.length = 8 * n) (h1 : T1.length = n) (hy : TY.length = 6 * m) (hp : P.length = c) : Pieces b N M C T8 T1 TY P F n m c := by
 refine ⟨?_, ?_, ?_, ?_, ?_, ?_, ?_, ?_, ?_⟩
 · rw [hb]
   exact sub_at _ hA hN
 · rw [hb, ← List.append_assoc A]
   exact sub_at _ (by rw [List.length_append]; omega) hM
 · rw [hb, ← List.append_assoc A, ← List.append_assoc (A ++ N)]
   exact sub_at _ (by simp only [List.length_append]; omega) hC
 · rw [hb, ← List.append_assoc A, ← List.append_assoc (A ++ N), ← List.append_assoc (A ++ N ++ M)]
   exact sub_at _ (by simp only [List.length_append]; omega) h8
 · rw [hb, ← List.append_assoc A, ← List.append_assoc (A ++ N), ← List.append_assoc (A ++ N ++ M), ← List.append_assoc (A ++ N ++ M ++ C)]
   exact sub_at _ (by simp only [List.length_append]; omega) h1
 · rw [hb, ← List.append_assoc A, ← List.append_assoc (A ++ N), ← List.append_assoc (A ++ N ++ M), ← List.append_assoc (A ++ N ++ M ++ C), ← List.append_assoc (A ++ N ++ M ++ C ++ T8)]
   exact sub_at _ (by simp only [List.length_append]; omega) hy
 · rw [hb, ← List.append_assoc A, ← List.append_assoc (A ++ N), ← List.append_assoc (A ++ N ++ M), ← List.append_assoc (A ++ N ++ M ++ C), ← List.append_assoc (A ++ N ++ M ++ C ++ T8), ← List.append_assoc (A ++ N ++ M ++ C ++ T8 ++ T1)]
   exact sub_at _ (by simp only [List.length_append]; omega) hp
 · rw [hb, ← List.append_assoc A, ← List.append_assoc (A ++ N), ← List.append_assoc (A ++ N ++ M), ← List.append_assoc (A ++ N ++ M ++ C), ← List.append_assoc (A ++ N ++ M ++ C ++ T8), ← List.append_assoc (A ++ N ++ M ++ C ++ T8 ++ T1), ← List.append_assoc (A ++ N ++ M ++ C ++ T8 ++ T1 ++ TY)]
   exact List.drop_left' (by simp only [List.length_append]; omega)
 · rw [hb]
   simp only [List.length_append]
   omega
theorem enc_pieces (x : Tab) (v : Int) : Pieces (encB x v) (beN 4 x.trans.length) (beN 4 x.types.length) (beN 4 (poolT x).length) (x.trans.flatMap (fun t => beN 8 t.at')) (x.trans.flatMap (fun t => beN 1 t.ty)) (x.types.flatMap (typB (poolT x))) (poolT x)
 (10 :: (x.foot ++ [10])) x.trans.length x.types.length (poolT x).length := by
 refine pieces (A := headB v 0 1 1 ++ (List.replicate 7 0 ++ ([84, 90, 105, 102, byt (48 + v)] ++ (List.replicate 15 0 ++ (beN 4 0 ++ (beN 4 0 ++ beN 4 0)))))) ?_ ?_ (beN_len _ _) (beN_len _ _) (beN_len _ _) ?_ ?_ ?_ rfl
 · unfold encB bodyB
   rw [show headB v x.trans.length x.types.length (poolT x).length = [84, 90, 105, 102, byt (48 + v)] ++ (List.replicate 15 0 ++ (beN 4 0 ++ (beN 4 0 ++ (beN 4 0 ++ (beN 4 x.trans.length ++ (beN 4 x.types.length ++ beN 4 (poolT x).length)))))) from rfl]
   simp only [List.append_assoc]
 · simp only [List.length_append, headB_len, beN_len, List.length_replicate, List.length_cons, List.length_nil]
 · exact rows_len _ (fun _ _ => beN_len _ _)
 · rw [rows_len (w := 1) _ (fun _ _ => beN_len _ _)]
   omega
 · exact rows_len _ (fun _ _ => typB_len _ _)
theorem map_range {α : Type} {l : List α} {f : Nat → α} (h : ∀ i t, l[i]? = some t → f i = t) : (List.range l.length).map f = l :=
 List.ext_getElem (by simp) (fun i h1 h2 => by
  rw [List.getElem_map, List.getElem_range]
  exact h i _ (List.getElem?_eq_getElem h2))
theorem lcs_of {b P : B} {q : Nat} : ∀ (r : List Lc) (i : Nat), (∀ j l, r[j]? = some l → lcAt b P q (i + j) = some l) → lcsAt b P q i r.length = some r
 | [], _, _ => rfl
 | x :: r, i, h => by
   have h0 := h 0 x rfl
   rw [Nat.add_zero] at h0
   have h1 := lcs_of r (i + 1) (fun j l hj => by
    have := h (j + 1) l (by rw [List.getElem?_cons_succ]; exact hj)
    rwa [show i + (j + 1) = i + 1 + j by omega] at this)
   rw [List.length_cons]
   unfold lcsAt
   rw [h0]
   dsimp only
   rw [h1]
theorem take_name {s r : B} (h : (0 : UInt8) ∉ s) : (s ++ 0 :: r).takeWhile (fun c => c != 0) = s := by
 rw [List.takeWhile_append_of_pos (fun a ha => by
  have : a ≠ 0 := fun e => h (e ▸ ha)
  simpa using this)]
 rw [List.takeWhile_cons_of_neg (by simp)]
 simp
theorem bs_data (a : ByteArray) : bs a.data.toList = a := ByteArray.ext (by simp [bs])
theorem lt_of_at {α : Type} {l : List α} {i : Nat} {x : α} (h : l[i]? = some x) : i < l.length := (List.getElem?_eq_some_iff.1 h).1
theorem read_enc {x : Tab} (h : checkE x = 0) (hn : x.trans.length ≤ 2147483647) (v : Int) : readL (encB x v) = some x := by
 have hp := enc_pieces x v
 obtain ⟨hpe, hpl, hpx⟩ := pool_right h
 have ht := right_ty h
 have hl := right_lc h
 have hm := (typesE_zero (right_types h)).2.1
 obtain ⟨b, hb⟩ : ∃ b, encB x v = b := ⟨_, rfl⟩
 obtain ⟨P, hP⟩ : ∃ P, poolT x = P := ⟨_, rfl⟩
 rw [hb] at hp ⊢
 rw [hP] at hp hpl hpx
 have en : cntAt b 83 = x.trans.length := by unfold cntAt; rw [hp.at_n]; exact getL_4 (by omega) (by omega)
 have em : cntAt b 87 = x.types.length := by unfold cntAt; rw [hp.at_m]; exact getL_4 (by omega) (by omega)
 have ec : cntAt b 91 = P.length := by unfold cntAt; rw [hp.at_c]; exact getL_4 (by omega) (by omega)
 have hlen := hp.at_len
 simp only [List.length_cons, List.length_append, List.length_nil] at hlen
 unfold readL
 rw [if_pos (by unfold cntOk; rw [en, em, ec]; omega), en, em, ec, Int.toNat_natCast, Int.toNat_natCast, Int.toNat_natCast]
 unfold readT
 rw [hp.at_p]
 have e1 : lcsAt b P (95 + 9 * x.trans.length) 0 x.types.length = some x.types := lcs_of _ _ (fun i l hi => by
  have hi2 := lt_of_at hi
  have hml := List.mem_of_getElem? hi
  have hr := rows_at (f := typB P) x.types i l (fun _ _ => typB_len _ _) hi
  rw [← hp.at_ty, sub_sub _ (by omega)] at hr
  obtain ⟨k, hk1, hk2, hk3⟩ := hpx l hml
  have h4 : sub b (95 + 9 * x.trans.length + 6 * i) 4 = beN 4 l.off := by
   have := congrArg (fun z => sub z 0 4) hr
   rw [sub_sub _ (by omega), Nat.add_zero] at this
   rw [this]
   unfold typB
   rw [sub_left _ (by rw [beN_len]; omega)]
   have e := sub_all (beN 4 l.off)
   rwa [beN_len] at e
  have h5 : b.getD (95 + 9 * x.trans.length + 6 * i + 4) 0 = if l.dst then 1 else 0 := by
   apply sub_one
   have := congrArg (fun z => sub z 4 1) hr
   rw [sub_sub _ (by omega)] at this
   rw [this]
   unfold typB
   rw [sub_right _ (by rw [beN_len]; omega), beN_len]
   rfl
  have h6 : b.getD (95 + 9 * x.trans.length + 6 * i + 5) 0 = byt (plc P l) := by
   apply sub_one
   have := congrArg (fun z => sub z 5 1) hr
   rw [sub_sub _ (by omega)] at this
   rw [this]
   unfold typB
   rw [sub_right _ (by rw [beN_len]; omega), beN_len]
   rfl
  have h7 := byt_nat (plc P l)
  rw [hk1] at h6 h7
  have h8 : (byt (k : Int)).toNat = k := by omega
  unfold lcAt
  rw [Nat.zero_add, h4, h5, h6, h8]
  obtain ⟨r, hr2⟩ := hk3
  have hz := name_zero (hl l hml).2
  unfold nameAt
  rw [← hr2, show Po.w l.abbr.data.toList ++ r = l.abbr.data.toList ++ 0 :: r by unfold Po.w; simp, if_pos (by simp), take_name hz]
  dsimp only
  rw [getL_4 (by have := (hl l hml).1; omega) (by have := (hl l hml).1; omega), bs_data]
  cases l with
  | mk o d a => cases d <;> rfl)
 have e2 : (List.range x.trans.length).map (trAt b x.trans.length) = x.trans := map_range (fun i t hi => by
  have hi2 := lt_of_at hi
  have hmt := List.mem_of_getElem? hi
  have h8 := rows_at (f := fun t : Tr => beN 8 t.at') x.trans i t (fun _ _ => beN_len _ _) hi
  rw [← hp.at_t8, sub_sub _ (by omega)] at h8
  have h1 := rows_at (f := fun t : Tr => beN 1 t.ty) x.trans i t (fun _ _ => beN_len _ _) hi
  rw [← hp.at_t1, sub_sub _ (by omega), Nat.one_mul] at h1
  have hg : b.getD (95 + 8 * x.trans.length + i) 0 = byt t.ty := by
   apply sub_one
   rw [h1]
   show [byt (t.ty / 256 ^ 0)] = _
   rw [Int.pow_zero, Int.ediv_one]
  have hr := ht.rng t hmt
  have hy := ht.ty t hmt
  have hb := byt_nat t.ty
  unfold trAt u8At
  rw [h8, hg, getL_8 (by omega) (by omega), hb, Int.emod_eq_of_lt (by omega) (by omega)])
 have e3 : sub b (95 + 9 * x.trans.length + 6 * x.types.length + P.length + 1) (b.length - (95 + 9 * x.trans.length + 6 * x.types.length + P.length + 2)) = x.foot := by
  unfold sub
  rw [← List.drop_drop, hp.at_f, List.drop_succ_cons, List.drop_zero]
  exact List.take_left' (by omega)
 rw [e1]
 dsimp only
 rw [e2, e3]
theorem enc_inj {x y : Tab} {v u : Int} (hx : checkE x = 0) (hy : checkE y = 0) (hnx : x.trans.length ≤ 2147483647) (hny : y.trans.length ≤ 2147483647) (h : encB x v = encB y u) : x = y := by
 have h1 := read_enc hx hnx v
 have h2 := read_enc hy hny u
 rw [h, h2] at h1
 exact (Option.some.inj h1).symm
end Go.Proofs.YtkpmmabdpeobaaaGreatDoor.Tz
namespace Go.Proofs.YtkpmmabdpeobaaaGreatDoor.Tz
open Px Tb
def frontB (d : UInt8) : B := [84, 90, 105, 102, d, 0, 0, 0, 0, 0, 0, 0, 0, 0, 0, 0, 0, 0, 0, 0, 0, 0, 0, 0, 0, 0, 0, 0, 0, 0, 0, 0, 0, 0, 0, 0, 0, 0, 0, 1, 0, 0, 0, 1,
 0, 0, 0, 0, 0, 0, 0, 84, 90, 105, 102, d, 0, 0, 0, 0, 0, 0, 0, 0, 0, 0, 0, 0, 0, 0, 0, 0, 0, 0, 0, 0, 0, 0, 0, 0, 0, 0, 0]
def backB (x : Tab) : B := beN 4 x.trans.length ++ (beN 4 x.types.length ++ (beN 4 (poolT x).length ++ bodyB x (poolT x)))
theorem enc_front (x : Tab) (v : Int) : encB x v = frontB (byt (48 + v)) ++ backB x := by
 have e0 : beN 4 0 = [0, 0, 0, 0] := by decide
 have e1 : beN 4 1 = [0, 0, 0, 1] := by decide
 unfold encB backB headB
 rw [e0, e1]
 rfl
theorem front_len (d : UInt8) : (frontB d).length = 83 := rfl
def zeroAt (i : Nat) : Bool := decide (5 ≤ i) && decide (i ≠ 39) && decide (i ≠ 43) && (decide (i < 51) || decide (55 < i)) && decide (i < 83)
theorem front_set (d : UInt8) : frontB d = ((frontB 0).set 4 d).set 55 d := rfl
theorem front_same (d e : UInt8) {i : Nat} (h4 : i ≠ 4) (h55 : i ≠ 55) : (frontB d)[i]? = (frontB e)[i]? := by
 rw [front_set d, front_set e, List.getElem?_set_ne (fun q => h55 q.symm), List.getElem?_set_ne (fun q => h4 q.symm), List.getElem?_set_ne (fun q => h55 q.symm), List.getElem?_set_ne (fun q => h4 q.symm)]
theorem front_zero (d : UInt8) {i : Nat} (h : zeroAt i = true) : (frontB d)[i]? = some 0 := by
 have hlt : i < 83 := by unfold zeroAt at h; simp only [Bool.and_eq_true, decide_eq_true_eq] at h; exact h.2
 have h4 : i ≠ 4 ∧ i ≠ 55 := by
  unfold zeroAt at h
  simp only [Bool.and_eq_true, Bool.or_eq_true, decide_eq_true_eq] at h
  omega
 rw [front_same d 0 h4.1 h4.2]
 have key : ∀ k : Fin 83, zeroAt k.val = true → (frontB 0)[k.val]? = some 0 := by decide
 exact key ⟨i, hlt⟩ h
theorem front_four (d : UInt8) : (frontB d)[4]? = some d ∧ (frontB d)[55]? = some d := ⟨rfl, rfl⟩
theorem enc_at (x : Tab) (v u : Int) {i : Nat} (h4 : i ≠ 4) (h55 : i ≠ 55) : (encB x v)[i]? = (encB x u)[i]? := by
 rw [enc_front, enc_front, List.getElem?_append, List.getElem?_append, front_len, front_len, front_same _ (byt (48 + u)) h4 h55]
theorem enc_digit (x : Tab) (v : Int) : (encB x v)[4]? = some (byt (48 + v)) ∧ (encB x v)[55]? = some (byt (48 + v)) := by
 rw [enc_front, List.getElem?_append_left (by rw [front_len]; decide), List.getElem?_append_left (by rw [front_len]; decide)]
 exact front_four _
theorem enc_zero (x : Tab) (v : Int) {i : Nat} (h : zeroAt i = true) : (encB x v)[i]? = some 0 := by
 have hlt : i < 83 := by unfold zeroAt at h; simp only [Bool.and_eq_true, decide_eq_true_eq] at h; exact h.2
 rw [enc_front, List.getElem?_append_left (by rw [front_len]; exact hlt)]
 exact front_zero _ h
theorem enc_len (x : Tab) (v : Int) : (encB x v).length = 95 + 9 * x.trans.length + 6 * x.types.length + (poolT x).length + (x.foot.length + 2) := by
 have := (enc_pieces x v).at_len
 simp only [List.length_cons, List.length_append, List.length_nil] at this
 omega
theorem enc_vers {x y : Tab} {v u : Int} (hv : 0 ≤ v ∧ v ≤ 9) (hu : 0 ≤ u ∧ u ≤ 9) (h : encB x v = encB y u) : v = u := by
 have h1 := (enc_digit x v).1
 rw [h, (enc_digit y u).1] at h1
 have h2 := congrArg (fun c : Option UInt8 => (c.map (fun c => (c.toNat : Int))).getD 0) h1
 simp only [Option.map_some, Option.getD_some, byt_nat] at h2
 omega
end Go.Proofs.YtkpmmabdpeobaaaGreatDoor.Tz
namespace Go.Proofs.YtkpmmabdpeobaaaGreatDoor.Tz
open Px Tb
open Off (run past digQ)
end Go.Proofs.YtkpmmabdpeobaaaGreatDoor.Tz
namespace Go.Proofs.YtkpmmabdpeobaaaGreatDoor.Tz
open Px Tb
def hasB (x : Tab) (v : Int) (b : B) : Prop := checkE x = 0 ∧ versT x ≤ v ∧ v ≤ 4 ∧ encB x v = b
instance (x : Tab) (v : Int) (b : B) : Decidable (hasB x v b) := by unfold hasB; exact inferInstance
end Go.Proofs.YtkpmmabdpeobaaaGreatDoor.Tz
namespace Go.Proofs.YtkpmmabdpeobaaaGreatDoor.Tz
open Px Tb
theorem transGo_end {n : Int} {z : Tr} (hz : z.at' < -36028797018963968 ∨ 36028797018963968 < z.at') : ∀ (l : List Tr) (before most : Int) (last : Option Int), transGo n before most last l = 0 → transGo n before most last (l ++ [z]) = 3
 | [], before, most, last, _ => by
   rw [List.nil_append]
   unfold transGo
   rw [if_pos hz]
 | x :: r, before, most, last, h => by
   rw [List.cons_append]
   unfold transGo at h ⊢
   by_cases h1 : x.at' < -36028797018963968 ∨ 36028797018963968 < x.at'
   · rw [if_pos h1] at h; cases h
   rw [if_neg h1] at h ⊢
   by_cases h2 : behindQ last x.at' = true
   · rw [if_pos h2] at h; cases h
   rw [if_neg h2] at h ⊢
   by_cases h3 : x.ty < 0 ∨ n ≤ x.ty ∨ x.ty = before
   · rw [if_pos h3] at h; cases h
   rw [if_neg h3] at h ⊢
   by_cases h4 : most + 1 < x.ty
   · rw [if_pos h4] at h; cases h
   rw [if_neg h4] at h ⊢
   exact transGo_end hz r _ _ _ h
theorem spoil_0 (r : List Tr) (f : B) : checkE ⟨[], r, f⟩ ≠ 0 := by rw [check_types_is (E := 4) (by decide) (by decide)]; decide
theorem spoil_1 {l : Lc} {ts : List Lc} {r : List Tr} {f g : B} {q : List Tr} (h : checkE ⟨l :: ts, q, g⟩ = 0) {o : Int} (ho : 54000 < o) : checkE ⟨⟨o, l.dst, l.abbr⟩ :: ts, r, f⟩ ≠ 0 := by
 have h1 : typesE ([] ++ Lc.mk o l.dst l.abbr :: ts) = 3 := typesE_at (a := []) (l' := l) (right_types h) (by unfold lcE; rw [if_pos (.inr ho)]) (by decide)
 have h2 : checkE ⟨Lc.mk o l.dst l.abbr :: ts, r, f⟩ = 3 := check_types_is h1 (by decide)
 rw [h2]
 decide
theorem spoil_2 {l : Lc} {ts : List Lc} {r : List Tr} {f g : B} {q : List Tr} (h : checkE ⟨l :: ts, q, g⟩ = 0) {a : ByteArray} (ha : nameOk a.data.toList = false) : checkE ⟨⟨l.off, l.dst, a⟩ :: ts, r, f⟩ ≠ 0 := by
 have hl := (right_lc h l (List.mem_cons_self ..)).1
 have h1 : typesE ([] ++ Lc.mk l.off l.dst a :: ts) = 15 := typesE_at (a := []) (l' := l) (right_types h) (by unfold lcE; rw [if_neg (by dsimp only; omega), if_pos ha]) (by decide)
 have h2 : checkE ⟨Lc.mk l.off l.dst a :: ts, r, f⟩ = 15 := check_types_is h1 (by decide)
 rw [h2]
 decide
theorem spoil_3 {x : Tab} (h : checkE x = 0) {z : Tr} (hz : 36028797018963968 < z.at') (f : B) : checkE ⟨x.types, x.trans ++ [z], f⟩ ≠ 0 := by
 have h1 : transE ⟨x.types, x.trans ++ [z], f⟩ = 3 := transGo_end (.inr hz) x.trans 0 0 none (right_trans h)
 rw [check_trans_is (right_types h) h1 (by decide)]
 decide
theorem spoil_4 {x : Tab} (h : checkE x = 0) {f : B} (hf : (finG rfF f).2 ≠ 0) : checkE ⟨x.types, x.trans, f⟩ ≠ 0 := by
 have h1 := right_types h
 have h3 := right_trans h
 have h2 : transE ⟨x.types, x.trans, f⟩ = 0 := h3
 unfold checkE
 rw [if_neg (fun q => q h1), if_neg (fun q => q h2)]
 unfold footE
 rw [if_pos hf]
 exact hf
theorem spoil_5 {x : Tab} (h : checkE x = 0) (h30 : x.types.length ≤ 30) {l : Lc} (hl : l ∈ x.types) (r : List Tr) (f : B) : checkE ⟨x.types ++ [l], r, f⟩ ≠ 0 := by
 rw [check_types_is (E := 10) (typesE_twice (right_types h) h30 hl) (by decide)]
 decide
theorem foot_x : (finG rfF [120]).2 ≠ 0 := by
 have h : (finG rfF [120]).2 = 5 := by kernel_rfl
 rw [h]
 decide
theorem byt_digit {v : Int} (h0 : 0 ≤ v) (h9 : v ≤ 9) : ((byt (48 + v)).toNat : Int) = 48 + v := by
 rw [byt_nat]
 omega
end Go.Proofs.YtkpmmabdpeobaaaGreatDoor.Tz
namespace Go.Proofs.YtkpmmabdpeobaaaGreatDoor.Tz
theorem beN_at : ∀ (n : Nat) (x : Int) (i : Nat), i < n → (beN n x)[i]? = some (byt (x / 256 ^ (n - 1 - i)))
 | n + 1, x, 0, _ => by
   unfold beN
   rw [List.getElem?_cons_zero, Nat.add_sub_cancel, Nat.sub_zero]
 | n + 1, x, i + 1, h => by
   unfold beN
   rw [List.getElem?_cons_succ, beN_at n x i (by omega), show n + 1 - 1 - (i + 1) = n - 1 - i by omega]
theorem beN_take {n : Nat} {x : Int} {i : Nat} (h : i < n) : (beN n x).take (i + 1) = (beN n x).take i ++ [byt (x / 256 ^ (n - 1 - i))] := by
 rw [List.take_add_one, beN_at n x i h]
 rfl
theorem beN_all (n : Nat) (x : Int) : (beN n x).take n = beN n x := List.take_of_length_le (by rw [beN_len]; exact Nat.le_refl _)
def fits (n : Nat) (x : Int) : Prop := -(128 * 256 ^ (n - 1)) ≤ x ∧ x < 128 * 256 ^ (n - 1)
theorem fits_4 {x : Int} (h1 : -2147483648 ≤ x) (h2 : x < 2147483648) : fits 4 x := by unfold fits; omega
theorem fits_8 {x : Int} (h1 : -9223372036854775808 ≤ x) (h2 : x < 9223372036854775808) : fits 8 x := by unfold fits; omega
theorem fits_1 {x : Int} (h1 : -128 ≤ x) (h2 : x < 128) : fits 1 x := by unfold fits; omega
theorem quo_fits {n : Nat} (hn : n = 1 ∨ n = 4 ∨ n = 8) {x : Int} (h : fits n x) : x / 2 ^ (8 * n - 1) = 0 ∨ x / 2 ^ (8 * n - 1) = -1 := by
 unfold fits at h
 rcases hn with rfl | rfl | rfl
 · show x / 128 = 0 ∨ x / 128 = -1
   omega
 · show x / 2147483648 = 0 ∨ x / 2147483648 = -1
   omega
 · show x / 9223372036854775808 = 0 ∨ x / 9223372036854775808 = -1
   omega
theorem fits_64 {n : Nat} (hn : n = 1 ∨ n = 4 ∨ n = 8) {x : Int} (h : fits n x) : -9223372036854775808 ≤ x ∧ x ≤ 9223372036854775807 := by
 unfold fits at h
 rcases hn with rfl | rfl | rfl <;> omega
theorem pow_256 (k : Nat) : (2 : Int) ^ (8 * k) = 256 ^ k := by rw [Int.pow_mul]; rfl
theorem byt_mod {x y : Int} (h : x % 256 = y % 256) : byt x = byt y := by unfold byt; rw [h]
theorem beN1 (x : Int) : beN 1 x = [byt x] := by
 show [byt (x / 256 ^ 0)] = _
 rw [Int.pow_zero, Int.ediv_one]
theorem getG_snoc (x : Int) (l : B) (c : UInt8) : getG x (l ++ [c]) = getG x l * 256 + (c.toNat : Int) := by
 unfold getG
 rw [List.foldl_append]
 rfl
theorem getG_bd : ∀ (l : B) (x p : Int), -p ≤ x → x < p → 0 < p → -(p * 256 ^ l.length) ≤ getG x l ∧ getG x l < p * 256 ^ l.length
 | [], x, p, h1, h2, _ => by unfold getG; simp; omega
 | c :: r, x, p, h1, h2, h3 => by
   have e : getG x (c :: r) = getG (x * 256 + (c.toNat : Int)) r := rfl
   have hc := c.toNat_lt
   have ih := getG_bd r (x * 256 + (c.toNat : Int)) (p * 256) (by omega) (by omega) (by omega)
   rw [e, List.length_cons, Int.pow_succ, Int.mul_comm (256 ^ r.length) 256, ← Int.mul_assoc]
   exact ih
theorem sgn_bd (b : UInt8) : -128 ≤ sgn b ∧ sgn b < 128 := by
 have := b.toNat_lt
 unfold sgn
 split <;> omega
theorem sub_take {α : Type} (b : List α) (k n i : Nat) (h : i ≤ n) : (sub b k n).take i = sub b k i := by
 unfold sub
 rw [List.take_take, Nat.min_eq_left h]
end Go.Proofs.YtkpmmabdpeobaaaGreatDoor.Tz
