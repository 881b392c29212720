/- The functions of the reference that find fields, and its Fields, called with any line, return what fieldsL and fieldsE say; no block that was there changes. -/
import Derived.Test.YtjdckmhlgcjdgaaDoorLxR
import Derived.Test.YtjdckmhlgcjdgaaDoorLxQ
namespace Go.Proofs.YtjdckmhlgcjdgaaDoor.Lx
open Go.RowKit
open Lex (strV bytesOf fieldsGo fieldsL fieldsE printB)

theorem plain_any (c : UInt8) (w : World) :
    Calls Tryd.prog 32 #[.int .u8 (c.toNat : Int)] w fun e w' => e = .returned (.bool (plainB c.toNat)) ∧ w = w' := by
  have hc : (c.toNat : Int) ≤ 255 := by have := c.toNat_lt; omega
  go_enter Tryd.func32, Tryd.ntmps32
  go_wp2
  all_goals go_ret
  all_goals refine ⟨Lex.ret_bool ?_, rfl⟩
  all_goals (unfold plainB; rw [Bool.eq_iff_iff]; simp; omega)
theorem plain_is (b : Bool) (c : UInt8) (w : World) (h : plainB c.toNat = b) :
    Calls Tryd.prog 32 #[.int .u8 (c.toNat : Int)] w fun e w' => e = .returned (.bool b) ∧ w = w' := by
  have := plain_any c w; rw [h] at this; exact this

/-- what quoted and field hand back -/
def partV (s : ByteArray) : Option (List UInt8 × List UInt8) → Value
  | none => .tuple #[.string ⟨#[]⟩, .int .i64 0, .bool false]
  | some (p, t) => .tuple #[.string (bytesOf p), .int .i64 ((s.size : Int) - (t.length : Int)), .bool true]
def PartPost (s : ByteArray) (R : Option (List UInt8 × List UInt8)) (w : World) (e : Ending) (w' : World) : Prop := e = .returned (partV s R) ∧ w = w'
theorem part_none {s : ByteArray} {R : Option (List UInt8 × List UInt8)} {w : World} (h : R = none) : PartPost s R w (.returned (.tuple #[.string ⟨#[]⟩, .int .i64 0, .bool false])) w := by
  subst h; exact ⟨rfl, rfl⟩
theorem part_some {s x : ByteArray} {R : Option (List UInt8 × List UInt8)} {w : World} {n : Int} (p t : List UInt8) (h : R = some (p, t)) (hx : x.data.toList = p) (hn : n = (s.size : Int) - (t.length : Int)) :
    PartPost s R w (.returned (.tuple #[.string x, .int .i64 n, .bool true])) w := by
  subst h hn
  rw [bytesOf_eq hx]
  exact ⟨rfl, rfl⟩

theorem q2_at (s : ByteArray) (k : Nat) (h : k < s.size) (acc : List UInt8) : q2 (s.data.toList.drop k) acc = if printB s[k].toNat = true then (if s[k].toNat = 34 then some (acc, s.data.toList.drop (k + 1)) else q2 (s.data.toList.drop (k + 1)) (acc ++ [s[k]])) else none := by
  rw [Lex.drop_at s k h, q2]
theorem q2_end (s : ByteArray) (k : Nat) (h : s.size ≤ k) (acc : List UInt8) : q2 (s.data.toList.drop k) acc = none := by
  rw [Lex.drop_end s k h]; rfl
theorem drop_len (s : ByteArray) (k : Nat) (h : k ≤ s.size) : ((s.data.toList.drop k).length : Int) = (s.size : Int) - (k : Int) := by
  rw [List.length_drop, Lex.len_eq]; omega

set_option maxHeartbeats 1000000 in
theorem quoted_any (s : ByteArray) (hs : s.size ≤ maxLen) (i : Nat) (hi : i ≤ s.size) (z : Int) (hz : z = i) (R : Option (List UInt8 × List UInt8)) (hR : q2 (s.data.toList.drop i) [] = R) (w : World) :
    Calls Tryd.prog 46 #[.string s, .int .i64 z] w (PartPost s R w) := by
  subst hz
  unfold maxLen at hs
  have HR := Lib.hid hR
  clear hR
  go_enter Tryd.func46, Tryd.ntmps46
  go_wp2
  go_loop [7] (fun j => ∃ k : Nat, i ≤ k ∧ k ≤ s.size ∧ j = .int .i64 k ∧ Hid (q2 (s.data.toList.drop k) (cutL s.data.toList i k) = R)) (fun j => s.size - (intOf j).toNat)
  case atStart => exact ⟨i, by omega, hi, rfl, Lib.hid (by rw [cutL_same]; exact HR.out)⟩
  case round =>
    obtain ⟨k, hik, hk, rfl, HQ⟩ := hrel
    by_cases hlt : k < s.size
    · have hq := HQ.out
      rw [q2_at s k hlt] at hq
      have hc255 : (s[k].toNat : Int) ≤ 255 := by have := s[k].toNat_lt; omega
      cases hp : printB s[k].toNat
      · rw [hp, if_neg (by simp)] at hq
        have HN := Lib.hid hq
        have h2 : s[k].toNat < 32 ∨ 126 < s[k].toNat := by unfold printB at hp; simp at hp; omega
        clear hq hp
        rcases h2 with h2 | h2
        · have h3 : (s[k].toNat : Int) < 32 := by omega
          go_wp2
          go_ret3
          exact part_none HN.out.symm
        · have h3 : (126 : Int) < (s[k].toNat : Int) := by omega
          have h4 : (32 : Int) ≤ (s[k].toNat : Int) := by omega
          go_wp2
          go_ret3
          exact part_none HN.out.symm
      · rw [hp, if_pos rfl] at hq
        have h2 : 32 ≤ s[k].toNat ∧ s[k].toNat ≤ 126 := by unfold printB at hp; simp at hp; omega
        have h3 : (32 : Int) ≤ (s[k].toNat : Int) := by omega
        have h4 : (s[k].toNat : Int) ≤ 126 := by omega
        have hiki : (i : Int) ≤ (k : Int) := by omega
        have hki : (k : Int) ≤ (s.size : Int) := by omega
        by_cases c34 : s[k].toNat = 34
        · rw [if_pos c34] at hq
          have HN := Lib.hid hq
          have t34 : ((s[k].toNat : Int) == 34) = true := by rw [c34]; rfl
          clear hq hp c34 h2
          go_wp2
          go_ret3
          refine part_some _ _ HN.out.symm (ext_list s i k) ?_
          rw [drop_len s (k + 1) (by omega)]
          omega
        · rw [if_neg c34] at hq
          have HN := Lib.hid hq
          have t34 : ((s[k].toNat : Int) == 34) = false := by rw [beq_eq_false_iff_ne]; omega
          clear hq hp c34 h2
          go_wp2
          go_round
          case rel => exact ⟨k + 1, by omega, by omega, by go_num, Lib.hid (by rw [cutL_snoc s i k hik hlt]; exact HN.out)⟩
          case measure => simp [intOf]; omega
    · have hq := HQ.out
      rw [q2_end s k (by omega)] at hq
      have HN := Lib.hid hq
      clear hq
      go_wp2
      go_ret3
      exact part_none HN.out.symm

theorem q2_suffix (r acc p t : List UInt8) (h : q2 r acc = some (p, t)) : t <:+ r := by
  induction r generalizing acc with
  | nil => simp [q2] at h
  | cons c u ih =>
    simp only [q2] at h
    split at h
    · split at h
      · injection h with h
        injection h with h1 h2
        subst h2
        exact List.suffix_cons c u
      · exact (ih _ h).trans (List.suffix_cons c u)
    · cases h
theorem fld_suffix (r cur : List UInt8) (quo : Bool) (p t : List UInt8) (h : fld r cur quo = some (p, t)) : t <:+ r := by
  induction r generalizing cur quo with
  | nil =>
    simp only [fld] at h
    cases quo
    · simp at h
      obtain ⟨_, h2⟩ := h
      subst h2
      exact List.nil_suffix
    · simp at h
  | cons c u ih =>
    simp only [fld] at h
    cases quo
    · simp only [Bool.false_eq_true, if_false] at h
      split at h
      · exact (ih _ _ h).trans (List.suffix_cons c u)
      · split at h
        · exact (ih _ _ h).trans (List.suffix_cons c u)
        · injection h with h
          injection h with h1 h2
          subst h2
          exact List.suffix_rfl
    · simp only [if_true] at h
      split at h
      · exact (ih _ _ h).trans (List.suffix_cons c u)
      · split at h
        · exact (ih _ _ h).trans (List.suffix_cons c u)
        · cases h
theorem suffix_at (s : ByteArray) (k : Nat) (t : List UInt8) (h : t <:+ s.data.toList.drop k) : t = s.data.toList.drop (s.size - t.length) ∧ t.length ≤ s.size - k := by
  have h1 : t <:+ s.data.toList := h.trans (List.drop_suffix k _)
  have h2 := List.suffix_iff_eq_drop.1 h1
  rw [Lex.len_eq] at h2
  have h3 := h.length_le
  rw [List.length_drop, Lex.len_eq] at h3
  exact ⟨h2, h3⟩

theorem fld_at (s : ByteArray) (k : Nat) (h : k < s.size) (cur : List UInt8) : fld (s.data.toList.drop k) cur false =
    if plainB s[k].toNat = true then fld (s.data.toList.drop (k + 1)) (cur ++ [s[k]]) false else if s[k].toNat = 34 then fld (s.data.toList.drop (k + 1)) cur true else some (cur, s.data.toList.drop k) := by
  rw [Lex.drop_at s k h, fld]; simp
theorem fld_end (s : ByteArray) (k : Nat) (h : s.size ≤ k) (cur : List UInt8) : fld (s.data.toList.drop k) cur false = some (cur, []) := by
  rw [Lex.drop_end s k h]; rfl
theorem one_byte (s : ByteArray) (k : Nat) (h : k < s.size) : (s.extract k (k + 1)).data.toList = [s[k]] := by
  have := cutL_snoc s k k (Nat.le_refl _) h
  rw [ext_list]
  rw [cutL_same] at this
  exact this
theorem app_list (a b : ByteArray) : (a ++ b).data.toList = a.data.toList ++ b.data.toList := by rw [ByteArray.data_append, Array.toList_append]

set_option maxHeartbeats 2000000 in
theorem field_any (s : ByteArray) (hs : s.size ≤ maxLen) (i : Nat) (hi : i ≤ s.size) (R : Option (List UInt8 × List UInt8)) (hR : fld (s.data.toList.drop i) [] false = R) (w : World) :
    Calls Tryd.prog 33 #[.string s, .int .i64 i] w (PartPost s R w) := by
  have HS := Lib.hid hs
  unfold maxLen at hs
  have HR := Lib.hid hR
  clear hR
  go_enter Tryd.func33, Tryd.ntmps33
  go_wp2
  go_loop [1, 7] (fun j x => ∃ (k : Nat) (y : ByteArray), k ≤ s.size ∧ j = .int .i64 k ∧ x = .string y ∧ y.size ≤ k ∧ Hid (fld (s.data.toList.drop k) y.data.toList false = R)) (fun j _ => s.size - (intOf j).toNat)
  case atStart => exact ⟨i, ⟨#[]⟩, hi, rfl, rfl, Nat.zero_le _, HR⟩
  case round =>
    obtain ⟨k, y, hk, rfl, rfl, hy, HQ⟩ := hrel
    by_cases hlt : k < s.size
    · have hq := HQ.out
      rw [fld_at s k hlt] at hq
      have hki : (k : Int) < (s.size : Int) := by omega
      cases hp : plainB s[k].toNat
      · have CP := Lib.hid (plain_is false s[k] w hp)
        rw [hp, if_neg (by simp)] at hq
        by_cases c34 : s[k].toNat = 34
        · rw [if_pos c34] at hq
          have t34 : ((s[k].toNat : Int) == 34) = true := by rw [c34]; rfl
          obtain ⟨Q, hQ⟩ : ∃ Q, q2 (s.data.toList.drop (k + 1)) [] = Q := ⟨_, rfl⟩
          have CQ := Lib.hid (quoted_any s HS.out (k + 1) (by omega) ((k : Int) + 1) (by simp) Q hQ w)
          clear hp c34
          cases Q with
          | none =>
            rw [fld_none _ hQ] at hq
            have HN := Lib.hid hq
            clear hq hQ
            go_wp2_with fail
            refine CP.out.mono ?_
            rintro e V1 ⟨rfl, rfl⟩
            go_wp2_with fail
            refine CP.out.mono ?_
            rintro e V1 ⟨rfl, rfl⟩
            go_wp2_with fail
            refine CQ.out.mono ?_
            rintro e V1 ⟨rfl, rfl⟩
            unfold partV
            go_wp2
            go_ret3
            exact part_none HN.out.symm
          | some pt =>
            obtain ⟨p, t⟩ := pt
            rw [fld_some _ hQ] at hq
            obtain ⟨ht1, ht2⟩ := suffix_at s (k + 1) t (q2_suffix _ _ _ _ hQ)
            have HN := Lib.hid hq
            have HT := Lib.hid ht1
            have hql := q2_len _ _ _ _ hQ
            rw [List.length_drop, Lex.len_eq] at hql
            have hcat : ¬ 9223372036854775807 < y.size + (bytesOf p).size := by rw [bytesOf_size]; simp at hql; omega
            have HQL := Lib.hid hql
            clear hq hQ ht1 hql
            go_wp2_with fail
            refine CP.out.mono ?_
            rintro e V1 ⟨rfl, rfl⟩
            go_wp2_with fail
            refine CP.out.mono ?_
            rintro e V1 ⟨rfl, rfl⟩
            go_wp2_with fail
            refine CQ.out.mono ?_
            rintro e V1 ⟨rfl, rfl⟩
            unfold partV
            go_wp2
            go_round
            case rel => exact ⟨s.size - t.length, y ++ bytesOf p, by omega, by congr 1; omega, rfl, by have := HQL.out; rw [ByteArray.size_append, bytesOf_size]; simp at this; omega, Lib.hid (by rw [← HT.out, app_list]; exact HN.out)⟩
            case measure => simp [intOf]; omega
        · rw [if_neg c34] at hq
          have HN := Lib.hid hq
          have t34 : ((s[k].toNat : Int) == 34) = false := by rw [beq_eq_false_iff_ne]; omega
          clear hq hp c34
          go_wp2_with fail
          refine CP.out.mono ?_
          rintro e V1 ⟨rfl, rfl⟩
          go_wp2
          go_ret3
          exact part_some _ _ HN.out.symm rfl (by rw [drop_len s k hk]; omega)
      · have CP := Lib.hid (plain_is true s[k] w hp)
        rw [hp, if_pos rfl] at hq
        have HN := Lib.hid hq
        have hcat : ¬ 9223372036854775807 < y.size + (min (k + 1) s.size - k) := by omega
        clear hq hp
        go_wp2_with fail
        refine CP.out.mono ?_
        rintro e V1 ⟨rfl, rfl⟩
        go_wp2_with fail
        refine CP.out.mono ?_
        rintro e V1 ⟨rfl, rfl⟩
        go_wp2
        go_round
        case rel => exact ⟨k + 1, y ++ s.extract k (k + 1), by omega, by go_num, rfl, by rw [ByteArray.size_append, ByteArray.size_extract]; omega, Lib.hid (by rw [app_list, one_byte s k hlt]; exact HN.out)⟩
        case measure => simp [intOf]; omega
    · have hq := HQ.out
      rw [fld_end s k (by omega)] at hq
      have HN := Lib.hid hq
      have hke : k = s.size := by omega
      subst hke
      clear hq
      go_wp2
      go_ret3
      exact part_some _ _ HN.out.symm rfl (by simp)

/-- the state of the loop of Fields at a byte -/
structure AtField (s : ByteArray) (R : Option (List (List UInt8))) (k : Nat) (out : List (List UInt8)) (v4 : Value) (w wr : World) : Prop where
  rest : fieldsGo (s.data.toList.drop k) out [] false false = R
  few : out.length ≤ k
  outs : wr.ownsRow w.heap.size 9 1 v4 out.length (out.map strV)
  below : Below w.heap.size w wr
theorem AtField.same {s : ByteArray} {R : Option (List (List UInt8))} {k : Nat} {out : List (List UInt8)} {v4 : Value} {w wr : World} (h : AtField s R k out v4 w wr) (hr : fieldsGo (s.data.toList.drop (k + 1)) out [] false false = R) : AtField s R (k + 1) out v4 w wr :=
  ⟨hr, by have := h.few; omega, h.outs, h.below⟩
theorem AtField.push {s : ByteArray} {R : Option (List (List UInt8))} {k k' : Nat} {out : List (List UInt8)} {v4 v' : Value} {w wr w1 : World} {o : Obj} {f : List UInt8} (h : AtField s R k out v4 w wr) (hk : k < k') (hr : fieldsGo (s.data.toList.drop k') (out ++ [f]) [] false false = R)
    (hown : w1.ownsRow w.heap.size 9 1 v' (out.length + 1) (out.map strV ++ [strV f])) (hg : (wr.alloc o).grownBy w1 v4.ownBlock) : AtField s R k' (out ++ [f]) v' w w1 := by
  have hz := h.below.size
  exact ⟨hr, by have := h.few; simp; omega, by simpa using hown, (h.below.alloc hz o).grown hg (by simp; omega) (fun b hb => ((h.outs.alloc o).lt b hb).1)⟩
theorem go_at (s : ByteArray) (k : Nat) (h : k < s.size) (out : List (List UInt8)) : fieldsGo (s.data.toList.drop k) out [] false false =
    if s[k].toNat = 35 then some out else if s[k].toNat = 9 ∨ s[k].toNat = 32 then fieldsGo (s.data.toList.drop (k + 1)) out [] false false
    else if plainB s[k].toNat = true ∨ s[k].toNat = 34 then (match fld (s.data.toList.drop k) [] false with | none => none | some (f, t) => fieldsGo t (out ++ [f]) [] false false) else none := by
  rw [Lex.drop_at s k h]
  by_cases h35 : s[k].toNat = 35
  · rw [if_pos h35, Lex.go_not, if_neg (by omega), if_pos h35]; rfl
  · rw [if_neg h35]
    by_cases h9 : s[k].toNat = 9 ∨ s[k].toNat = 32
    · rw [if_pos h9, Lex.go_not, if_neg (by omega), if_neg h35, if_pos h9]; rfl
    · rw [if_neg h9]
      by_cases hp : plainB s[k].toNat = true ∨ s[k].toNat = 34
      · rw [if_pos hp]; exact go_first _ _ _ hp
      · rw [if_neg hp, Lex.go_not, if_neg (fun e => hp (.inr e)), if_neg h35, if_neg h9, if_neg]
        intro hpr
        apply hp
        unfold plainB
        unfold printB at hpr
        simp at hpr ⊢
        omega
theorem fld_short (s : ByteArray) (k : Nat) (h : k < s.size) (hp : plainB s[k].toNat = true ∨ s[k].toNat = 34) (f t : List UInt8) (hf : fld (s.data.toList.drop k) [] false = some (f, t)) :
    t = s.data.toList.drop (s.size - t.length) ∧ k < s.size - t.length := by
  have h1 : t <:+ s.data.toList.drop (k + 1) := by
    rw [fld_at s k h] at hf
    by_cases hb : plainB s[k].toNat = true
    · rw [if_pos hb] at hf
      exact fld_suffix _ _ _ _ _ hf
    · rw [if_neg hb] at hf
      have h34 : s[k].toNat = 34 := by rcases hp with h | h; exact absurd h hb; exact h
      rw [if_pos h34] at hf
      exact fld_suffix _ _ _ _ _ hf
  obtain ⟨e, h2⟩ := suffix_at s (k + 1) t h1
  exact ⟨e, by omega⟩

set_option maxHeartbeats 4000000 in
set_option maxRecDepth 100000 in
theorem refFields_go (s : ByteArray) (hs : s.size ≤ 300) (R : Option (List (List UInt8))) (hR : fieldsGo s.data.toList [] [] false false = R) (w : World) :
    Calls Tryd.prog 19 #[.string s] w (Lex.FieldsPost R w) := by
  obtain ⟨i9, hi9, hz90, hz91, hz92⟩ := info_parts Lex.info9
  have HR := Lib.hid hR
  clear hR
  go_enter Tryd.func19, Tryd.ntmps19
  go_wp2
  go_loopw [4, 5] (fun v4 i wr => ∃ (k : Nat) (out : List (List UInt8)), k ≤ s.size ∧ i = .int .i64 k ∧ AtField s R k out v4 w wr) (fun _ i _ => s.size - (intOf i).toNat)
  case atStart => exact ⟨0, [], by omega, rfl, HR.out, by simp, World.ownsRow_nil _ _ _ _, Below.refl _ _⟩
  case round =>
    obtain ⟨k, out, hk, rfl, hA⟩ := hrel
    have HA := Lib.hid hA
    clear hA
    by_cases hlt : k < s.size
    · have hq := HA.out.rest
      rw [go_at s k hlt] at hq
      have hki : (k : Int) < (s.size : Int) := by omega
      by_cases c35 : s[k].toNat = 35
      · rw [if_pos c35] at hq
        have HN := Lib.hid hq
        have t35 : ((s[k].toNat : Int) != 35) = false := by rw [c35]; rfl
        clear hq c35
        go_wp2
        go_ret2
        exact Lex.post_some out HN.out.symm HA.out.outs HA.out.below
      rw [if_neg c35] at hq
      have t35 : ((s[k].toNat : Int) != 35) = true := by rw [bne_iff_ne]; omega
      by_cases c9 : s[k].toNat = 9 ∨ s[k].toNat = 32
      · rw [if_pos c9] at hq
        have HN := Lib.hid hq
        clear hq c35
        by_cases c32 : s[k].toNat = 32
        · have t32 : ((s[k].toNat : Int) == 32) = true := by rw [c32]; rfl
          clear c9 c32
          go_wp2
          go_roundw
          case rel => exact ⟨k + 1, out, by omega, by go_num, HA.out.same HN.out⟩
          case measure => simp [intOf]; omega
        · have t32 : ((s[k].toNat : Int) == 32) = false := by rw [beq_eq_false_iff_ne]; omega
          have t9 : ((s[k].toNat : Int) == 9) = true := by rw [beq_iff_eq]; omega
          clear c9 c32
          go_wp2
          go_roundw
          case rel => exact ⟨k + 1, out, by omega, by go_num, HA.out.same HN.out⟩
          case measure => simp [intOf]; omega
      rw [if_neg c9] at hq
      have t32 : ((s[k].toNat : Int) == 32) = false := by rw [beq_eq_false_iff_ne]; omega
      have t9 : ((s[k].toNat : Int) == 9) = false := by rw [beq_eq_false_iff_ne]; omega
      clear c9 c35
      by_cases hp : plainB s[k].toNat = true ∨ s[k].toNat = 34
      · rw [if_pos hp] at hq
        obtain ⟨F, hF⟩ : ∃ F, fld (s.data.toList.drop k) [] false = F := ⟨_, rfl⟩
        have CF := Lib.hid (fun V : World => field_any s (by unfold maxLen; omega) k hk F hF V)
        rw [hF] at hq
        have t34 : plainB s[k].toNat = false → ((s[k].toNat : Int) != 34) = false := by
          intro h
          rcases hp with h' | h'
          · rw [h] at h'; cases h'
          · rw [h']; rfl
        obtain ⟨b, hb⟩ : ∃ b, plainB s[k].toNat = b := ⟨_, rfl⟩
        have CP := Lib.hid (fun V : World => plain_is b s[k] V hb)
        have HP := Lib.hid hp
        rw [hb] at t34
        clear hp hb
        cases F with
        | none =>
          have HN := Lib.hid (show none = R from hq)
          clear hq hF
          cases b
          · have t34' := t34 rfl
            clear t34
            go_wp2_with fail
            refine (CP.out _).mono ?_
            rintro e V1 ⟨rfl, rfl⟩
            go_wp2_with fail
            refine (CF.out _).mono ?_
            rintro e V1 ⟨rfl, rfl⟩
            unfold partV
            go_wp2
            go_ret2
            obtain rfl := HN.out
            exact Lex.post_none HA.out.below
          · clear t34
            go_wp2_with fail
            refine (CP.out _).mono ?_
            rintro e V1 ⟨rfl, rfl⟩
            go_wp2_with fail
            refine (CF.out _).mono ?_
            rintro e V1 ⟨rfl, rfl⟩
            unfold partV
            go_wp2
            go_ret2
            obtain rfl := HN.out
            exact Lex.post_none HA.out.below
        | some ft =>
          obtain ⟨f, t⟩ := ft
          have HN := Lib.hid (show fieldsGo t (out ++ [f]) [] false false = R from hq)
          have HT := Lib.hid (fld_short s k hlt HP.out f t hF).1
          have hk2 := (fld_short s k hlt HP.out f t hF).2
          clear hq hF
          cases b
          · have t34' := t34 rfl
            clear t34
            go_wp2_with fail
            refine (CP.out _).mono ?_
            rintro e V1 ⟨rfl, rfl⟩
            go_wp2_with fail
            refine (CF.out _).mono ?_
            rintro e V1 ⟨rfl, rfl⟩
            unfold partV
            go_wp2_with (at_builtin; refine wpList_append_own _ rfl _ _ 23 rfl w.heap.size 9 i9 (.string ⟨#[]⟩) 1 16 Tryd.underlying23 hi9 hz90 hz91 hz92 rfl (by decide) u4 out.length (out.map strV) rfl (HA.out.outs.alloc _) ⟨wr.heap.size, 0, none⟩ 1 1 [strV f] rfl rfl ?g1 ?g2 ?g3 ?g4 ?g5 ?_; (case g1 => exact cell_one_new _ _ _); (case g2 => simp [Value.oneCell', strV]); (case g3 => have := HA.out.few; unfold maxLen; omega); (case g4 => have := HA.out.few; omega); (case g5 => have := HA.out.below.size; simp; omega); intro v' w1 hown' hgrow _; have HO := Lib.hid hown'; have HG := Lib.hid hgrow; clear hown' hgrow)
            go_roundw
            case rel => exact ⟨s.size - t.length, out ++ [f], by omega, by congr 1; omega, HA.out.push hk2 (by rw [← HT.out]; exact HN.out) HO.out HG.out⟩
            case measure => simp [intOf]; omega
          · clear t34
            go_wp2_with fail
            refine (CP.out _).mono ?_
            rintro e V1 ⟨rfl, rfl⟩
            go_wp2_with fail
            refine (CF.out _).mono ?_
            rintro e V1 ⟨rfl, rfl⟩
            unfold partV
            go_wp2_with (at_builtin; refine wpList_append_own _ rfl _ _ 23 rfl w.heap.size 9 i9 (.string ⟨#[]⟩) 1 16 Tryd.underlying23 hi9 hz90 hz91 hz92 rfl (by decide) u4 out.length (out.map strV) rfl (HA.out.outs.alloc _) ⟨wr.heap.size, 0, none⟩ 1 1 [strV f] rfl rfl ?g1 ?g2 ?g3 ?g4 ?g5 ?_; (case g1 => exact cell_one_new _ _ _); (case g2 => simp [Value.oneCell', strV]); (case g3 => have := HA.out.few; unfold maxLen; omega); (case g4 => have := HA.out.few; omega); (case g5 => have := HA.out.below.size; simp; omega); intro v' w1 hown' hgrow _; have HO := Lib.hid hown'; have HG := Lib.hid hgrow; clear hown' hgrow)
            go_roundw
            case rel => exact ⟨s.size - t.length, out ++ [f], by omega, by congr 1; omega, HA.out.push hk2 (by rw [← HT.out]; exact HN.out) HO.out HG.out⟩
            case measure => simp [intOf]; omega
      · rw [if_neg hp] at hq
        have hb : plainB s[k].toNat = false := by
          cases h : plainB s[k].toNat
          · rfl
          · exact absurd (.inl h) hp
        have t34 : ((s[k].toNat : Int) != 34) = true := by rw [bne_iff_ne]; exact fun e => hp (.inr (by omega))
        have CP := Lib.hid (fun V : World => plain_is false s[k] V hb)
        have HN := Lib.hid hq
        clear hq hp hb
        go_wp2_with fail
        refine (CP.out _).mono ?_
        rintro e V1 ⟨rfl, rfl⟩
        go_wp2
        go_ret2
        obtain rfl := HN.out
        exact Lex.post_none HA.out.below
    · have hq := HA.out.rest
      rw [Lex.drop_end s k (by omega)] at hq
      have HN := Lib.hid (show some out = R from hq)
      have hke : k = s.size := by omega
      subst hke
      clear hq
      go_wp2
      go_ret2
      exact Lex.post_some out HN.out.symm HA.out.outs HA.out.below

/-- what Fields hands back: the fields, and the error -/
def FieldsRet (l : List UInt8) (w : World) (e : Ending) (w' : World) : Prop :=
  ∃ v : Value, e = .returned (.tuple #[v, .int .i64 (fieldsE l)]) ∧ StrsV w' v (fieldsL l) ∧ Below w.heap.size w w'
theorem fields_any (s : ByteArray) (hs : s.size ≤ maxLen) (w : World) : Calls Tryd.prog 16 #[.string s] w (FieldsRet s.data.toList w) := by
  refine (Lex.fields_any s hs w).mono ?_
  rintro e V ⟨v, rfl, h, hB⟩
  exact ⟨v, rfl, StrsV.of_own h, hB⟩
theorem refFields_any (s : ByteArray) (hs : s.size ≤ maxLen) (w : World) : Calls Tryd.prog 19 #[.string s] w (FieldsRet s.data.toList w) := by
  unfold maxLen at hs
  by_cases hbig : 300 < s.size
  · have e1 : fieldsE s.data.toList = 6 := by unfold fieldsE; rw [if_pos (by rw [Lex.len_eq]; exact hbig)]
    have e2 : fieldsL s.data.toList = [] := by unfold fieldsL; rw [if_pos (by rw [Lex.len_eq]; exact hbig)]
    have HF := Lib.hid (show FieldsRet s.data.toList w (.returned (.tuple #[.slice none 0 0, .int .i64 6])) w by
      unfold FieldsRet
      rw [e1, e2]
      exact ⟨_, rfl, StrsV.nil _, Below.refl _ _⟩)
    have hbi : (300 : Int) < (s.size : Int) := by omega
    clear e1 e2
    go_enter Tryd.func19, Tryd.ntmps19
    go_wp2
    go_ret2
    exact HF.out
  · refine (refFields_go s (by omega) _ rfl w).mono ?_
    rintro e V ⟨v, rfl, h, hB⟩
    unfold FieldsRet fieldsE fieldsL
    rw [if_neg (by rw [Lex.len_eq]; exact hbig), if_neg (by rw [Lex.len_eq]; exact hbig)]
    exact ⟨v, rfl, StrsV.of_own h, hB⟩
end Go.Proofs.YtjdckmhlgcjdgaaDoor.Lx
