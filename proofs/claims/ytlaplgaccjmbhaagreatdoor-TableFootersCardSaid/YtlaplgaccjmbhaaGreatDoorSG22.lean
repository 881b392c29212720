/- The functions copyCheck, WriteByte and WriteString of a strings.Builder that the call itself has made: what they leave. Numbers in the texts of tables: analemmaref04.Decimal at any number, analemmaref40.number. The texts of tables, plain: their lines and their lengths; the document's string is the same. No program in sight. The function table.line: words written as a line to a builder. -/
import Derived.Test.YtlaplgaccjmbhaaGreatDoorRows
import Derived.Test.YtlaplgaccjmbhaaGreatDoorSShelf
import Derived.WalkKit
import Derived.WalkSpells
import Derived.WalkLawsBesides
import Derived.Lib.Hide
import Derived.Lib.Builder
import Derived.Shelf.Strings.Builder1
import Derived.Shelf.Strings.BuilderX
import Derived.Test.YtlaplgaccjmbhaaGreatDoorSG7
import Derived.Lib.ItoaLen
import Derived.Test.YtlaplgaccjmbhaaGreatDoorSG19
import Derived.Test.YtlaplgaccjmbhaaGreatDoorSG1
import Derived.Lib.Join
namespace Go.Proofs.YtlaplgaccjmbhaaGreatDoor.Lx
open Go.RowKit Go.Shelf
theorem sizeB : (Tryz.prog.info? 118).map (·.size) = some 2 := by kernel_rfl
theorem liesB : liesAt Tryz.prog Tryz.prog.depth 118 (2 / Tryz.prog.cellsOf 118) 0 118 1 = true := by kernel_rfl
theorem infoByte : (Tryz.prog.info? 5).map (fun i => (i.zero, i.size, i.bytes)) = some (some (.int .u8 0), 1, 1) := by kernel_rfl
set_option maxHeartbeats 1000000 in
set_option maxRecDepth 100000 in
theorem copyCheck_fresh (b : Nat) (w : World) (h0 : w.cell? ⟨b, 0, none⟩ = some (.pointer none)) (hsh : w.shape? b = some (118, 2)) (hfz : w.frozen? ⟨b, 0, none⟩ = false) :
    Calls Tryz.prog 127 #[.pointer (some ⟨b, 0, none⟩)] w fun e w' => e = .returned (.tuple #[]) ∧ w' = w.setCell ⟨b, 0, none⟩ (.pointer (some ⟨b, 0, none⟩)) := by
  obtain ⟨j, hj, hjs⟩ := Option.map_eq_some_iff.1 sizeB
  go_enter Tryz.func127, Tryz.ntmps127
  go_wp2
  rw [Lib.run_to_unsafe w ⟨b, 0, none⟩ Tryz.underlying116 Tryz.underlying203 hj (by rw [hjs]; decide) hsh (Nat.zero_lt_succ 1)]
  simp only [Result.andThen]
  rw [Oper.upon_value]
  go_wp2
  rw [run_callFunc_extern Tryz.func165 (by kernel_rfl) (by kernel_rfl) (by kernel_rfl) (e := Extern.AbiNoEscape.same) (by kernel_rfl)]
  rw [Lib.run_noEscape]
  simp only [Result.andThen]
  rw [Oper.upon_value]
  go_wp2
  rw [Lib.run_from_unsafe w ⟨b, 0, none⟩ Tryz.underlying203 Tryz.underlying116 hj hsh liesB]
  simp only [Result.andThen]
  rw [Oper.upon_value]
  go_wp2
  go_end0
  exact ⟨rfl, rfl⟩
set_option maxHeartbeats 1000000 in
set_option maxRecDepth 100000 in
theorem copyCheck_used (b : Nat) (w : World) (h0 : w.cell? ⟨b, 0, none⟩ = some (.pointer (some ⟨b, 0, none⟩))) :
    Calls Tryz.prog 127 #[.pointer (some ⟨b, 0, none⟩)] w fun e w' => e = .returned (.tuple #[]) ∧ w' = w := by
  obtain ⟨j, hj, _⟩ := Option.map_eq_some_iff.1 sizeB
  go_enter Tryz.func127, Tryz.ntmps127
  go_wp2
  rw [Lib.run_neq_ptr_same w _ Tryz.underlying116 hj]
  go_wp2
  go_end0
  exact ⟨rfl, rfl⟩
theorem copyCheck_is (B b : Nat) (bs : List Value) (w : World) (h : Lib.IsBuilder 118 5 B b bs w) :
    Calls Tryz.prog 127 #[.pointer (some ⟨b, 0, none⟩)] w fun e w' => e = .returned (.tuple #[]) ∧ Lib.BuilderAt 118 5 B b (.pointer (some ⟨b, 0, none⟩)) bs w' ∧ Below B w w' := by
  rcases h with h | h
  · refine (copyCheck_fresh b w h.cell0 h.shape h.frozen0).mono ?_
    rintro e w' ⟨rfl, rfl⟩
    exact ⟨rfl, h.used _, (Below.refl B w).setCell (p := ⟨b, 0, none⟩) h.1 _⟩
  · refine (copyCheck_used b w h.cell0).mono ?_
    rintro e w' ⟨rfl, rfl⟩
    exact ⟨rfl, h, Below.refl B _⟩
theorem neB5 : (118 : TypeId) ≠ 5 := by decide
set_option maxHeartbeats 2000000 in
set_option maxRecDepth 100000 in
/-- WriteByte; the new length takes at most 2^47 bytes. -/
theorem writeByte_is (B b : Nat) (bs : List Value) (c : Int) (w : World) (h : Lib.IsBuilder 118 5 B b bs w) (hlen : bs.length + 1 ≤ 140737488355328) (hBw : B ≤ w.heap.size) :
    Calls Tryz.prog 113 #[.pointer (some ⟨b, 0, none⟩), .int .u8 c] w fun e w' => e = .returned .nilIface ∧ Lib.BuilderAt 118 5 B b (.pointer (some ⟨b, 0, none⟩)) (bs ++ [.int .u8 c]) w' ∧ Below B w w' := by
  obtain ⟨i0, hi, hz0, hz1, hz2⟩ := info_parts infoByte
  go_enter Tryz.func113, Tryz.ntmps113
  go_wp2_with (go_at_call 127; refine (copyCheck_is B b bs _ h).mono ?_)
  rintro e w1 ⟨rfl, h1, hb1⟩
  obtain ⟨hB, v, hbk, hown, hne⟩ := h1
  have c0 : w1.cell? ⟨b, 0, none⟩ = some (.pointer (some ⟨b, 0, none⟩)) := by rw [Lib.cell_of_heap hbk]; rfl
  have c1 : w1.cell? ⟨b, 1, none⟩ = some v := by rw [Lib.cell_of_heap hbk]; rfl
  go_wp2_with (at_builtin; refine wpList_append_own _ rfl _ _ 39 rfl B 5 i0 (.int .u8 0) 1 1 Tryz.underlying39 hi hz0 hz1 hz2 rfl (by decide) _ _ _ rfl (hown.alloc _) ⟨w1.heap.size, 0, none⟩ 1 1 [.int .u8 c] rfl rfl ?c1 ?c2 ?c3 ?c4 ?c5 ?_)
  case c1 =>
    intro j u hj
    match j, hj with
    | 0, hj => simp at hj; subst hj; simp [Addr.add]
  case c2 => intro u hu; simp at hu; subst hu; rfl
  case c3 => unfold maxLen; omega
  case c4 => omega
  case c5 => have := hb1.size; simp; omega
  intro v' w2 hown' hgrow _
  have hlt : b < w1.heap.size := by
    rcases Nat.lt_or_ge b w1.heap.size with h' | h'
    · exact h'
    · simp [Array.getElem?_eq_none h'] at hbk
  have hb2 : w2.heap[b]? = some (.cells #[.pointer (some ⟨b, 0, none⟩), v] 118 (0, 0)) := by
    rw [hgrow.block b (by simp; omega) (fun e => hne e.symm), Lib.alloc_old w1 _ b hlt]
    exact hbk
  have d0 : w2.cell? ⟨b, 0, none⟩ = some (.pointer (some ⟨b, 0, none⟩)) := by rw [Lib.cell_of_heap hb2]; rfl
  have d1 : w2.cell? ⟨b, 1, none⟩ = some v := by rw [Lib.cell_of_heap hb2]; rfl
  have f1 : w2.frozen? ⟨b, 1, none⟩ = false := Lib.frozen_of_heap hb2 1
  obtain ⟨g, cap, rfl⟩ : ∃ g cap, v' = .slice (some ⟨g, 0, none⟩) (bs.length + 1) cap := by
    rcases hown'.2 with ⟨_, h0⟩ | ⟨g, cap, cur, hv, _⟩
    · omega
    · exact ⟨g, cap, hv⟩
  go_wp2
  go_ret
  refine ⟨rfl, ?_, ?_⟩
  · exact Lib.BuilderAt.put (T := 118) (e := 5) hB hb2 (bs' := bs ++ [.int .u8 c]) (by simpa using hown') neB5
  · exact ((hb1.alloc (by have := hb1.size; omega) _).grown hgrow (by have := hb1.size; simp; omega) (fun k hk => (hown.lt k hk).1)).setCell (p := ⟨b, 1, none⟩) hB _
set_option maxHeartbeats 2000000 in
set_option maxRecDepth 100000 in
/-- WriteString; the new length takes at most 2^47 bytes. -/
theorem writeString_is (B b : Nat) (bs : List Value) (s : ByteArray) (w : World) (h : Lib.IsBuilder 118 5 B b bs w) (hlen : bs.length + s.size ≤ 140737488355328) (hBw : B ≤ w.heap.size) :
    Calls Tryz.prog 84 #[.pointer (some ⟨b, 0, none⟩), .string s] w fun e w' => e = .returned (.tuple #[.int .i64 s.size, .nilIface]) ∧ Lib.BuilderAt 118 5 B b (.pointer (some ⟨b, 0, none⟩)) (bs ++ Lib.strCells s) w' ∧ Below B w w' := by
  obtain ⟨i0, hi, hz0, hz1, hz2⟩ := info_parts infoByte
  go_enter Tryz.func84, Tryz.ntmps84
  go_wp2_with (go_at_call 127; refine (copyCheck_is B b bs _ h).mono ?_)
  rintro e w1 ⟨rfl, h1, hb1⟩
  obtain ⟨hB, v, hbk, hown, hne⟩ := h1
  have c0 : w1.cell? ⟨b, 0, none⟩ = some (.pointer (some ⟨b, 0, none⟩)) := by rw [Lib.cell_of_heap hbk]; rfl
  have c1 : w1.cell? ⟨b, 1, none⟩ = some v := by rw [Lib.cell_of_heap hbk]; rfl
  go_wp2_with (at_builtin; refine Lib.wpList_append_own_string _ rfl _ _ 39 9 rfl B 5 i0 Tryz.underlying39 Tryz.underlying9 hi hz0 hz1 hz2 _ _ _ rfl hown s rfl ?c3 ?c4 ?c5 ?_)
  case c3 => unfold maxLen; omega
  case c4 => omega
  case c5 => have := hb1.size; omega
  intro v' w2 hown' hgrow _
  have hlt : b < w1.heap.size := by
    rcases Nat.lt_or_ge b w1.heap.size with h' | h'
    · exact h'
    · simp [Array.getElem?_eq_none h'] at hbk
  have hb2 : w2.heap[b]? = some (.cells #[.pointer (some ⟨b, 0, none⟩), v] 118 (0, 0)) := by
    rw [hgrow.block b hlt (fun e => hne e.symm)]
    exact hbk
  have d0 : w2.cell? ⟨b, 0, none⟩ = some (.pointer (some ⟨b, 0, none⟩)) := by rw [Lib.cell_of_heap hb2]; rfl
  have d1 : w2.cell? ⟨b, 1, none⟩ = some v := by rw [Lib.cell_of_heap hb2]; rfl
  have f1 : w2.frozen? ⟨b, 1, none⟩ = false := Lib.frozen_of_heap hb2 1
  obtain ⟨ao, n', cap, rfl⟩ : ∃ ao n' cap, v' = .slice ao n' cap := by
    rcases hown'.2 with ⟨hv, _⟩ | ⟨g, cap, cur, hv, _⟩
    · exact ⟨_, _, _, hv⟩
    · exact ⟨_, _, _, hv⟩
  go_wp2
  go_ret2
  refine ⟨rfl, ?_, ?_⟩
  · exact Lib.BuilderAt.put (T := 118) (e := 5) hB hb2 (bs' := bs ++ Lib.strCells s) (by simpa [Lib.strCells_length] using hown') neB5
  · exact (hb1.grown hgrow (by have := hb1.size; omega) (fun k hk => (hown.lt k hk).1)).setCell (p := ⟨b, 1, none⟩) hB _
end Go.Proofs.YtlaplgaccjmbhaaGreatDoor.Lx
namespace Go.Proofs.YtlaplgaccjmbhaaGreatDoor.Px
open Go.RowKit
open Civ Off
theorem dd_size (u : Nat) (h : u < 18446744073709551616) : (bs (Lib.decDigits u)).size ≤ 20 := by
  rw [bs_size, Lib.decDigits_length]
  exact Lib.nDigits_le20 u (by omega)
theorem dd_step {n : Nat} (h : ¬ n < 10) : bs (Lib.decDigits (n / 10)) ++ bs (Lib.decDigits (n % 10)) = bs (Lib.decDigits n) := by
  rw [bs_add, Lib.decDigits_one (show n % 10 < 10 by omega)]
  conv => rhs; rw [Lib.decDigits, dif_neg h]
theorem decimal_any : ∀ (n : Nat), n < 9223372036854775808 → ∀ w : World, Calls Tryz.prog 116 #[.int .i64 (n : Int)] w fun e w' => e = .returned (.string (bs (Lib.decDigits n))) ∧ w = w' := by
  intro n
  induction n using Nat.strongRecOn with
  | _ n ih =>
    intro hn w
    by_cases h : n < 10
    · have := ref_dec1 n h w
      rw [dec_a h] at this
      rw [Lib.decDigits_one h]
      exact this
    · have i1 : ¬ (n : Int) < 10 := by omega
      have CA : Hid (∀ w : World, Calls Tryz.prog 116 #[.int .i64 ((n : Int) / 10)] w fun e w' => e = .returned (.string (bs (Lib.decDigits (n / 10)))) ∧ w = w') := Lib.hid (by
        rw [show (n : Int) / 10 = ((n / 10 : Nat) : Int) by omega]
        exact ih (n / 10) (by omega) (by omega))
      have CB : Hid (∀ w : World, Calls Tryz.prog 116 #[.int .i64 ((n : Int) % 10)] w fun e w' => e = .returned (.string (bs (Lib.decDigits (n % 10)))) ∧ w = w') := Lib.hid (by
        rw [show (n : Int) % 10 = ((n % 10 : Nat) : Int) by omega]
        exact ih (n % 10) (by omega) (by omega))
      have HE := Lib.hid (dd_step h)
      have s1 := dd_size (n / 10) (by omega)
      have s2 := dd_size (n % 10) (by omega)
      obtain ⟨a, ha⟩ : ∃ a, bs (Lib.decDigits (n / 10)) = a := ⟨_, rfl⟩
      obtain ⟨b, hb⟩ : ∃ b, bs (Lib.decDigits (n % 10)) = b := ⟨_, rfl⟩
      rw [ha] at CA HE s1
      rw [hb] at CB HE s2
      have hcat := cat_small (a := a) (b := b) (by omega) (by omega)
      have hn0 : (0 : Int) ≤ (n : Int) := by omega
      have hn1 : (n : Int) < 9223372036854775808 := by omega
      clear h ha hb s1 s2 ih hn
      go_enter Tryz.func116, Tryz.ntmps116
      go_wp2_with fail
      refine (CA.out _).mono ?_
      rintro e w' ⟨rfl, rfl⟩
      go_wp2_with fail
      refine (CB.out _).mono ?_
      rintro e w' ⟨rfl, rfl⟩
      go_wp2_with fail
      go_ret
      exact ⟨congrArg (fun s => Ending.returned (Value.string s)) HE.out, rfl⟩
theorem itoa_size (n : Int) (h0 : -9223372036854775808 ≤ n) (h1 : n ≤ 9223372036854775807) : (bs (Lib.itoa n)).size ≤ 21 := by
  rw [bs_size]
  exact Lib.itoa_length_le n h0 h1
/-- analemmaref40.number -/
theorem number_any (n : Int) (h0 : -9223372036854775807 ≤ n) (h1 : n ≤ 9223372036854775807) (w : World) :
    Calls Tryz.prog 68 #[.int .i64 n] w fun e w' => e = .returned (.string (bs (Lib.itoa n))) ∧ w = w' := by
  by_cases hneg : n < 0
  · obtain ⟨u, rfl⟩ : ∃ u : Nat, n = -(u : Int) := ⟨n.natAbs, by omega⟩
    have CD := Lib.hid (fun w => decimal_any u (by omega) w)
    have HI := Lib.hid (show (⟨#[45]⟩ : ByteArray) ++ bs (Lib.decDigits u) = bs (Lib.itoa (-(u : Int))) by
      rw [Lib.itoa_neg u (by omega)]
      exact bs_add [45] _)
    have s1 := dd_size u (by omega)
    obtain ⟨a, ha⟩ : ∃ a, bs (Lib.decDigits u) = a := ⟨_, rfl⟩
    rw [ha] at CD HI s1
    have hcat := cat_small (a := ⟨#[45]⟩) (b := a) (by decide) (by omega)
    have f0 : IntKind.i64.wrap (u : Int) = (u : Int) := IntWalk.i64_in _ (by omega)
    clear ha s1
    go_enter Tryz.func68, Tryz.ntmps68
    go_wp2_with fail
    refine (CD.out _).mono ?_
    rintro e w' ⟨rfl, rfl⟩
    go_wp2_with fail
    go_ret
    exact ⟨congrArg (fun s => Ending.returned (Value.string s)) HI.out, rfl⟩
  · obtain ⟨u, rfl⟩ : ∃ u : Nat, n = (u : Int) := ⟨n.toNat, by omega⟩
    have CD := Lib.hid (fun w => decimal_any u (by omega) w)
    rw [Lib.itoa_nonneg]
    go_enter Tryz.func68, Tryz.ntmps68
    go_wp2_with fail
    refine (CD.out _).mono ?_
    rintro e w' ⟨rfl, rfl⟩
    go_wp2_with fail
    go_ret
    exact ⟨rfl, rfl⟩
end Go.Proofs.YtlaplgaccjmbhaaGreatDoor.Px
namespace Go.Proofs.YtlaplgaccjmbhaaGreatDoor.Tb
open Px
/-- words as a line -/
def lineT (ws : List (List UInt8)) : List UInt8 := Lib.join ws [32] ++ [10]
def dstW (b : Bool) : List UInt8 := if b then [100, 115, 116] else [115, 116, 100]
def typeW (i : Nat) (l : Lc) : List (List UInt8) := [[116, 121, 112, 101], Lib.itoa i, Off.printO l.off, dstW l.dst, l.abbr.data.toList]
def transW (t : Tr) : List (List UInt8) := [[97, 116], Lib.itoa t.at', Lib.itoa t.ty]
def footW (f : List UInt8) : List (List UInt8) := [[102, 111, 111, 116, 101, 114], f]
def typesT : Nat → List Lc → List UInt8
  | _, [] => []
  | i, l :: r => lineT (typeW i l) ++ typesT (i + 1) r
def transT (l : List Tr) : List UInt8 := l.flatMap (fun t => lineT (transW t))
/-- the text of a table -/
def textL (x : Tab) : List UInt8 := typesT 0 x.types ++ transT x.trans ++ lineT (footW x.foot)
def textP (x : Tab) : List UInt8 × Int := if checkE x = 0 then (textL x, 0) else ([], checkE x)
theorem typesT_snoc (l : Lc) : ∀ (r : List Lc) (i : Nat), typesT i (r ++ [l]) = typesT i r ++ lineT (typeW (i + r.length) l)
  | [], i => by simp [typesT]
  | x :: r, i => by
    rw [List.cons_append]
    unfold typesT
    rw [typesT_snoc l r, List.append_assoc, List.length_cons, show i + 1 + r.length = i + (r.length + 1) by omega]
theorem transT_snoc (t : Tr) (r : List Tr) : transT (r ++ [t]) = transT r ++ lineT (transW t) := by unfold transT; simp
theorem join3 (a b c : List UInt8) : Lib.join [a, b, c] [32] = a ++ [32] ++ b ++ [32] ++ c := by simp [Lib.join, List.intercalate]
theorem join2 (a b : List UInt8) : Lib.join [a, b] [32] = a ++ [32] ++ b := by simp [Lib.join, List.intercalate]
theorem join5 (a b c d e : List UInt8) : Lib.join [a, b, c, d, e] [32] = a ++ [32] ++ b ++ [32] ++ c ++ [32] ++ d ++ [32] ++ e := by simp [Lib.join, List.intercalate]
/-- the line of a type, as the document adds it up -/
theorem type_line (i : Nat) (l : Lc) : lineT (typeW i l) = [116, 121, 112, 101, 32] ++ Lib.itoa i ++ [32] ++ Off.printO l.off ++ (if l.dst then [32, 100, 115, 116, 32] else [32, 115, 116, 100, 32]) ++ l.abbr.data.toList ++ [10] := by
  unfold lineT typeW
  rw [join5]
  cases l.dst <;> simp [dstW]
theorem trans_line (t : Tr) : lineT (transW t) = [97, 116, 32] ++ Lib.itoa t.at' ++ [32] ++ Lib.itoa t.ty ++ [10] := by
  unfold lineT transW
  rw [join3]
  simp
theorem foot_line (f : List UInt8) : lineT (footW f) = [102, 111, 111, 116, 101, 114, 32] ++ f ++ [10] := by
  unfold lineT footW
  rw [join2]
  simp
theorem printO_len (x : Int) : (Off.printO x).length ≤ 10 := by
  unfold Off.printO
  split
  · have := Off.printN_len (-x).toNat
    simp only [List.length_cons]
    omega
  · have := Off.printN_len x.toNat
    omega
theorem type_len (i : Nat) (l : Lc) (hi : i ≤ 1000000) : (lineT (typeW i l)).length ≤ 50 + l.abbr.size := by
  have h1 := Lib.itoa_length_le (i : Int) (by omega) (by omega)
  have h2 := printO_len l.off
  have h3 : l.abbr.data.toList.length = l.abbr.size := Array.length_toList
  rw [type_line]
  simp only [List.length_append, List.length_cons, List.length_nil]
  split
  · simp only [List.length_cons, List.length_nil]; omega
  · simp only [List.length_cons, List.length_nil]; omega
theorem trans_len (t : Tr) (h : Tr.Fit t) : (lineT (transW t)).length ≤ 50 := by
  have w : ∀ n : Int, (Lit.int .i64 n).wf = true → -9223372036854775808 ≤ n ∧ n ≤ 9223372036854775807 := fun n hn => bounds_i64 hn
  have h1 := Lib.itoa_length_le t.at' (w _ h.1).1 (w _ h.1).2
  have h2 := Lib.itoa_length_le t.ty (w _ h.2).1 (w _ h.2).2
  rw [trans_line]
  simp only [List.length_append, List.length_cons, List.length_nil]
  omega
theorem types_len_le : ∀ (r : List Lc) (i : Nat), (∀ l ∈ r, l.abbr.size ≤ 1000) → i + r.length ≤ 1000000 → (typesT i r).length ≤ 1050 * r.length
  | [], _, _, _ => by simp [typesT]
  | l :: r, i, h, hi => by
    rw [List.length_cons] at hi
    have h1 := type_len i l (by omega)
    have h2 := h l (List.mem_cons_self ..)
    have h3 := types_len_le r (i + 1) (fun x hx => h x (List.mem_cons_of_mem _ hx)) (by omega)
    unfold typesT
    rw [List.length_append, List.length_cons]
    omega
theorem transT_len : ∀ r : List Tr, (∀ t ∈ r, Tr.Fit t) → (transT r).length ≤ 50 * r.length
  | [], _ => by simp [transT]
  | t :: r, h => by
    have h1 := trans_len t (h t (List.mem_cons_self ..))
    have h3 := transT_len r (fun x hx => h x (List.mem_cons_of_mem _ hx))
    have : transT (t :: r) = lineT (transW t) ++ transT r := by unfold transT; rfl
    rw [this, List.length_append, List.length_cons]
    omega
end Go.Proofs.YtlaplgaccjmbhaaGreatDoor.Tb
namespace Go.Proofs.YtlaplgaccjmbhaaGreatDoor.Px
open Go.RowKit
open Civ Tb
def BuB (B b : Nat) (l : List UInt8) (w : World) : Prop := Lib.IsBuilder 118 5 B b (Lib.byteCells l) w
theorem BuB.below {B b : Nat} {l : List UInt8} {w w' : World} (h : BuB B b l w) (hB : Below w.heap.size w w') : BuB B b l w' := by
  have key : ∀ p : Value, Lib.BuilderAt 118 5 B b p (Lib.byteCells l) w → Lib.BuilderAt 118 5 B b p (Lib.byteCells l) w' := by
    rintro p ⟨hBb, v, hb, hown, hne⟩
    have hlt : b < w.heap.size := Lib.BuilderAt.lt ⟨hBb, v, hb, hown, hne⟩
    exact ⟨hBb, v, (hB.block b hlt).trans hb, hown.kept (row := none) ⟨hB.os, hB.tape, hB.output, hB.size, fun i hi _ => hB.block i hi⟩ (by rcases hown.2 with ⟨rfl, _⟩ | ⟨g, cap, cur, rfl, _⟩ <;> simp [Value.ownBlock]), hne⟩
  exact Or.elim h (fun x => .inl (key _ x)) (fun x => .inr (key _ x))
theorem BuB.lt {B b : Nat} {l : List UInt8} {w : World} (h : BuB B b l w) : b < w.heap.size := by
  rcases h with h | h
  · exact Lib.BuilderAt.lt h
  · exact Lib.BuilderAt.lt h
theorem BuB.used {B b : Nat} {l : List UInt8} {bs' : List Value} {w : World} (h : Lib.BuilderAt 118 5 B b (.pointer (some ⟨b, 0, none⟩)) bs' w) (e : bs' = Lib.byteCells l) : BuB B b l w := by
  subst e
  exact .inr h
theorem cells_add (a b : List UInt8) : Lib.byteCells a ++ Lib.byteCells b = Lib.byteCells (a ++ b) := by simp [Lib.byteCells]
set_option maxHeartbeats 4000000 in
set_option maxRecDepth 100000 in
theorem line_any (b k : Nat) (l : List UInt8) (ws : List (List UInt8)) (W : World) (h : BuB b b l W) (hk : W.heap[k]? = some (.cells (ws.map (fun x => Value.string (bs x))).toArray 9 (0, 0))) (hn : ws.length ≤ 1000) (hlen : l.length + (lineT ws).length ≤ 1000000000000) :
    Calls Tryz.prog 63 #[.pointer (some ⟨b, 0, none⟩), .slice (some ⟨k, 0, none⟩) ws.length ws.length] W fun e w' => e = .returned (.tuple #[]) ∧ BuB b b (l ++ lineT ws) w' ∧ Below b W w' := by
  have hz := h.lt
  have hmap : (ws.map bs).map (·.data.toList) = ws := by
    rw [List.map_map]
    conv => rhs; rw [← List.map_id ws]
    rfl
  have hjl : (Lib.join ws [32]).length + 1 = (lineT ws).length := by unfold lineT; simp
  have CJ := Tryz.strings_Join k 0 ws.length (ws.map bs) ⟨#[32]⟩ W (fun j x hx => by
    rw [cells_at hk, Nat.zero_add]
    rw [List.getElem?_map] at hx
    cases hy : ws[j]? with
    | none => rw [hy] at hx; cases hx
    | some y =>
      rw [hy] at hx
      simp only [Option.map_some, Option.some.injEq] at hx
      subst hx
      simp [hy]) (lt_of_block hk) (by rw [List.length_map]; omega) (by rw [List.length_map]; omega) (by rw [hmap]; show (Lib.join ws [32]).length ≤ _; omega)
  rw [hmap, List.length_map, show (⟨(Lib.join ws (⟨#[32]⟩ : ByteArray).data.toList).toArray⟩ : ByteArray) = bs (Lib.join ws [32]) from rfl] at CJ
  have hs := bs_size (Lib.join ws [32])
  have hcl : (Lib.byteCells l).length ≤ 1000000000000 := by rw [Lib.byteCells_length]; omega
  have hcj : (Lib.byteCells l).length + (bs (Lib.join ws [32])).size ≤ 1000000000000 := by rw [Lib.byteCells_length, hs]; omega
  have HC := Lib.hid CJ
  have HB := Lib.hid h
  have HL := Lib.hid (show Lib.byteCells l ++ Lib.strCells (bs (Lib.join ws [32])) ++ [Value.int .u8 10] = Lib.byteCells (l ++ lineT ws) by
    unfold lineT
    rw [← cells_add, ← cells_add, List.append_assoc]
    rfl)
  have hjz : (Lib.byteCells l ++ Lib.strCells (bs (Lib.join ws [32]))).length + 1 ≤ 1000000000001 := by rw [List.length_append, Lib.strCells_length]; omega
  obtain ⟨n, hn'⟩ : ∃ n, ws.length = n := ⟨_, rfl⟩
  obtain ⟨J, hJ⟩ : ∃ J, bs (Lib.join ws [32]) = J := ⟨_, rfl⟩
  obtain ⟨C, hC⟩ : ∃ C, Lib.byteCells l = C := ⟨_, rfl⟩
  rw [hn'] at HC
  rw [hn']
  rw [hJ] at HC HL hcj hjz
  rw [hC] at hcl hcj HL hjz
  have HCe := Lib.hid hC
  clear h hk CJ hmap hjl hs hn hlen hn' hJ hC
  go_enter Tryz.func63, Tryz.ntmps63
  go_wp2_with fail
  refine HC.out.mono ?_
  rintro _ V ⟨rfl, hb⟩
  have HB1 : Hid (BuB b b l V) := Lib.hid (HB.out.below hb)
  have HBe := Lib.hid (show Lib.IsBuilder 118 5 b b C V from HCe.out ▸ HB1.out)
  have HW := Lib.hid hb
  have hzV : b ≤ V.heap.size := by have := hb.size; omega
  clear hb
  go_wp2_with fail
  refine (Lx.writeString_is b b C J V HBe.out (by omega) hzV).mono ?_
  rintro _ V2 ⟨rfl, hb2, hk2⟩
  have HB2 := Lib.hid (show Lib.IsBuilder 118 5 b b (C ++ Lib.strCells J) V2 from .inr hb2)
  have HW2 := Lib.hid (Below.trans (HW.out.mono (by omega)) hk2)
  have hzV2 : b ≤ V2.heap.size := by have := hk2.size; omega
  clear hb2 hk2
  go_wp2_with fail
  refine (Lx.writeByte_is b b (C ++ Lib.strCells J) 10 V2 HB2.out (by omega) hzV2).mono ?_
  rintro _ V3 ⟨rfl, hb3, hk3⟩
  have HB3 := Lib.hid (BuB.used hb3 HL.out)
  have HW3 := Lib.hid (Below.trans HW2.out hk3)
  clear hb3 hk3
  go_wp2_with fail
  go_end0
  exact ⟨rfl, HB3.out, HW3.out⟩
end Go.Proofs.YtlaplgaccjmbhaaGreatDoor.Px

