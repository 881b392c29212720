/- The function lexeme.Join, its reference and bare, called with any slice of strings, return what joinS and joinE say; no block that was there changes. -/
import Derived.Test.YtjdckmhlgcjdgaaDoorLxF
import Derived.Test.YtjdckmhlgcjdgaaDoorBld
import Derived.Lib.UnsafeStr
import Derived.Lib.IndexAny
namespace Go.Proofs.YtjdckmhlgcjdgaaDoor.Lx
open Go.RowKit
open Lex (strV bytesOf printB)

theorem IsB.below {B b : Nat} {bs : List Value} {w w' : World} (h : Lib.IsBuilder 58 5 B b bs w) (hB : Below w.heap.size w w') : Lib.IsBuilder 58 5 B b bs w' := by
  have key : ∀ p : Value, Lib.BuilderAt 58 5 B b p bs w → Lib.BuilderAt 58 5 B b p bs w' := by
    rintro p ⟨hBb, v, hb, hown, hne⟩
    have hlt : b < w.heap.size := Lib.BuilderAt.lt ⟨hBb, v, hb, hown, hne⟩
    exact ⟨hBb, v, (hB.block b hlt).trans hb, hown.kept (row := none) ⟨hB.os, hB.tape, hB.output, hB.size, fun i hi _ => hB.block i hi⟩ (by rcases hown.2 with ⟨rfl, _⟩ | ⟨g, cap, cur, rfl, _⟩ <;> simp [Value.ownBlock]), hne⟩
  exact h.elim (fun x => .inl (key _ x)) (fun x => .inr (key _ x))
theorem contains_is (l : List UInt8) : Lib.containsAny l [32, 35] = l.any fun c => decide (c.toNat = 32) || decide (c.toNat = 35) := by
  induction l with
  | nil => rfl
  | cons c r ih =>
    have hg := Lib.indexAny_ge [32, 35] r
    have hc : ([32, 35] : List UInt8).contains c = (decide (c.toNat = 32) || decide (c.toNat = 35)) := by
      have e1 : (c == 32) = decide (c.toNat = 32) := by
        rw [Bool.eq_iff_iff, beq_iff_eq, decide_eq_true_iff, ← UInt8.toNat_inj]; rfl
      have e2 : (c == 35) = decide (c.toNat = 35) := by
        rw [Bool.eq_iff_iff, beq_iff_eq, decide_eq_true_iff, ← UInt8.toNat_inj]; rfl
      simp only [List.contains_cons, List.contains_nil, Bool.or_false, e1, e2]
    unfold Lib.containsAny at ih ⊢
    unfold Lib.indexAny
    rw [hc, List.any_cons, ← ih]
    cases (decide (c.toNat = 32) || decide (c.toNat = 35))
    · by_cases h : Lib.indexAny r [32, 35] = -1
      · rw [h]; rfl
      · have h' : (Lib.indexAny r [32, 35] == -1) = false := by simpa using h
        rw [h', Bool.false_or]
        simp only [Bool.false_eq_true, if_false]
        rw [decide_eq_decide]
        omega
    · simp
theorem bare_any (p : List UInt8) (h : p ≠ []) : bareB p = !Lib.containsAny p [32, 35] := by
  unfold bareB
  rw [contains_is]
  cases p with
  | nil => exact absurd rfl h
  | cons c r =>
    rw [List.isEmpty_cons, Bool.not_false, Bool.and_true, List.not_any_eq_all_not]
    congr 1
    funext x
    simp
theorem goodF_ascii {p : List UInt8} (h : goodF p = true) (j : Nat) (b : UInt8) (hb : p[j]? = some b) : b.toNat < 128 := by
  unfold goodF at h
  rw [List.all_eq_true] at h
  have := h b (List.mem_of_getElem? hb)
  unfold goodB printB at this
  simp at this
  omega
theorem goodF_at {p : List UInt8} (j : Nat) (hj : j < p.length) (h : goodB (p.getD j 0).toNat = false) : goodF p = false := by
  unfold goodF
  rw [List.all_eq_false]
  exact ⟨p[j], List.getElem_mem hj, by rw [getD_lt hj] at h; simpa using h⟩
theorem goodF_all {p : List UInt8} (h : ∀ j, j < p.length → goodB (p.getD j 0).toNat = true) : goodF p = true := by
  unfold goodF
  rw [List.all_eq_true]
  intro c hc
  obtain ⟨j, hj, rfl⟩ := List.mem_iff_getElem.1 hc
  have := h j hj
  rwa [getD_lt hj] at this
theorem at_byte (x : ByteArray) (j : Nat) (h : j < x.size) : x.data.toList.getD j 0 = x[j] := by
  rw [getD_lt (by rw [Lex.len_eq]; exact h)]; rfl

/-- what Join hands back -/
def JoinPost (F : List (List UInt8)) (w : World) (e : Ending) (w' : World) : Prop :=
  e = .returned (.tuple #[.string (bytesOf (joinS F)), .int .i64 (joinE F)]) ∧ Below w.heap.size w w'
theorem join_bad {F : List (List UInt8)} {w w' : World} {k : Nat} (hk : k < F.length) (h : goodF (F.getD k []) = false) (hB : Below w.heap.size w w') : JoinPost F w (.returned (.tuple #[.string ⟨#[]⟩, .int .i64 2])) w' := by
  have : F.all goodF = false := by
    rw [List.all_eq_false]
    exact ⟨F[k], List.getElem_mem hk, by rw [getD_lt hk] at h; simpa using h⟩
  refine ⟨?_, hB⟩
  unfold joinS joinE
  rw [this]; rfl
theorem all_good {F : List (List UInt8)} (h : ∀ j, j < F.length → goodF (F.getD j []) = true) : F.all goodF = true := by
  rw [List.all_eq_true]
  intro f hf
  obtain ⟨j, hj, rfl⟩ := List.mem_iff_getElem.1 hf
  have := h j hj
  rwa [getD_lt hj] at this
theorem join_long {F : List (List UInt8)} {w w' : World} (h : F.all goodF = true) (hl : 300 < (joinL F).length) (hB : Below w.heap.size w w') : JoinPost F w (.returned (.tuple #[.string ⟨#[]⟩, .int .i64 6])) w' := by
  refine ⟨?_, hB⟩
  unfold joinS joinE
  rw [if_pos h, if_pos h, if_pos hl, if_pos hl]; rfl
theorem join_ok {F : List (List UInt8)} {w w' : World} {x : ByteArray} (h : F.all goodF = true) (hl : ¬ 300 < (joinL F).length) (hx : x.data.toList = joinL F) (hB : Below w.heap.size w w') : JoinPost F w (.returned (.tuple #[.string x, .int .i64 0])) w' := by
  refine ⟨?_, hB⟩
  unfold joinS joinE
  rw [if_pos h, if_pos h, if_neg hl, if_neg hl, bytesOf_eq hx]

/-- the state of the loop of Join -/
structure AtJoin (F : List (List UInt8)) (k : Nat) (w wr : World) : Prop where
  held : Lib.IsBuilder 58 5 w.heap.size w.heap.size (Lib.byteCells (joinL (F.take k))) wr
  good : ∀ j, j < k → goodF (F.getD j []) = true
  below : Below w.heap.size w wr
theorem AtJoin.size {F : List (List UInt8)} {k : Nat} {w wr : World} (h : AtJoin F k w wr) : w.heap.size < wr.heap.size := by
  rcases h.held with x | x
  · exact Lib.BuilderAt.lt x
  · exact Lib.BuilderAt.lt x
theorem isB_used {B b : Nat} {bs : List Value} {w : World} (h : Lib.BuilderAt 58 5 B b (.pointer (some ⟨b, 0, none⟩)) bs w) : Lib.IsBuilder 58 5 B b bs w := .inr h
/-- a field has been written -/
theorem AtJoin.next {F : List (List UInt8)} {k : Nat} {w wr w1 : World} {bs : List Value} (h : AtJoin F k w wr) (hk : k < F.length) (hg : goodF (F.getD k []) = true) (hb : Lib.IsBuilder 58 5 w.heap.size w.heap.size bs w1)
    (hbs : bs = Lib.byteCells (joinL (F.take k)) ++ Lib.byteCells ((if k = 0 then [] else [32]) ++ quoteF (F.getD k []))) (hB : Below w.heap.size w w1) : AtJoin F (k + 1) w w1 := by
  refine ⟨?_, fun j hj => ?_, hB⟩
  · rw [joinL_take F k hk]
    rw [getD_lt hk] at hbs
    by_cases h0 : k = 0
    · subst h0
      rw [hbs] at hb
      simpa [joinL, Lib.byteCells] using hb
    · rw [if_neg h0] at hbs ⊢
      rw [hbs] at hb
      simpa [Lib.byteCells] using hb
  · rcases (show j < k ∨ j = k by omega) with h1 | rfl
    · exact h.good j h1
    · exact hg

theorem quote_size (x : ByteArray) : ((⟨#[34]⟩ : ByteArray) ++ x ++ ⟨#[34]⟩).size = x.size + 2 := by
  rw [ByteArray.size_append, ByteArray.size_append, show (⟨#[34]⟩ : ByteArray).size = 1 from rfl]; omega
theorem two_size : (⟨#[34, 34]⟩ : ByteArray).size = 2 := rfl
theorem str_ne {x : ByteArray} (h : ¬ x.size = 0) : x.toList.isEmpty = false := by
  rw [List.isEmpty_eq_false_iff]
  intro e
  have h1 : x.toList = x.data.toList := Lib.toList_data x
  rw [h1] at e
  exact h (by rw [← Lex.len_eq, e]; rfl)
theorem contains_of (b : Bool) (x : ByteArray) (V : World) (hx : x.size < 4294967281) (ha : ∀ (m : Nat) (b : UInt8), x.data.toList[m]? = some b → b.toNat < 128) (h : Lib.containsAny x.data.toList [32, 35] = b) :
    Calls Tryd.prog 35 #[.string x, .string ⟨#[32, 35]⟩] V fun e w' => e = .returned (.bool b) ∧ Below V.heap.size V w' := by
  subst h
  refine (Tryd.strings_ContainsAny_laid x ⟨#[32, 35]⟩ V hx (by decide) ha ?_).mono ?_
  · intro j b hb
    have h2 : ∀ b ∈ ([32, 35] : List UInt8), b.toNat < 128 := by decide
    exact h2 b (List.mem_of_getElem? hb)
  · rintro e V1 ⟨rfl, hB⟩
    exact ⟨rfl, hB⟩

set_option maxHeartbeats 8000000 in
set_option maxRecDepth 100000 in
theorem join_any (F : List (List UInt8)) (v : Value) (w : World) (hv : StrsV w v F) (hl : ∀ p ∈ F, p.length ≤ 4000000000) (hsum : sumL F ≤ 100000000000000) :
    Calls Tryd.prog 20 #[v] w (JoinPost F w) := by
  obtain ⟨a, c, rfl, hc1, hc2, hc3⟩ := hv
  unfold maxLen at hc2
  have HV := Lib.hid (show StrsV w (.slice a F.length c) F from ⟨a, c, rfl, hc1, by unfold maxLen; exact hc2, hc3⟩)
  have HL := Lib.hid hl
  have HS := Lib.hid (fun k => Nat.le_trans (Nat.le_trans (joinL_len (F.take k)) (sumL_take F k)) hsum)
  have HF := Lib.hid (Lib.fresh_isBuilder 58 5 w)
  clear hc3 hl hsum
  go_enter Tryd.func20, Tryd.ntmps20
  go_wp2
  go_loopw [10] (fun i wr => ∃ k : Nat, k ≤ F.length ∧ i = .int .i64 k ∧ AtJoin F k w wr) (fun i _ => F.length - (intOf i).toNat)
  case atStart => exact ⟨0, Nat.zero_le _, rfl, HF.out, fun j hj => by omega, (Below.refl _ _).alloc (Nat.le_refl _) _⟩
  case round =>
    obtain ⟨k, hk, rfl, hA⟩ := hrel
    have hz := hA.size
    have HA := Lib.hid hA
    clear hA
    by_cases hlt : k < F.length
    · obtain ⟨p, hp⟩ : ∃ p, F.getD k [] = p := ⟨_, rfl⟩
      obtain ⟨x, hx⟩ : ∃ x, bytesOf p = x := ⟨_, rfl⟩
      have hxl : x.data.toList = p := by rw [← hx]; rfl
      have hpl : x.size ≤ 4000000000 := by
        rw [← Lex.len_eq, hxl, ← hp, getD_lt hlt]
        exact HL.out _ (List.getElem_mem hlt)
      obtain ⟨b, o, rfl, hcell⟩ : ∃ b o, a = some ⟨b, o, none⟩ ∧ wr.cell? ⟨b, o + k, none⟩ = some (.string x) := by
        obtain ⟨a', c', e, _, _, h⟩ := HV.out
        cases e
        rcases h with h | ⟨b, o, e, h⟩
        · rw [h] at hlt; simp at hlt
        · refine ⟨b, o, e, ?_⟩
          rw [(HA.out.below.cell (p := ⟨b, o + k, none⟩) (block_lt_of_cell (h k hlt))).trans (h k hlt), hp]
          unfold strV
          rw [hx]
      have HX := Lib.hid hxl
      have HP := Lib.hid hp
      clear hx hxl hp
      go_wp2
      obtain ⟨wo, hwo⟩ : ∃ wo : World, wo = wr := ⟨_, rfl⟩
      subst hwo
      go_loop [17] (fun i => ∃ j : Nat, j ≤ x.size ∧ i = .int .i64 j ∧ Hid (∀ m, m < j → goodB (p.getD m 0).toNat = true)) (fun i => x.size - (intOf i).toNat)
      case atStart => exact ⟨0, Nat.zero_le _, rfl, Lib.hid (fun m hm => by omega)⟩
      case round =>
        obtain ⟨j, hj, rfl, HG⟩ := hrel
        by_cases hjl : j < x.size
        · have hat := at_byte x j hjl
          rw [HX.out] at hat
          have hjp : j < p.length := by rw [← HX.out, Lex.len_eq]; exact hjl
          have hji : (j : Int) < (x.size : Int) := by omega
          cases hpr : printB x[j].toNat
          · have HB := Lib.hid (goodF_at j hjp (by rw [hat]; unfold goodB; rw [hpr]; rfl))
            have CP := Lib.hid (Lex.printable_is false x[j] wo hpr)
            clear hpr hat
            go_wp2_with fail
            refine CP.out.mono ?_
            rintro e V1 ⟨rfl, rfl⟩
            go_wp2
            go_ret2
            exact join_bad hlt (by rw [HP.out]; exact HB.out) HA.out.below
          · have CP := Lib.hid (Lex.printable_is true x[j] wo hpr)
            by_cases c34 : x[j].toNat = 34
            · have HB := Lib.hid (goodF_at j hjp (by rw [hat]; unfold goodB; rw [c34]; simp))
              have t34 : ((x[j].toNat : Int) == 34) = true := by rw [c34]; rfl
              clear hpr hat c34
              go_wp2_with fail
              refine CP.out.mono ?_
              rintro e V1 ⟨rfl, rfl⟩
              go_wp2
              go_ret2
              exact join_bad hlt (by rw [HP.out]; exact HB.out) HA.out.below
            · have HB := Lib.hid (show goodB (p.getD j 0).toNat = true by rw [hat]; unfold goodB; rw [hpr]; simp [c34])
              have t34 : ((x[j].toNat : Int) == 34) = false := by rw [beq_eq_false_iff_ne]; omega
              clear hpr hat c34
              go_wp2_with fail
              refine CP.out.mono ?_
              rintro e V1 ⟨rfl, rfl⟩
              go_wp2
              go_round
              case rel => exact ⟨j + 1, by omega, by go_num, Lib.hid (fun m hm => by rcases (show m < j ∨ m = j by omega) with h | rfl; exact HG.out m h; exact HB.out)⟩
              case measure => simp [intOf]; omega
        · have hgood : goodF p = true := goodF_all (fun m hm => HG.out m (by rw [← HX.out, Lex.len_eq] at hm; omega))
          have hse := HS.out k
          have HGD := Lib.hid hgood
          have HASC := Lib.hid (fun (m : Nat) (b : UInt8) (h : x.data.toList[m]? = some b) => goodF_ascii hgood m b (by rw [← HX.out]; exact h))
          have hblen : (Lib.byteCells (joinL (F.take k))).length ≤ 100000000000000 := by rw [Lib.byteCells_length]; exact hse
          clear hgood hse HG
          obtain ⟨bs, hbs⟩ : ∃ bs, Lib.byteCells (joinL (F.take k)) = bs := ⟨_, rfl⟩
          have hheld := HA.out.held
          rw [hbs] at hheld hblen
          have HHELD := Lib.hid hheld
          have HBS := Lib.hid hbs
          have hjx : j = x.size := by omega
          subst hjx
          clear hheld hbs
          by_cases hk0 : k = 0
          · subst hk0
            by_cases he : p = []
            · subst he
              have hxe : x = ⟨#[]⟩ := bytesOf_eq HX.out
              subst hxe
              have HQ := Lib.hid (show bs ++ Lib.strCells ((⟨#[34, 34]⟩ : ByteArray)) = bs ++ Lib.byteCells ((if (0 : Nat) = 0 then [] else [32]) ++ quoteF []) by rw [if_pos rfl]; rfl)
              go_wp2_with fail
              refine (writeString_is w.heap.size w.heap.size bs ⟨#[34, 34]⟩ _ HHELD.out (by rw [two_size]; omega) (by omega)).mono ?_
              rintro e V3 ⟨rfl, hb3, k3⟩
              have HB3 := Lib.hid (isB_used hb3)
              have B3 := Lib.hid ((HA.out.below).trans k3)
              clear hb3 k3
              go_wp2
              go_roundw
              case rel =>
                refine ⟨0 + 1, by omega, by first | go_num | rfl, HA.out.next hlt (by rw [HP.out]; exact HGD.out) HB3.out ?_ B3.out⟩
                rw [HBS.out, HP.out]
                exact HQ.out
              case measure => simp [intOf]; omega
            · have hba := bare_any p he
              have hx0 : ¬ x.size = 0 := by rw [← Lex.len_eq, HX.out]; simpa using he
              have hne := str_ne hx0
              cases hct : Lib.containsAny p [32, 35]
              · rw [hct] at hba
                have CC := Lib.hid (fun V : World => contains_of false x V (by omega) HASC.out (by rw [HX.out]; exact hct))
                have HQ := Lib.hid (show bs ++ Lib.strCells (x) = bs ++ Lib.byteCells ((if (0 : Nat) = 0 then [] else [32]) ++ quoteF p) by rw [if_pos rfl]; unfold quoteF; rw [show bareB p = true from hba, if_pos rfl, Lib.strCells_eq, HX.out]; simp [Lib.byteCells])
                clear hba hct he
                go_wp2_with fail
                refine (CC.out _).mono ?_
                rintro e V2 ⟨rfl, k2⟩
                have HB2 := Lib.hid (IsB.below HHELD.out k2)
                have B2 := Lib.hid ((HA.out.below).trans (k2.mono (by omega)))
                have hz2 : w.heap.size < V2.heap.size := Nat.lt_of_lt_of_le hz k2.size
                clear k2
                go_wp2_with fail
                refine (writeString_is w.heap.size w.heap.size bs x _ HB2.out (by omega) (by omega)).mono ?_
                rintro e V3 ⟨rfl, hb3, k3⟩
                have HB3 := Lib.hid (isB_used hb3)
                have B3 := Lib.hid ((B2.out).trans k3)
                clear hb3 k3
                go_wp2
                go_roundw
                case rel =>
                  refine ⟨0 + 1, by omega, by first | go_num | rfl, HA.out.next hlt (by rw [HP.out]; exact HGD.out) HB3.out ?_ B3.out⟩
                  rw [HBS.out, HP.out]
                  exact HQ.out
                case measure => simp [intOf]; omega
              · rw [hct] at hba
                have CC := Lib.hid (fun V : World => contains_of true x V (by omega) HASC.out (by rw [HX.out]; exact hct))
                have HQ := Lib.hid (show bs ++ Lib.strCells ((⟨#[34]⟩ ++ x ++ ⟨#[34]⟩ : ByteArray)) = bs ++ Lib.byteCells ((if (0 : Nat) = 0 then [] else [32]) ++ quoteF p) by rw [if_pos rfl]; unfold quoteF; rw [show bareB p = false from hba, if_neg (by simp), Lib.strCells_eq, app_list, app_list, HX.out]; simp [Lib.byteCells])
                have hcat1 : ¬ 9223372036854775807 < 1 + x.size := by omega
                have hcat2 : ¬ 9223372036854775807 < 1 + x.size + 1 := by omega
                clear hba hct he
                go_wp2_with fail
                refine (CC.out _).mono ?_
                rintro e V2 ⟨rfl, k2⟩
                have HB2 := Lib.hid (IsB.below HHELD.out k2)
                have B2 := Lib.hid ((HA.out.below).trans (k2.mono (by omega)))
                have hz2 : w.heap.size < V2.heap.size := Nat.lt_of_lt_of_le hz k2.size
                clear k2
                go_wp2_with fail
                refine (writeString_is w.heap.size w.heap.size bs ((⟨#[34]⟩ : ByteArray) ++ x ++ (⟨#[34]⟩ : ByteArray)) _ HB2.out (by rw [quote_size]; omega) (by omega)).mono ?_
                rintro e V3 ⟨rfl, hb3, k3⟩
                have HB3 := Lib.hid (isB_used hb3)
                have B3 := Lib.hid ((B2.out).trans k3)
                clear hb3 k3
                go_wp2
                go_roundw
                case rel =>
                  refine ⟨0 + 1, by omega, by first | go_num | rfl, HA.out.next hlt (by rw [HP.out]; exact HGD.out) HB3.out ?_ B3.out⟩
                  rw [HBS.out, HP.out]
                  exact HQ.out
                case measure => simp [intOf]; omega
          · have hk0i : (0 : Int) < (k : Int) := by omega
            have hk0n : 0 < k := by omega
            by_cases he : p = []
            · subst he
              have hxe : x = ⟨#[]⟩ := bytesOf_eq HX.out
              subst hxe
              have HQ := Lib.hid (show bs ++ [Value.int .u8 32] ++ Lib.strCells ((⟨#[34, 34]⟩ : ByteArray)) = bs ++ Lib.byteCells ((if (k : Nat) = 0 then [] else [32]) ++ quoteF []) by rw [if_neg hk0]; rw [List.append_assoc]; rfl)
              clear hk0
              go_wp2_with fail
              refine (writeByte_is w.heap.size w.heap.size bs 32 _ HHELD.out (by omega) (by omega)).mono ?_
              rintro e V1 ⟨rfl, hb1, k1⟩
              have HB1 := Lib.hid (isB_used hb1)
              have B1 := Lib.hid (HA.out.below.trans k1)
              have hz1 : w.heap.size < V1.heap.size := Nat.lt_of_lt_of_le hz k1.size
              clear hb1 k1
              go_wp2_with fail
              refine (writeString_is w.heap.size w.heap.size (bs ++ [Value.int .u8 32]) ⟨#[34, 34]⟩ _ HB1.out (by simp only [List.length_append, List.length_cons, List.length_nil]; rw [two_size]; omega) (by omega)).mono ?_
              rintro e V3 ⟨rfl, hb3, k3⟩
              have HB3 := Lib.hid (isB_used hb3)
              have B3 := Lib.hid ((B1.out).trans k3)
              clear hb3 k3
              go_wp2
              go_roundw
              case rel =>
                refine ⟨k + 1, by omega, by first | go_num | rfl, HA.out.next hlt (by rw [HP.out]; exact HGD.out) HB3.out ?_ B3.out⟩
                rw [HBS.out, HP.out]
                exact HQ.out
              case measure => simp [intOf]; omega
            · have hba := bare_any p he
              have hx0 : ¬ x.size = 0 := by rw [← Lex.len_eq, HX.out]; simpa using he
              have hne := str_ne hx0
              cases hct : Lib.containsAny p [32, 35]
              · rw [hct] at hba
                have CC := Lib.hid (fun V : World => contains_of false x V (by omega) HASC.out (by rw [HX.out]; exact hct))
                have HQ := Lib.hid (show bs ++ [Value.int .u8 32] ++ Lib.strCells (x) = bs ++ Lib.byteCells ((if (k : Nat) = 0 then [] else [32]) ++ quoteF p) by rw [if_neg hk0]; unfold quoteF; rw [show bareB p = true from hba, if_pos rfl, Lib.strCells_eq, HX.out]; simp [Lib.byteCells])
                clear hba hct he hk0
                go_wp2_with fail
                refine (writeByte_is w.heap.size w.heap.size bs 32 _ HHELD.out (by omega) (by omega)).mono ?_
                rintro e V1 ⟨rfl, hb1, k1⟩
                have HB1 := Lib.hid (isB_used hb1)
                have B1 := Lib.hid (HA.out.below.trans k1)
                have hz1 : w.heap.size < V1.heap.size := Nat.lt_of_lt_of_le hz k1.size
                clear hb1 k1
                go_wp2_with fail
                refine (CC.out _).mono ?_
                rintro e V2 ⟨rfl, k2⟩
                have HB2 := Lib.hid (IsB.below HB1.out k2)
                have B2 := Lib.hid ((B1.out).trans (k2.mono (by omega)))
                have hz2 : w.heap.size < V2.heap.size := Nat.lt_of_lt_of_le hz1 k2.size
                clear k2
                go_wp2_with fail
                refine (writeString_is w.heap.size w.heap.size (bs ++ [Value.int .u8 32]) x _ HB2.out (by simp only [List.length_append, List.length_cons, List.length_nil]; omega) (by omega)).mono ?_
                rintro e V3 ⟨rfl, hb3, k3⟩
                have HB3 := Lib.hid (isB_used hb3)
                have B3 := Lib.hid ((B2.out).trans k3)
                clear hb3 k3
                go_wp2
                go_roundw
                case rel =>
                  refine ⟨k + 1, by omega, by first | go_num | rfl, HA.out.next hlt (by rw [HP.out]; exact HGD.out) HB3.out ?_ B3.out⟩
                  rw [HBS.out, HP.out]
                  exact HQ.out
                case measure => simp [intOf]; omega
              · rw [hct] at hba
                have CC := Lib.hid (fun V : World => contains_of true x V (by omega) HASC.out (by rw [HX.out]; exact hct))
                have HQ := Lib.hid (show bs ++ [Value.int .u8 32] ++ Lib.strCells ((⟨#[34]⟩ ++ x ++ ⟨#[34]⟩ : ByteArray)) = bs ++ Lib.byteCells ((if (k : Nat) = 0 then [] else [32]) ++ quoteF p) by rw [if_neg hk0]; unfold quoteF; rw [show bareB p = false from hba, if_neg (by simp), Lib.strCells_eq, app_list, app_list, HX.out]; simp [Lib.byteCells])
                have hcat1 : ¬ 9223372036854775807 < 1 + x.size := by omega
                have hcat2 : ¬ 9223372036854775807 < 1 + x.size + 1 := by omega
                clear hba hct he hk0
                go_wp2_with fail
                refine (writeByte_is w.heap.size w.heap.size bs 32 _ HHELD.out (by omega) (by omega)).mono ?_
                rintro e V1 ⟨rfl, hb1, k1⟩
                have HB1 := Lib.hid (isB_used hb1)
                have B1 := Lib.hid (HA.out.below.trans k1)
                have hz1 : w.heap.size < V1.heap.size := Nat.lt_of_lt_of_le hz k1.size
                clear hb1 k1
                go_wp2_with fail
                refine (CC.out _).mono ?_
                rintro e V2 ⟨rfl, k2⟩
                have HB2 := Lib.hid (IsB.below HB1.out k2)
                have B2 := Lib.hid ((B1.out).trans (k2.mono (by omega)))
                have hz2 : w.heap.size < V2.heap.size := Nat.lt_of_lt_of_le hz1 k2.size
                clear k2
                go_wp2_with fail
                refine (writeString_is w.heap.size w.heap.size (bs ++ [Value.int .u8 32]) ((⟨#[34]⟩ : ByteArray) ++ x ++ (⟨#[34]⟩ : ByteArray)) _ HB2.out (by simp only [List.length_append, List.length_cons, List.length_nil]; rw [quote_size]; omega) (by omega)).mono ?_
                rintro e V3 ⟨rfl, hb3, k3⟩
                have HB3 := Lib.hid (isB_used hb3)
                have B3 := Lib.hid ((B2.out).trans k3)
                clear hb3 k3
                go_wp2
                go_roundw
                case rel =>
                  refine ⟨k + 1, by omega, by first | go_num | rfl, HA.out.next hlt (by rw [HP.out]; exact HGD.out) HB3.out ?_ B3.out⟩
                  rw [HBS.out, HP.out]
                  exact HQ.out
                case measure => simp [intOf]; omega
    · have hke : k = F.length := by omega
      subst hke
      have hall := all_good HA.out.good
      have hh := HA.out.held
      rw [List.take_length] at hh
      have hbl : (Lib.byteCells (joinL F)).length = (joinL F).length := Lib.byteCells_length _
      have CL := Lib.hid (Tryd.Builder_Len w.heap.size w.heap.size _ wr hh)
      have CS := Lib.hid (Tryd.Builder_String_any w.heap.size w.heap.size (joinL F) wr hh (by omega))
      rw [hbl] at CL
      have HAL := Lib.hid hall
      clear hall hh hbl
      obtain ⟨n, hn⟩ : ∃ n, (joinL F).length = n := ⟨_, rfl⟩
      have hnb : n ≤ 100000000000000 := by
        have := HS.out F.length
        rw [List.take_length] at this
        omega
      rw [hn] at CL
      have HN := Lib.hid hn
      clear hn
      by_cases h3 : 300 < n
      · have h3i : (300 : Int) < (n : Int) := by omega
        go_wp2_with fail
        refine CL.out.mono ?_
        rintro e V1 ⟨rfl, rfl⟩
        go_wp2
        go_ret2
        exact join_long HAL.out (by rw [HN.out]; exact h3) HA.out.below
      · have h3i : (n : Int) ≤ 300 := by omega
        go_wp2_with fail
        refine CL.out.mono ?_
        rintro e V1 ⟨rfl, rfl⟩
        go_wp2_with fail
        refine CS.out.mono ?_
        rintro e V2 ⟨rfl, k2⟩
        go_wp2
        go_ret2
        exact join_ok HAL.out (by rw [HN.out]; exact h3) rfl (HA.out.below.trans k2)
end Go.Proofs.YtjdckmhlgcjdgaaDoor.Lx
