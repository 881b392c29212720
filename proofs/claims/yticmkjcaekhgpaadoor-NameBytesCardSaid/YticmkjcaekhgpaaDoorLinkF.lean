/- Contracts for the law LinklineBack: the fields of a printed line are its words; the names that it makes. -/
import Derived.Test.YticmkjcaekhgpaaDoorLinklineNames
import Derived.Test.YticmkjcaekhgpaaDoorNameAmong
import Derived.Test.YticmkjcaekhgpaaDoorZoneN
import Derived.Test.YticmkjcaekhgpaaDoorLexB
namespace Go.Proofs.YticmkjcaekhgpaaDoor
open Go.RowKit
open Lex (fieldsGo fieldsL fieldsE)

/-- a byte that is part of a word -/
def wordC (c : UInt8) : Prop := c.toNat ≠ 34 ∧ c.toNat ≠ 35 ∧ c.toNat ≠ 9 ∧ c.toNat ≠ 32 ∧ Lex.printB c.toNat = true
theorem go_word (p r : List UInt8) (out : List (List UInt8)) (f : List UInt8) (hp : ∀ c ∈ p, wordC c) : fieldsGo (p ++ r) out f true false = fieldsGo r out (f ++ p) true false := by
  induction p generalizing f with
  | nil => simp
  | cons c q ih =>
    obtain ⟨h1, h2, h3, h4, h5⟩ := hp c (by simp)
    rw [List.cons_append, Lex.go_not, if_neg h1, if_neg h2, if_neg (by omega), if_pos h5, ih _ (fun x hx => hp x (by simp [hx]))]
    simp
theorem go_word1 (p r : List UInt8) (out : List (List UInt8)) (hp : ∀ c ∈ p, wordC c) (h0 : p ≠ []) : fieldsGo (p ++ r) out [] false false = fieldsGo r out p true false := by
  cases p with
  | nil => exact absurd rfl h0
  | cons c q =>
    obtain ⟨h1, h2, h3, h4, h5⟩ := hp c (by simp)
    rw [List.cons_append, Lex.go_not, if_neg h1, if_neg h2, if_neg (by omega), if_pos h5, go_word _ _ _ _ (fun x hx => hp x (by simp [hx]))]
    rfl
theorem go_space (r : List UInt8) (out : List (List UInt8)) (f : List UInt8) : fieldsGo (32 :: r) out f true false = fieldsGo r (out ++ [f]) [] false false := rfl
theorem go_end (out : List (List UInt8)) (f : List UInt8) : fieldsGo [] out f true false = some (out ++ [f]) := rfl
theorem go_two (p q : List UInt8) (hp : ∀ c ∈ p, wordC c) (hq : ∀ c ∈ q, wordC c) (hp0 : p ≠ []) (hq0 : q ≠ []) : fieldsGo (p ++ 32 :: q) [] [] false false = some [p, q] := by
  have := go_word1 q [] [p] hq hq0
  rw [List.append_nil] at this
  rw [go_word1 p _ _ hp hp0, go_space, List.nil_append, this, go_end]
  rfl
theorem go_three (p q r : List UInt8) (hp : ∀ c ∈ p, wordC c) (hq : ∀ c ∈ q, wordC c) (hr : ∀ c ∈ r, wordC c) (hp0 : p ≠ []) (hq0 : q ≠ []) (hr0 : r ≠ []) : fieldsGo (p ++ 32 :: (q ++ 32 :: r)) [] [] false false = some [p, q, r] := by
  have := go_word1 r [] [p, q] hr hr0
  rw [List.append_nil] at this
  rw [go_word1 p _ _ hp hp0, go_space, List.nil_append, go_word1 q _ _ hq hq0, go_space, show [p] ++ [q] = [p, q] from rfl, this, go_end]
  rfl
theorem part_word {n : Nat} (h : partP n = true ∨ n = 47) : n ≠ 34 ∧ n ≠ 35 ∧ n ≠ 9 ∧ n ≠ 32 ∧ Lex.printB n = true := by
  unfold partP letB digB at h
  unfold Lex.printB
  simp at h ⊢
  omega
theorem joinB_mem (l : List (List UInt8)) (c : UInt8) (h : c ∈ joinB l) : c = 47 ∨ ∃ q ∈ l, c ∈ q := by
  cases l with
  | nil => simp [joinB] at h
  | cons p r =>
    simp only [joinB, List.mem_append, List.mem_flatMap, List.mem_cons] at h
    rcases h with h | ⟨q, hq, rfl | h⟩
    · exact .inr ⟨p, by simp, h⟩
    · exact .inl rfl
    · exact .inr ⟨q, by simp [hq], h⟩
theorem partS_mem (L : List UInt8) (c : UInt8) (h : c ∈ partS L) : partP c.toNat = true := by
  have := partS_ok L
  unfold partOk ofOk at this
  simp only [Bool.and_eq_true, List.all_eq_true] at this
  exact this.1.1.2 c h
theorem zone_word (R : List (List UInt8)) : ∀ c ∈ zoneL R, wordC c := by
  intro c hc
  refine part_word ?_
  unfold zoneL at hc
  by_cases h : R = []
  · rw [if_pos h] at hc
    have : ∀ c ∈ ([69, 116, 99, 47, 81] : List UInt8), partP c.toNat = true ∨ c.toNat = 47 := by decide
    exact this c hc
  · rw [if_neg h] at hc
    rcases joinB_mem _ _ hc with rfl | ⟨q, hq, hcq⟩
    · exact .inr rfl
    · obtain ⟨y, _, rfl⟩ := List.mem_map.1 hq
      exact .inl (partS_mem _ _ hcq)
theorem zone_ne (R : List (List UInt8)) : zoneL R ≠ [] := by
  intro e
  have := zoneL_len R
  rw [e] at this
  simp at this
def setL (C : List UInt8) : List UInt8 := 83 :: lettersOf C 0 20
theorem setL_let (C : List UInt8) : ∀ c ∈ setL C, letB c.toNat = true := by
  intro c hc
  simp only [setL, List.mem_cons] at hc
  rcases hc with rfl | h
  · decide
  · exact lettersOf_let _ _ _ c h
theorem setL_len (C : List UInt8) : 1 ≤ (setL C).length ∧ (setL C).length ≤ 21 := by
  simp only [setL, List.length_cons, lettersOf_length]
  unfold lettN
  omega
theorem set_word (C : List UInt8) : ∀ c ∈ setL C, wordC c := by
  intro c hc
  refine part_word (.inl ?_)
  have := setL_let C c hc
  unfold partP; rw [this]; rfl
theorem set_ne (C : List UInt8) : setL C ≠ [] := by simp [setL]
theorem setL_ok (C : List UInt8) : setOk (setL C) = true := by
  rw [set_letters (setL_let C)]
  have := setL_len C
  simp; omega

theorem BytesAt.keep {W W' : World} {a : Option Addr} {L : List UInt8} (h : BytesAt W a L) (hB : Below W.heap.size W W') : BytesAt W' a L := by
  rcases h with h | ⟨b', off', e, hc⟩
  · exact .inl h
  · exact .inr ⟨b', off', e, fun i hi => (hB.cell (p := ⟨b', off' + i, none⟩) (block_lt_of_cell (hc i hi))).trans (hc i hi)⟩
theorem RowsAt.keep {W W' : World} {a : Option Addr} {R : List (List UInt8)} (h : RowsAt W a R) (hB : Below W.heap.size W W') : RowsAt W' a R := by
  rcases h with h | ⟨b', off', e, hc⟩
  · exact .inl h
  · refine .inr ⟨b', off', e, fun i hi => ?_⟩
    obtain ⟨x, c, h1, h2, h3, h4⟩ := hc i hi
    exact ⟨x, c, (hB.cell (p := ⟨b', off' + i, none⟩) (block_lt_of_cell h1)).trans h1, h2, h3, h4.keep hB⟩
theorem zone21_is (z : ByteArray) (R : List (List UInt8)) (a : Option Addr) (c : Nat) (hc : R.length ≤ c) (hcm : c ≤ maxLen) (hz : bytesOf (zoneL R) = z) (W : World) (hB : RowsAt W a R) :
    Calls Tryd.prog 21 #[.slice a R.length c] W fun e w' => e = .returned (.string z) ∧ Below W.heap.size W w' := by
  refine (zone21 R a c hc hcm W hB).mono ?_
  rintro e V ⟨o, rfl, ho, n, rfl⟩
  rw [bytesOf_eq ho, hz]
  exact ⟨rfl, ⟨rfl, rfl, rfl, Nat.le_refl _, fun _ _ => rfl⟩⟩
theorem letters_is (z : ByteArray) (L : List UInt8) (a : Option Addr) (cap : Nat) (_hL : L.length ≤ maxLen) (hz : bytesOf (lettersOf L 0 20) = z) (W : World) (hB : BytesAt W a L) :
    Calls Tryd.prog 22 #[.slice a L.length cap, .int .i64 0, .int .i64 20] W fun e w' => e = .returned (.string z) ∧ W = w' := by
  refine (letters22 L a cap 0 20 (by omega) (by omega) _hL W hB).mono ?_
  rintro e V ⟨o, rfl, ho, rfl⟩
  rw [bytesOf_eq ho, hz]
  exact ⟨rfl, rfl⟩
/-- what a call of lexeme.Fields lays: a row of strings at a block of its own -/
theorem fields_is (s : ByteArray) (hs : s.size ≤ 300) (ws : List (List UInt8)) (hg : fieldsGo s.data.toList [] [] false false = some ws) (hw : 0 < ws.length) (w : World) :
    Calls Tryd.prog 34 #[.string s] w fun e w' => ∃ (g cap : Nat), e = .returned (.tuple #[.slice (some ⟨g, 0, none⟩) ws.length cap, .int .i64 0]) ∧ w.heap.size ≤ g ∧ ws.length ≤ cap ∧ cap ≤ maxLen ∧
      (∀ j, j < ws.length → w'.cell? ⟨g, j, none⟩ = some (.string (bytesOf (ws.getD j [])))) ∧ Below w.heap.size w w' := by
  have e1 : fieldsE s.data.toList = 0 := by unfold fieldsE; rw [if_neg (by rw [len_eq]; omega), hg]; rfl
  have e2 : fieldsL s.data.toList = ws := by unfold fieldsL; rw [if_neg (by rw [len_eq]; omega), hg]; rfl
  have h := Lex.fields_any s (by unfold maxLen; omega) w
  rw [e1, e2] at h
  refine h.mono ?_
  rintro e V ⟨v, rfl, ⟨h1, h2⟩, hB⟩
  rcases h2 with ⟨_, h0⟩ | ⟨g, cap, cur, rfl, hg1, hg2, hn, hc, hcs, ht⟩
  · omega
  · refine ⟨g, cap, rfl, hg1, hn, hc, fun j hj => ?_, hB⟩
    have e3 : cur[j]? = some (.string (bytesOf (ws.getD j []))) := by
      have := congrArg (fun l => l[j]?) ht
      simp only [Nat.mul_one, List.getElem?_take, if_pos hj, Array.getElem?_toList, List.getElem?_map] at this
      rw [this, getD_lt hj, List.getElem?_eq_getElem hj]
      rfl
    simp [World.cell?, hg2, e3]
end Go.Proofs.YticmkjcaekhgpaaDoor
