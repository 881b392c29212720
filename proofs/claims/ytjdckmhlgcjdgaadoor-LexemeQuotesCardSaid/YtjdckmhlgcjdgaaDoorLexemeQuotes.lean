/- The law LexemeQuotes returns true for all drafts and numbers, and its tied card holds; no condition beyond the row itself. -/
import Derived.Test.YtjdckmhlgcjdgaaDoorMade
import Derived.Test.YtjdckmhlgcjdgaaDoorLxS
import Derived.Deep.QuietTactic
import Derived.BigQuiet
namespace Go.Proofs.YtjdckmhlgcjdgaaDoor
open Go.ChangeShapes Go.WideShapes Go.ChangeAt Go.RowKit
open Go.ChangeMaps (open_string)
open Lx
open Lex (strV bytesOf fieldsL fieldsE)

theorem max_at {W : World} (h : W.ShapedOpen Tryd.prog) : MaxAt W := by
  obtain ⟨m, hm⟩ := maxLen_cell h
  exact ⟨block_lt_of_cell hm, m, hm⟩
def qa (n : Nat) (f : List UInt8) : Nat := n % (f.length + 1)
def qb (n m : Nat) (f : List UInt8) : Nat := m % (f.length - qa n f + 1)
def pieceQ (n m : Nat) (f : List UInt8) : List UInt8 := quote3 f (qa n f) (qa n f + qb n m f)
theorem qa_le (n : Nat) (f : List UInt8) : qa n f ≤ f.length := by unfold qa; have := Nat.mod_lt n (show 0 < f.length + 1 by omega); omega
theorem qb_le (n m : Nat) (f : List UInt8) : qa n f + qb n m f ≤ f.length := by
  have h1 := qa_le n f
  unfold qb
  have := Nat.mod_lt m (show 0 < f.length - qa n f + 1 by omega)
  omega
theorem quote3_len (f : List UInt8) (a b : Nat) (hab : a ≤ b) (hb : b ≤ f.length) : (quote3 f a b).length = f.length + 6 := by
  unfold quote3
  simp only [List.length_cons, List.length_append, List.length_take, List.length_drop, List.length_nil]
  omega
theorem pieceQ_len (n m : Nat) (f : List UInt8) : (pieceQ n m f).length = f.length + 6 := quote3_len _ _ _ (by omega) (qb_le n m f)
theorem sepBy_take (s : UInt8) (T : List (List UInt8)) (k : Nat) (hk : k < T.length) : sepBy s (T.take (k + 1)) = (if k = 0 then [] else sepBy s (T.take k) ++ [s]) ++ T[k] := by
  rw [List.take_succ_eq_append_getElem hk]
  by_cases h : k = 0
  · subst h; simp [sepBy]
  · rw [if_neg h, sepBy_snoc]
    · simp
    · intro e
      have := congrArg List.length e
      rw [List.length_take, List.length_nil] at this
      omega
theorem quote_step {x : ByteArray} {f : List UInt8} (hx : x.data.toList = f) (a b : Nat) :
    ((⟨#[34]⟩ : ByteArray) ++ x.extract 0 a ++ ⟨#[34, 34]⟩ ++ x.extract a (a + b) ++ ⟨#[34, 34]⟩ ++ x.extract (a + b) x.size ++ ⟨#[34]⟩).data.toList = quote3 f a (a + b) := by
  have hsz : x.size = f.length := by rw [← Lex.len_eq, hx]
  simp only [app_list, ext_list, hx]
  unfold quote3
  rw [List.drop_take, hsz, List.take_of_length_le (l := f.drop (a + b)) (by rw [List.length_drop]; omega)]
  simp
theorem line_step {F : List (List UInt8)} {n m k : Nat} {y z : ByteArray} (hk : k < F.length) (hy : y.data.toList = sepBy 9 ((F.map (pieceQ n m)).take k)) (hz : z.data.toList = (if k = 0 then [] else [9]) ++ pieceQ n m (F.getD k [])) :
    (y ++ z).data.toList = sepBy 9 ((F.map (pieceQ n m)).take (k + 1)) := by
  rw [app_list, sepBy_take 9 _ k (by simpa using hk), hy, hz, getD_lt hk, List.getElem_map]
  by_cases h0 : k = 0
  · subst h0; simp [sepBy]
  · simp [h0]
theorem sep_len (T : List (List UInt8)) (N : Nat) (h : ∀ t ∈ T, t.length ≤ N) : (sepBy 9 T).length ≤ T.length * (N + 1) := by
  cases T with
  | nil => simp [sepBy]
  | cons t r =>
    have h1 : ∀ r : List (List UInt8), (∀ t ∈ r, t.length ≤ N) → (r.flatMap fun g => (9 : UInt8) :: g).length ≤ r.length * (N + 1) := by
      intro r
      induction r with
      | nil => intro _; simp
      | cons a q ih =>
        intro hr
        have h2 := ih (fun t ht => hr t (by simp [ht]))
        have h3 := hr a (by simp)
        rw [List.flatMap_cons, List.length_append, List.length_cons, List.length_cons, Nat.succ_mul]
        omega
    have h4 := h1 r (fun t ht => h t (by simp [ht]))
    have h5 := h t (by simp)
    simp only [sepBy, List.length_append, List.length_cons, Nat.succ_mul]
    omega

set_option maxHeartbeats 4000000 in
set_option maxRecDepth 100000 in
theorem lexemeQuotes_walk (R : List (List UInt8)) (a : Option Addr) (c : Nat) (hc : R.length ≤ c) (hcm : c ≤ maxLen) (n m : Nat) (hn : n ≤ 255) (hm' : m ≤ 255) (W : World) (hR : RowsAt W a R) (hm : MaxAt W) :
    Calls Tryd.prog 4 #[.slice a R.length c, .int .u8 n, .int .u8 m] W fun e w' => e = .returned (.bool true) ∧ Below W.heap.size W w' := by
  have HM := Lib.hid hm
  have CM := Lib.hid (made_any R a c hc hcm W hR)
  obtain ⟨F, hF⟩ : ∃ F, madeL R = F := ⟨_, rfl⟩
  have hF1 : F.length ≤ 12 := by rw [← hF]; exact madeL_len R
  have hF2 : ∀ p ∈ F, p.length ≤ 12 ∧ goodF p = true := by rw [← hF]; exact fun p hp => madeL_mem hp
  have HF2 := Lib.hid hF2
  rw [hF] at CM
  unfold maxLen at hcm
  have hni : (n : Int) ≤ 255 := by omega
  have hmi : (m : Int) ≤ 255 := by omega
  clear hm hF hR hF2
  go_enter Tryd.func4, Tryd.ntmps4
  go_wp2_with fail
  refine CM.out.mono ?_
  rintro e V1 ⟨v, rfl, hown, hB1⟩
  have B1 := Lib.hid hB1
  have hV := StrsV.of_own hown
  obtain ⟨a1, c1, rfl, h1, h2, h3⟩ := hV
  have HV := Lib.hid (show StrsV V1 (.slice a1 F.length c1) F from ⟨a1, c1, rfl, h1, h2, h3⟩)
  have HCELL := Lib.hid (show ∀ k, k < F.length → ∃ b o x, a1 = some ⟨b, o, none⟩ ∧ V1.cell? ⟨b, o + k, none⟩ = some (.string x) ∧ x.data.toList = F.getD k [] by
    intro k hk
    rcases h3 with h | ⟨b, o, e, h⟩
    · rw [h] at hk; simp at hk
    · exact ⟨b, o, bytesOf (F.getD k []), e, h k hk, rfl⟩)
  unfold maxLen at h2
  clear hown hB1 h3
  go_wp2
  go_loopw [8, 19] (fun s i wr => ∃ (k nq : Nat) (y : ByteArray), wr = V1.drewN nq ∧ k ≤ F.length ∧ i = .int .i64 k ∧ s = .string y ∧ y.size ≤ 300 ∧ Hid (y.data.toList = sepBy 9 ((F.map (pieceQ n m)).take k))) (fun _ i _ => F.length - (intOf i).toNat)
  case atStart => exact ⟨0, 0, ⟨#[]⟩, rfl, Nat.zero_le _, rfl, rfl, Nat.zero_le _, Lib.hid rfl⟩
  case round =>
    obtain ⟨k, nq0, y, rfl, hk, rfl, rfl, hy, HY⟩ := hrel
    by_cases hlt : k < F.length
    · obtain ⟨b, o, x, rfl, hcell, hx⟩ := HCELL.out k hlt
      obtain ⟨f, hf⟩ : ∃ f, F.getD k [] = f := ⟨_, rfl⟩
      rw [hf] at hx
      have hxs : x.size = f.length := by rw [← Lex.len_eq, hx]
      have hfm : f ∈ F := by rw [← hf, getD_lt hlt]; exact List.getElem_mem hlt
      have hf12 : x.size ≤ 12 := by rw [hxs]; exact (HF2.out f hfm).1
      obtain ⟨qA, hqa⟩ : ∃ q, qa n f = q := ⟨_, rfl⟩
      obtain ⟨qB, hqb⟩ : ∃ q, qb n m f = q := ⟨_, rfl⟩
      have hA1 : qA ≤ x.size := by rw [hxs, ← hqa]; exact qa_le n f
      have hB1 : qA + qB ≤ x.size := by rw [hxs, ← hqa, ← hqb]; exact qb_le n m f
      have tA : (n : Int) % ((x.size : Int) + 1) = (qA : Int) := by rw [hxs, ← hqa]; unfold qa; simp
      have tB : (m : Int) % ((x.size : Int) - (qA : Int) + 1) = (qB : Int) := by
        have e : (x.size : Int) - (qA : Int) + 1 = ((f.length - qA + 1 : Nat) : Int) := by omega
        rw [e, ← hqb]
        unfold qb
        rw [hqa, Int.natCast_emod]
      have hAi : (qA : Int) ≤ (x.size : Int) := by omega
      have hBi : (qA : Int) + (qB : Int) ≤ (x.size : Int) := by omega
      have hpos : (0 : Int) < (x.size : Int) - (qA : Int) + 1 := by omega
      have hpos1 : (0 : Int) < (x.size : Int) + 1 := by omega
      have HZ := Lib.hid (show ((⟨#[34]⟩ : ByteArray) ++ x.extract 0 qA ++ ⟨#[34, 34]⟩ ++ x.extract qA (qA + qB) ++ ⟨#[34, 34]⟩ ++ x.extract (qA + qB) x.size ++ ⟨#[34]⟩).data.toList = pieceQ n m (F.getD k []) by
        rw [quote_step hx qA qB, hf]
        unfold pieceQ
        rw [hqa, hqb])
      have hlen3 : ((F.map (pieceQ n m)).take (k + 1)).length ≤ 12 := by rw [List.length_take, List.length_map]; omega
      have HLEN := Lib.hid (show (sepBy 9 ((F.map (pieceQ n m)).take (k + 1))).length ≤ 12 * 19 from by
        have h9 := sep_len ((F.map (pieceQ n m)).take (k + 1)) 18 (fun t ht => by
          obtain ⟨g, hg, rfl⟩ := List.mem_map.1 (List.mem_of_mem_take ht)
          rw [pieceQ_len]
          have := (HF2.out g hg).1
          omega)
        omega)
      clear hf hx hxs hfm hqa hqb hlen3
      by_cases hk0 : k = 0
      · subst hk0
        have hcell0 : V1.cell? ⟨b, o, none⟩ = some (.string x) := hcell
        clear hcell
        go_wp2
        go_quiet (fail)
        go_wp2
        go_roundw
        case rel => exact ⟨1, nq0 + nq, _, by simp, by omega, by first | go_num | rfl, rfl, by rw [← Lex.len_eq, line_step hlt HY.out (by rw [HZ.out]; rfl)]; have := HLEN.out; omega, Lib.hid (line_step hlt HY.out (by rw [HZ.out]; rfl))⟩
        case measure => simp [intOf]; omega
      · have hk0i : (0 : Int) < (k : Int) := by omega
        have hk0n : 0 < k := by omega
        have HK0 := Lib.hid hk0
        clear hk0
        go_wp2
        go_quiet (fail)
        go_wp2
        go_roundw
        case rel =>
          have HE := Lib.hid (show (y ++ ⟨#[9]⟩ ++ ((⟨#[34]⟩ : ByteArray) ++ x.extract 0 qA ++ ⟨#[34, 34]⟩ ++ x.extract qA (qA + qB) ++ ⟨#[34, 34]⟩ ++ x.extract (qA + qB) x.size ++ ⟨#[34]⟩)).data.toList = sepBy 9 ((F.map (pieceQ n m)).take (k + 1)) by
            rw [← line_step (z := (⟨#[9]⟩ : ByteArray) ++ ((⟨#[34]⟩ : ByteArray) ++ x.extract 0 qA ++ ⟨#[34, 34]⟩ ++ x.extract qA (qA + qB) ++ ⟨#[34, 34]⟩ ++ x.extract (qA + qB) x.size ++ ⟨#[34]⟩)) hlt HY.out (by rw [app_list, HZ.out, if_neg HK0.out])]
            simp only [app_list, List.append_assoc])
          exact ⟨k + 1, nq0 + nq, _, by simp, by omega, by go_num, rfl, by rw [← Lex.len_eq, HE.out]; have := HLEN.out; omega, HE⟩
        case measure => simp [intOf]; omega
    · have hke : k = F.length := by omega
      subst hke
      have hlist : y.data.toList = sepBy 9 (F.map (pieceQ n m)) := by
        rw [HY.out, List.take_of_length_le (by rw [List.length_map]; exact Nat.le_refl _)]
      have hgo : Lex.fieldsGo y.data.toList [] [] false false = some F := by
        have := go_sep 9 (.inr rfl) (F.map fun f => (pieceQ n m f, f)) (fun p hp => by
          obtain ⟨f, hf, rfl⟩ := List.mem_map.1 hp
          exact quote3_field f _ _ (by omega) (HF2.out f hf).2) [] clos_nil
        rw [List.append_nil, List.map_map, List.map_map] at this
        rw [hlist]
        simpa [Function.comp_def] using this
      obtain ⟨e1, e2⟩ := fields_of (by rw [Lex.len_eq]; exact hy) hgo
      have CF := Lib.hid (fun V : World => fields_c y F 0 (by omega) e1 e2 V)
      clear hlist hgo e1 e2
      go_wp2_with fail
      refine (CF.out _).mono ?_
      rintro e V2 ⟨v2, rfl, a2, k2⟩
      have B2 := Lib.hid ((below_drewN B1.out nq0).trans (k2.mono B1.out.size))
      have A2 := Lib.hid a2
      have HV2 := Lib.hid ((HV.out.drewN nq0).keep k2)
      clear a2 k2
      go_wp2_with fail
      refine (equal_is true A2.out HV2.out (by simp)).mono ?_
      rintro e V3 ⟨rfl, q, rfl⟩
      have B3 := Lib.hid (below_drewN B2.out q)
      go_wp2_with fail
      refine (works_any _ (HM.out.keep B3.out)).mono ?_
      rintro e V4 ⟨rfl, k4⟩
      go_wp2
      go_ret
      exact ⟨rfl, B3.out.trans (k4.mono B3.out.size)⟩
theorem lexemeQuotes_int (R : List (List UInt8)) (a : Option Addr) (c : Nat) (hc : R.length ≤ c) (hcm : c ≤ maxLen) (n m : Int) (hn : (Lit.int .u8 n).wf = true) (hm' : (Lit.int .u8 m).wf = true) (W : World) (hR : RowsAt W a R) (hm : MaxAt W) :
    Calls Tryd.prog 4 #[.slice a R.length c, .int .u8 n, .int .u8 m] W fun e w' => e = .returned (.bool true) ∧ Below W.heap.size W w' := by
  have h1 := bounds_u8 hn
  have h2 := bounds_u8 hm'
  obtain ⟨n, rfl⟩ := Int.eq_ofNat_of_zero_le (show 0 ≤ n by omega)
  obtain ⟨m, rfl⟩ := Int.eq_ofNat_of_zero_le (show 0 ≤ m by omega)
  exact lexemeQuotes_walk R a c hc hcm n m (by omega) (by omega) W hR hm

namespace lexemeQuotes
theorem own : ownKnob Tryd.prog.godebug = none := by kernel_rfl
set_option maxHeartbeats 2000000 in
set_option maxRecDepth 100000 in
theorem lifted (os : Os) (started : os.Started) (H : Type) (enc : TypeId × Value → H) :
    ReturnsInHanded {} Tryd.checked os 4 .any (fun w args => (Rows.lexemeQuotesSpec.pre enc Tryd.prog Tryd.f4 Rows.lexemeQuotesRow.domain false w args ∧ laidMetH Tryd.prog Rows.lexemeQuotesRow.laid w) ∧ sizedMet enc Tryd.prog Tryd.f4 (OpenSpec.ofChange Rows.lexemeQuotesSpec) false w args)
      (Rows.lexemeQuotesSpec.post enc Tryd.prog Tryd.f4 false true false false) := by
  refine handed_shaped (X := fun w _ => laidMetH Tryd.prog Rows.lexemeQuotesRow.laid w) own started (by kernel_rfl) Tryd.func4
    (ChangeSpec.witness_shaped (enc := enc) (C := Tryd.checked) (os := os) (X := fun w _ => laidMetH Tryd.prog Rows.lexemeQuotesRow.laid w) false (World.laidAll Tryd.prog os Rows.lexemeQuotesRow.laid) #[.slice none 0 0, .int .u8 0, .int .u8 0] 8 (World.laidAll_os _ _ _)
      (World.shaped_of_ZipB (by kernel_rfl) (by kernel_rfl)) (by kernel_rfl) (by kernel_rfl) (by kernel_rfl)
      (by rw [MakeChecks.laidMetH_plain _ _ _ (by kernel_rfl)]; exact laidMet_laidAll _ (by kernel_rfl) (by kernel_rfl))) ?_
  intro W base args ds gs before hval0 hW hsh
  have hval : ∀ (j : Nat) t v, Tryd.f4.params[j]? = some t → args[j]? = some v → Value.okWide Tryd.prog W .any base t v := hval0
  have hW' := hW
  obtain ⟨p, q, hA0, hV, rfl, _, _⟩ := hW
  have hA : DataW.TrodAll enc Tryd.prog W 0 (fun _ => true) true Tryd.f4.params.toList args.toList ds p := hA0
  rw [Tryd.params4] at hA hval
  obtain ⟨v0, vs0, d0, ds0, p0, q0, hargs, rfl, rfl, h0, r0⟩ := trodAll_cons hA
  obtain ⟨v1, vs1, d1, ds1, p1, q1, rfl, rfl, rfl, h1, r1⟩ := trodAll_cons r0
  obtain ⟨v2, vs2, d2, ds2, p2, q2, rfl, rfl, rfl, h2, r2⟩ := trodAll_cons r1
  obtain ⟨rfl, rfl, rfl⟩ := trodAll_nil r2
  obtain rfl : args = #[v0, v1, v2] := by cases args; simp_all
  obtain ⟨rfl, rfl⟩ := trodVars_none hV
  obtain ⟨a0, c0, R0, rfl, hc0, hx0, hb0⟩ := open_rows Tryd.underlying30 (hval 0 30 v0 rfl rfl) h0
  obtain ⟨n1, rfl, rfl, rfl, hn1⟩ := open_int Tryd.underlying5 (hval 1 5 v1 rfl rfl) h1
  obtain ⟨n2, rfl, rfl, rfl, hn2⟩ := open_int Tryd.underlying5 (hval 2 5 v2 rfl rfl) h2
  refine (lexemeQuotes_int R0 a0 c0 hc0 hx0 n1 n2 hn1 hn2 W hb0 (max_at hsh)).mono fun e W' ⟨he, hB⟩ => ?_
  subst he
  refine ⟨_, rfl, post_law (by kernel_rfl) ?_ rfl hW' rfl rfl Tryd.underlying4 hB⟩
  rw [Tryd.params4]
  intro t ht
  have hall : ([30, 5, 5].all fun u => Tryd.prog.readableRec u && decide (u < Tryd.prog.types.size)) = true := by kernel_rfl
  have h1 := List.all_eq_true.1 hall t ht
  have h2 : Tryd.prog.readableRec t = true ∧ t < Tryd.prog.types.size := by simpa using h1
  exact h2

theorem said : Rows.LexemeQuotesSaid :=
  OpenClaim.holds_of_wide 4 Tryd.f4 rfl rfl rfl rfl rfl rfl rfl ⟨rfl, rfl, rfl, rfl, rfl⟩ rfl rfl rfl rfl rfl (by kernel_rfl) Tryd.func4 (by kernel_rfl)
    (of_decide_eq_true (by kernel_rfl)) (by unfold Func.isWrapper; first | (rw [if_pos (by decide +kernel)]; kernel_rfl) | (rw [if_neg (by decide +kernel)]; exact ⟨rfl, rfl⟩))
    (fun os started H enc _ => lifted os started H enc)
theorem plain (f : FuncId) (fn : Func) (hf : Tryd.pinned.checked.prog.funcNamed "analemma/analemmalaw05.LexemeQuotes" = some f) (hfn : Tryd.pinned.checked.prog.funcs[f]? = some fn) :
    false = Tryd.pinned.checked.prog.looks [] ∧ ∀ (j : Nat) t, fn.params[j]? = some t → Tryd.pinned.checked.prog.wantsStandIn t = false := by
  obtain rfl : f = 4 := Option.some.inj ((show Tryd.prog.funcNamed "analemma/analemmalaw05.LexemeQuotes" = some 4 by kernel_rfl).symm.trans hf) |>.symm
  obtain rfl : fn = Tryd.f4 := (Option.some.inj (Tryd.func4.symm.trans hfn)).symm
  refine ⟨by kernel_rfl, fun j t ht => ?_⟩
  rw [Tryd.params4] at ht
  have hm : t ∈ [30, 5, 5] := by simpa using Array.mem_of_getElem? ht
  have hall : ([30, 5, 5].all fun u => !Tryd.prog.wantsStandIn u) = true := by kernel_rfl
  exact (show Tryd.prog.wantsStandIn t = false by simpa using List.all_eq_true.1 hall t hm)
theorem card : Rows.LexemeQuotesCardSaid :=
  Claim7.holds_tied_plain_at .later [] _ _ _ _ said (fun _ h => by cases h) (by kernel_rfl) (fun _ h => by cases h) lexemeQuotes_row_tie rfl ⟨rfl, rfl⟩ (by kernel_rfl) rfl plain (by kernel_rfl)
end lexemeQuotes
#print axioms lexemeQuotes.card
end Go.Proofs.YtjdckmhlgcjdgaaDoor
