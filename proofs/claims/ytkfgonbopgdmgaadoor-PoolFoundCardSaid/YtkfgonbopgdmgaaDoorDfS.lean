/- The function pool.different at strings: the different strings of a list, and the indexes. -/
import Derived.Test.YtkfgonbopgdmgaaDoorDfP
import Derived.Test.YtkfgonbopgdmgaaDoorSla
import Derived.Test.YtkfgonbopgdmgaaDoorSoA
namespace Go.Proofs.YtkfgonbopgdmgaaDoor.Px
open Go.RowKit
open Go.Maps (Keyed)

/-- a slice of strings in memory -/
def StrV (W : World) (v : Value) (L : List (List UInt8)) : Prop := SlV W v 1 L.length (L.map sv)
theorem StrV.keep {W W' : World} {v : Value} {L : List (List UInt8)} (h : StrV W v L) (hB : Below W.heap.size W W') : StrV W' v L := SlV.keep h hB
theorem StrV.slice {W : World} {v : Value} {L : List (List UInt8)} (h : StrV W v L) : ∃ a c, v = .slice a L.length c ∧ L.length ≤ c ∧ c ≤ maxLen := by
  obtain ⟨_, a, c, e, h1, h2, _⟩ := h
  exact ⟨a, c, e, h1, h2⟩
theorem StrV.all {W : World} {v : Value} {L : List (List UInt8)} (h : StrV W v L) (h0 : 0 < L.length) : ∃ b o c, v = .slice (some ⟨b, o, none⟩) L.length c ∧ L.length ≤ c ∧ c ≤ maxLen ∧ b < W.heap.size ∧
    ∀ (i : Nat) (x : List UInt8), L[i]? = some x → W.cell? ⟨b, o + i, none⟩ = some (.string (bs x)) := by
  obtain ⟨_, a, c, e, h1, h2, h3⟩ := h
  rcases h3 with h3 | ⟨b, o, ea, hb, hc⟩
  · omega
  · subst ea
    exact ⟨b, o, c, e, h1, h2, hb, fun i x hx => hc i _ (by rw [List.getElem?_map, hx]; rfl)⟩
theorem info_parts' {t : TypeId} {z : Value} {m b : Nat} (h : (Tryd.prog.info? t).map (fun i => (i.zero, i.size, i.bytes)) = some (some z, m, b)) : ∃ i, Tryd.prog.info? t = some i ∧ i.zero = some z ∧ i.size = m ∧ i.bytes = b := by
  cases e : Tryd.prog.info? t with
  | none => rw [e] at h; cases h
  | some i =>
    rw [e] at h
    simp only [Option.map_some, Option.some.injEq, Prod.mk.injEq] at h
    exact ⟨i, rfl, h.1, h.2.1, h.2.2⟩
theorem infoS : (Tryd.prog.info? 9).map (fun i => (i.zero, i.size, i.bytes)) = some (some (.string ⟨#[]⟩), 1, 16) := by kernel_rfl
theorem infoI : (Tryd.prog.info? 3).map (fun i => (i.zero, i.size, i.bytes)) = some (some (.int .i64 0), 1, 8) := by kernel_rfl
def nInt (l : List Nat) : List Value := l.map (fun (k : Nat) => Value.int .i64 (k : Int))
theorem nInt_snoc (l : List Nat) (k : Nat) : nInt (l ++ [k]) = nInt l ++ [.int .i64 (k : Int)] := by unfold nInt; simp
theorem svs_snoc (l : List (List UInt8)) (x : List UInt8) : (l ++ [x]).map sv = l.map sv ++ [.string (bs x)] := by simp [sv]
def keyS (l : List UInt8) : Lit := .string l
theorem keyS_same (a b : List UInt8) : (keyS a).sameKey (keyS b) = true ↔ a = b := ⟨fun h => by have := WideAt.sameKey_eq h; unfold keyS at this; simpa using this, fun e => by rw [e]; exact WideAt.sameKey_self trivial⟩
theorem keyS_is {l : List UInt8} (h : l.length ≤ maxLen) : keyOf Tryd.prog 9 (.string (bs l)) = some (keyS l) := strKey_is (s := bs l) h
/-- the two slices of different -/
def dsR (v5 v6 : Value) (O : List (List UInt8)) (I : List Nat) : List Rw := [⟨v5, 9, 1, O.length, O.map sv⟩, ⟨v6, 3, 1, I.length, nInt I⟩]
/-- what the loop keeps -/
def Ds (L : List (List UInt8)) (W : World) (i : Nat) (v5 v6 : Value) (X : World) : Prop :=
  ∃ n D, n ≤ i ∧ Km [] (dsR v5 v6 (diffA [] (L.take i)).1 (diffA [] (L.take i)).2) [⟨W.heap.size, 9, 3, n, D⟩] W X ∧ FnOf D (idxA keyS (diffA [] (L.take i)).1)
set_option maxHeartbeats 8000000 in
set_option maxRecDepth 100000 in
theorem diffS_any (L : List (List UInt8)) (v : Value) (W : World) (h : StrV W v L) (hf : ∀ l ∈ L, l.length ≤ maxLen) (hmax : L.length ≤ 1000000) :
    Calls Tryd.prog 36 #[v] W fun e w' => ∃ tv iv, e = .returned (.tuple #[tv, iv]) ∧ Kp [] (dsR tv iv (diffA [] L).1 (diffA [] L).2) W w' := by
  obtain ⟨a, c, rfl, hc1, hc2⟩ := h.slice
  have hall := fun h0 => h.all h0
  obtain ⟨n, hn⟩ : ∃ n, L.length = n := ⟨_, rfl⟩
  rw [hn] at hall hmax hc1 ⊢
  unfold maxLen at hc2
  have HA := Lib.hid hall
  have HN := Lib.hid hn
  have HF := Lib.hid hf
  have K0 := Lib.hid ((((Km.of (Kp.start W)).made 9 3).fresh 3 1).fresh 9 1)
  have T0 := Lib.hid (show Ds L W 0 (.slice none 0 0) (.slice none 0 0) _ from ⟨0, _, Nat.le_refl _, K0.out, FnOf.empty⟩)
  have hmm := fun (n : Int) (w : World) => run_makeMap_hint (P := Tryd.prog) Tryd.underlying66 n w
  obtain ⟨i0, hi, hz0, hz1, hz2⟩ := info_parts' infoS
  obtain ⟨j0, hj, hy0, hy1, hy2⟩ := info_parts' infoI
  clear h hall hn hf K0
  go_enter Tryd.func36, Tryd.ntmps36
  go_wp2_with fail
  go_loopw [5, 6, 8, 9, 10, 16] (fun v5 v6 _ _ _ i16 wr => ∃ i : Nat, i ≤ n ∧ i16 = .int .i64 i ∧ Ds L W i v5 v6 wr) (fun _ _ _ _ _ i16 _ => n - (intOf i16).toNat)
  case atStart => exact ⟨0, by omega, rfl, T0.out⟩
  case round =>
    obtain ⟨i, hi', rfl, hT⟩ := hrel
    obtain ⟨nm, D, hnm, hK, hD⟩ := hT
    obtain ⟨⟨O, I⟩, hO⟩ : ∃ p, diffA [] (L.take i) = p := ⟨_, rfl⟩
    rw [hO] at hK hD
    dsimp only [dsR] at hK hD
    obtain ⟨a5, c5, rfl⟩ : ∃ a c, u5 = .slice a O.length c := own_slice (hK.kp.row 0 rfl)
    have HK := Lib.hid hK
    have HD := Lib.hid hD
    have HO := Lib.hid hO
    have hlen := diffA_len (L.take i) []
    have hI : I.length = i := by
      rw [hO] at hlen
      rw [hlen.1, List.length_take, HN.out]
      omega
    have hOl : O.length ≤ i := by
      rw [hO] at hlen
      have := hlen.2
      rw [List.length_take, HN.out] at this
      simp at this
      omega
    clear hK hD hO hlen
    by_cases hlt : i < n
    · obtain ⟨b, o, c', e1, _, _, hb, hcell⟩ := HA.out (by omega)
      simp only [Value.slice.injEq] at e1
      obtain ⟨rfl, _, rfl⟩ := e1
      obtain ⟨l, hl⟩ : ∃ l, L[i]? = some l := ⟨_, List.getElem?_eq_getElem (by have := HN.out; omega)⟩
      have c0 := hcell i l hl
      have k0 := (HK.out.below.cell (p := ⟨b, o + i, none⟩) hb).trans c0
      have hbw : b < wr.heap.size := Nat.lt_of_lt_of_le hb HK.out.below.size
      have HFit := Lib.hid (HF.out l (List.mem_of_getElem? hl))
      have HLi := Lib.hid hl
      have hnO : O.Nodup := by
        have := diffA_nodup (L.take i) [] List.nodup_nil
        rw [HO.out] at this
        exact this
      have HS := Lib.hid (idxA_at keyS keyS_same l O hnO)
      have HL := Lib.hid (show diffA [] (L.take (i + 1)) = if l ∈ O then (O, I ++ [posA O l]) else (O ++ [l], I ++ [O.length]) by
        rw [List.take_add_one, HLi.out]
        show diffA [] (L.take i ++ [l]) = _
        rw [diffA_snoc, HO.out]
        dsimp only
        by_cases q : l ∈ O
        · rw [if_pos q, if_pos q]
        · rw [if_neg q, if_neg q])
      have hkey := Lib.hid (keyS_is HFit.out)
      clear c0 hl hcell hnO hmm
      obtain ⟨sl, hsl⟩ : ∃ s, bs l = s := ⟨_, rfl⟩
      rw [hsl] at k0 hkey
      have HSl := Lib.hid hsl
      clear hsl
      by_cases hm : l ∈ O
      · rw [if_pos hm] at HS HL
        obtain ⟨x, hx⟩ : ∃ x, posA O l = x := ⟨_, rfl⟩
        rw [hx] at HS HL
        have hS1 : (idxA keyS O (keyS l)).getD (.lit (.int .i64 0)) = .lit (.int .i64 (x : Int)) := by rw [HS.out]; rfl
        have hS2 : (idxA keyS O (keyS l)).isSome = true := by rw [HS.out]; rfl
        have HS1 := Lib.hid hS1
        have HS2 := Lib.hid hS2
        have K1 := Lib.hid (HK.out.swap.allocAt wr.heap.size rfl (.cells #[.int .i64 (x : Int)] 3))
        clear hS1 hS2 hm hx
        go_wp2_with (first
          | (at_lookup; refine wpList_look_ok_int _ rfl _ _ 66 rfl 9 3 .i64 str_keyed Tryd.underlying66 Tryd.underlying3 (zero_int _) W.heap.size nm D (idxA keyS O) HD.out rfl (HK.out.map _ (List.mem_cons_self ..)) _ (keyS l) rfl hkey.out (x : Int) HS1.out true HS2.out ?_)
          | (at_builtin; refine wpList_append_own_at _ rfl (.tmp 37) (.tmp 39) 25 rfl W.heap.size 3 j0 (.int .i64 0) 1 8 Tryd.underlying25 hj hy0 hy1 hy2 rfl (by decide) _ I.length _ rfl (K1.out.kp.row 0 rfl) ⟨wr.heap.size, 0, none⟩ 1 1 [.int .i64 (x : Int)] rfl rfl ?c1 ?c2 ?c3 ?c4 ?c5 ?_; (case c1 => exact World.news_of_block (K1.out.kp.at 0 rfl)); (case c2 => simp [Value.oneCell']); (case c3 => unfold maxLen; omega); (case c4 => omega); (case c5 => exact K1.out.below.size); intro v' w1 hown hgrow _ hat; have K2 := Lib.hid (K1.out.append hown hgrow hat).drop.swap; clear hown hgrow hat)
          | go_in)
        go_roundw
        case rel =>
          refine ⟨i + 1, by omega, by go_num, ?_⟩
          unfold Ds
          rw [HL.out]
          refine ⟨nm, D, by omega, ?_, HD.out⟩
          dsimp only [dsR]
          rw [nInt_snoc, List.length_append]
          exact K2.out
        case measure => simp [intOf]; omega
      · rw [if_neg hm] at HS HL
        have hS1 : (idxA keyS O (keyS l)).getD (.lit (.int .i64 0)) = .lit (.int .i64 0) := by rw [HS.out]; rfl
        have hS2 : (idxA keyS O (keyS l)).isSome = false := by rw [HS.out]; rfl
        have HS1 := Lib.hid hS1
        have HS2 := Lib.hid hS2
        clear hS1 hS2 hm
        have hwf : (Lit.int .i64 (O.length : Int)).wf = true := wf_64 (by omega)
        have hnml : nm < maxLen := by unfold maxLen; omega
        have hval := Lib.hid (plainElem_int (H := Unit) (P := Tryd.prog) (q := .i64) Tryd.underlying3 hwf)
        have KE := Lib.hid (HK.out.allocAt wr.heap.size rfl (.cells #[.string sl] 9))
        go_wp2_with (first
          | (at_lookup; refine wpList_look_ok_int _ rfl _ _ 66 rfl 9 3 .i64 str_keyed Tryd.underlying66 Tryd.underlying3 (zero_int _) W.heap.size nm D (idxA keyS O) HD.out rfl (HK.out.map _ (List.mem_cons_self ..)) _ (keyS l) rfl hkey.out 0 HS1.out false HS2.out ?_)
          | (at_builtin; refine wpList_append_own_at _ rfl (.tmp 33) (.tmp 35) 22 rfl W.heap.size 9 i0 (.string ⟨#[]⟩) 1 16 Tryd.underlying22 hi hz0 hz1 hz2 rfl (by decide) _ O.length _ rfl (KE.out.kp.row 0 rfl) ⟨wr.heap.size, 0, none⟩ 1 1 [.string sl] rfl rfl ?c1 ?c2 ?c3 ?c4 ?c5 ?_; (case c1 => exact World.news_of_block (KE.out.kp.at 0 rfl)); (case c2 => simp [Value.oneCell']); (case c3 => unfold maxLen; omega); (case c4 => omega); (case c5 => exact KE.out.below.size); intro v' w1 hown hgrow _ hat; have K1 := Lib.hid (KE.out.append hown hgrow hat).drop; obtain ⟨u3, hu3, ou3, gu3⟩ := (K1.out.map _ (List.mem_cons_self ..)).update str_keyed Tryd.underlying66 hnml hkey.out hval.out; have KF := Lib.hid (K1.out.turn gu3 ou3); have K9 := Lib.hid (KF.out.swap.alloc (.cells #[.int .i64 (O.length : Int)] 3)); clear hown hgrow hat ou3 gu3)
          | (at_builtin; refine wpList_append_own_at _ rfl (.tmp 37) (.tmp 39) 25 rfl W.heap.size 3 j0 (.int .i64 0) 1 8 Tryd.underlying25 hj hy0 hy1 hy2 rfl (by decide) _ I.length _ rfl (K9.out.kp.row 0 rfl) _ 1 1 [.int .i64 (O.length : Int)] rfl rfl ?c1 ?c2 ?c3 ?c4 ?c5 ?_; (case c1 => exact World.news_of_block (K9.out.kp.at 0 rfl)); (case c2 => simp [Value.oneCell']); (case c3 => unfold maxLen; omega); (case c4 => omega); (case c5 => exact K9.out.below.size); intro v' w1 hown hgrow _ hat; have K2 := Lib.hid (K9.out.append hown hgrow hat).drop.swap; clear hown hgrow hat)
          | go_in)
        go_roundw
        case rel =>
          refine ⟨i + 1, by omega, by go_num, ?_⟩
          unfold Ds
          rw [HL.out]
          refine ⟨nm + 1, D.put (keyS l) (.lit (.int .i64 (O.length : Int))), by omega, ?_, ?_⟩
          · dsimp only [dsR]
            rw [nInt_snoc, svs_snoc, List.length_append, List.length_append, HSl.out]
            exact K2.out
          · rw [idxA_snoc]
            exact HD.out.put (k := keyS l) trivial _
        case measure => simp [intOf]; omega
    · obtain rfl : i = n := by omega
      have hLt : L.take i = L := List.take_of_length_le (by have := HN.out; omega)
      have hE : diffA [] L = (O, I) := by rw [← HO.out, hLt]
      have HE := Lib.hid hE
      clear hLt hE hmm
      go_wp2_with fail
      refine bodyPost_ret (v := .tuple #[.slice a5 O.length c5, u6]) (by simp [results, Tryd.results36, go_sem]) rfl ⟨_, _, rfl, ?_⟩
      rw [HE.out]
      exact HK.out.kp
end Go.Proofs.YtkfgonbopgdmgaaDoor.Px
