/- The function Made of chapter 15's drafts, walked. -/
import Derived.Test.YtnffecoohkanhaaDoorM5
namespace Go.Proofs.YtnffecoohkanhaaDoor.Px
open Go.RowKit
open Go.Maps (Keyed)
open Lk Ld

theorem bs_ext {a b : ByteArray} (h : a.data.toList = b.data.toList) : a = b := by
  obtain ⟨⟨a⟩⟩ := a
  obtain ⟨⟨b⟩⟩ := b
  simpa using h
theorem itoa6 : ((List.range 12).all fun j => decide ((Lib.itoa (j : Int)).length ≤ 2)) = true := by kernel_rfl
theorem itoa_len {j : Nat} (h : j < 12) : (Lib.itoa (j : Int)).length ≤ 2 := by
  have := List.all_eq_true.1 itoa6 j (List.mem_range.2 h)
  exact of_decide_eq_true this
/-- one step of a region that draws: append by an equation of its run -/
theorem step_append_eq {P : Program} {ops : Array Oper} {o : Oper} {a : Act} {w : World} {K : Act → World → Prop} {Q : Exit → Act → World → Prop} {E : Prop} (hg : o.guard = none) (s x : Operand) (t : TypeId)
    (ho : o.op = .call { callee := .builtin .append, args := #[s, x], argTypes := #[t, t] }) (vs vx v' : Value) (w' : World) (hs : a.eval s = vs) (hx : a.eval x = vx) (hr : (Builtin.append_ #[t, t] o.type #[vs, vx]).run P w = .ok v' w') (hK : K (a.put o.dst v') w') :
    if Region.wanted o (yielded ops a.tmps) = true then Oper.wp P o a w K Q else E := by
  have hw : Region.wanted o (yielded ops a.tmps) = true := by simp [Region.wanted, hg]
  rw [if_pos hw]
  unfold Oper.wp execOp
  simp only [ho, resolve, invoke, builtin, Sem.run_bind, Sem.run_pure, Result.andThen_ok, List.map_toArray, List.map_cons, List.map_nil, hs, hx, hr]
  exact hK
theorem flat_drop {α β : Type} (f : α → List β) (k : Nat) (hf : ∀ x, (f x).length = k) : ∀ (L : List α) (i : Nat), (L.drop i).flatMap f = (L.flatMap f).drop (i * k)
  | L, 0 => by simp
  | [], i + 1 => by simp
  | x :: r, i + 1 => by
    have e : (i + 1) * k = i * k + k := by rw [Nat.add_mul]; omega
    rw [List.drop_succ_cons, flat_drop f k hf r i, List.flatMap_cons, List.drop_append, (List.drop_eq_nil_of_le (by rw [hf, e]; omega) : List.drop ((i + 1) * k) (f x) = []), hf, List.nil_append, e, Nat.add_sub_cancel]
theorem flat_take {α β : Type} (f : α → List β) (k : Nat) (hf : ∀ x, (f x).length = k) : ∀ (L : List α) (i : Nat), (L.take i).flatMap f = (L.flatMap f).take (i * k)
  | L, 0 => by simp
  | [], i + 1 => by simp
  | x :: r, i + 1 => by
    have e : (i + 1) * k = i * k + k := by rw [Nat.add_mul]; omega
    rw [List.take_succ_cons, List.flatMap_cons, flat_take f k hf r i, List.flatMap_cons, List.take_append, List.take_of_length_le (l := f x) (by rw [hf, e]; omega), hf, e, Nat.add_sub_cancel]
/-- a part of a slice whose elements have several cells -/
theorem rows_part {α : Type} (f : α → List Value) {sz : Nat} (hf : ∀ x, (f x).length = sz) {W : World} {b o n c i j : Nat} {L : List α} (h : SlV W (.slice (some ⟨b, o, none⟩) n c) sz n (L.flatMap f)) (hl : L.length = n) (hij : i ≤ j) (hj : j ≤ n) (hn : 0 < n) :
    SlV W (.slice (some ⟨b, o + i * sz, none⟩) (j - i) (c - i)) sz ((L.drop i).take (j - i)).length (((L.drop i).take (j - i)).flatMap f) := by
  obtain ⟨h0, a', c', e, h1, h2, h3⟩ := h
  simp only [Value.slice.injEq] at e
  obtain ⟨rfl, _, rfl⟩ := e
  have hlen : ((L.drop i).take (j - i)).length = j - i := by rw [List.length_take, List.length_drop, hl]; omega
  refine ⟨flat_len f sz hf _, some ⟨b, o + i * sz, none⟩, c - i, by rw [hlen], by rw [hlen]; omega, by omega, ?_⟩
  rcases h3 with h3 | ⟨b', o', ea, hb, hc⟩
  · omega
  · right
    cases ea
    refine ⟨b, o + i * sz, rfl, hb, fun k u hu => ?_⟩
    rw [flat_take f sz hf, flat_drop f sz hf, List.getElem?_take] at hu
    split at hu
    · rw [List.getElem?_drop] at hu
      rw [Nat.add_assoc]
      exact hc (i * sz + k) u hu
    · cases hu
def u8v (b : Nat) : Value := .int .u8 (b : Int)
set_option maxHeartbeats 8000000 in
set_option maxRecDepth 100000 in
theorem made_any (z l t : Nat) (To : List Nat) (tv : Value) (W : World) (hz : z < 256) (hl : l < 256) (ht : t < 256) (hT : SlV W tv 1 To.length (To.map u8v)) (hTo : ∀ b ∈ To, b < 256) (hE : EnvAt W) :
    Calls Tryd.prog 20 #[.agg #[.int .u8 (z : Int), .int .u8 (l : Int), tv, .int .u8 (t : Int)]] W fun e w' => ∃ zv lv, e = .returned (.agg #[.slice none 0 0, zv, lv, .slice none 0 0]) ∧
      Kp [] [⟨lv, 43, 2, l % 13, (rot (t % (l % 13)) (lkN (1 + z % 6) (l % 13) To)).flatMap kcells⟩, ⟨zv, 40, 2, 1 + z % 6, (zos (zN (1 + z % 6) t)).flatMap zcells⟩] W w' := by
  obtain ⟨n, hn⟩ : ∃ n, 1 + z % 6 = n := ⟨_, rfl⟩
  obtain ⟨m, hm⟩ : ∃ m, l % 13 = m := ⟨_, rfl⟩
  rw [hn, hm]
  obtain ⟨ta, tc, rfl, htc1, htc2⟩ := hT.slA
  have hall := fun h0 => hT.allA h0
  have HA := Lib.hid hall
  have HE := Lib.hid hE
  have HTo := Lib.hid hTo
  obtain ⟨q, hq⟩ : ∃ q, To.length = q := ⟨_, rfl⟩
  have HQ := Lib.hid hq
  rw [hq] at htc1 hall HA ⊢
  unfold maxLen at htc2
  have KB := Lib.hid (((Kp.start W).allocAt W.heap.size rfl (.cells #[.int .u8 (z : Int), .int .u8 (l : Int), .slice ta q tc, .int .u8 (t : Int)] 56)).allocAt (W.heap.size + 1) (by simp) (.cells #[.slice none 0 0, .slice none 0 0, .slice none 0 0, .slice none 0 0] 27))
  obtain ⟨W1, hW1⟩ : ∃ X, (W.alloc (.cells #[.int .u8 (z : Int), .int .u8 (l : Int), .slice ta q tc, .int .u8 (t : Int)] 56)).alloc (.cells #[.slice none 0 0, .slice none 0 0, .slice none 0 0, .slice none 0 0] 27) = X := ⟨_, rfl⟩
  rw [hW1] at KB
  obtain ⟨v0, v1, v2, v3⟩ := row4 (KB.out.at 1 rfl)
  clear hT hall hTo hE hq
  go_enter Tryd.func20, Tryd.ntmps20
  go_upto_region 1 with fail
  clear hW1
  go_quiet (fail)
  go_wp2_with fail
  have hnI : (1 : Int) + (z : Int) % 6 = (n : Int) := by omega
  have hmI : (l : Int) % 13 = (m : Int) := by omega
  have hn1 : 1 ≤ n := by omega
  have hn6 : n ≤ 6 := by omega
  have hm12 : m ≤ 12 := by omega
  simp only [hnI, hmI]
  have K1 := Lib.hid (show Kp [(W1.heap.size, .cells #[.slice none 0 0, .slice none 0 0, .slice none 0 0, .slice none 0 0] 27 (0, 0)), (W.heap.size + 1, .cells #[.slice none 0 0, .slice none 0 0, .slice none 0 0, .slice none 0 0] 27 (0, 0)), (W.heap.size, .cells #[.int .u8 (z : Int), .int .u8 (l : Int), .slice ta q tc, .int .u8 (t : Int)] 56 (0, 0))] [⟨.slice none 0 0, 40, 2, 0, (zos ((zN n t).take 0)).flatMap zcells⟩] W _ from ((KB.out.keep (below_drewN (Below.refl _ _) nq)).allocAt W1.heap.size rfl (.cells #[.slice none 0 0, .slice none 0 0, .slice none 0 0, .slice none 0 0] 27)).fresh 40 2)
  obtain ⟨Ws, hWs⟩ : ∃ b, W1.heap.size = b := ⟨_, rfl⟩
  rw [hWs] at K1 ⊢
  clear v0 v1 v2 v3 KB hWs
  go_loopw [6, 22] (fun _ i22 wr => ∃ (i : Nat) (v : Value), i ≤ n ∧ i22 = .int .i64 (i : Int) ∧ Kp [(Ws, .cells #[.slice none 0 0, v, .slice none 0 0, .slice none 0 0] 27 (0, 0)), (W.heap.size + 1, .cells #[.slice none 0 0, .slice none 0 0, .slice none 0 0, .slice none 0 0] 27 (0, 0)), (W.heap.size, .cells #[.int .u8 (z : Int), .int .u8 (l : Int), .slice ta q tc, .int .u8 (t : Int)] 56 (0, 0))] [⟨v, 40, 2, i, (zos ((zN n t).take i)).flatMap zcells⟩] W wr) (fun _ i22 _ => n - (intOf i22).toNat)
  case atStart => exact ⟨0, _, by omega, rfl, K1.out⟩
  case round =>
    obtain ⟨i, v, hi', rfl, hk⟩ := hrel
    obtain ⟨a3, c3, rfl⟩ : ∃ a c, v = .slice a i c := own_slice (hk.row 0 rfl)
    have HK := Lib.hid hk
    have KD := Lib.hid HK.out.drew
    clear hk K1
    by_cases hlt : i < n
    · obtain ⟨j, hj⟩ : ∃ j, (i + t) % n = j := ⟨_, rfl⟩
      have hjn : j < n := by rw [← hj]; exact Nat.mod_lt _ (by omega)
      have hjI : ((i : Int) + (t : Int)) % (n : Int) = (j : Int) := by rw [← hj]; simp
      have hjT : ((i : Int) + (t : Int)).tmod (n : Int) = (j : Int) := by rw [← hj, Int.tmod_eq_emod_of_nonneg (by omega)]; simp
      have hwr : IntKind.i64.wrap ((i : Int) + (t : Int)) = (i : Int) + (t : Int) := IntWalk.i64_in _ (by omega)
      have hwt : IntKind.i64.wrap (t : Int) = (t : Int) := IntWalk.i64_in _ (by omega)
      have hwt2 : IntKind.i64.wrap ((i : Int) + IntKind.i64.wrap (t : Int)) = (i : Int) + (t : Int) := by rw [hwt]; exact hwr
      have hwj : IntKind.i64.wrap (j : Int) = (j : Int) := IntWalk.i64_in _ (by omega)
      have hn0 : ¬ (n : Int) = 0 := by omega
      have hn00 : ¬ n = 0 := by omega
      have CI := Lib.hid (fun (Y : World) (hB : Below W.heap.size W Y) => itoa_any (j : Int) (by omega) (by omega) Y (HE.out.keep hB))
      have HTk := Lib.hid (show (zN n t).take (i + 1) = (zN n t).take i ++ [zName j] by
        rw [List.take_add_one]
        unfold zN
        rw [List.getElem?_map, List.getElem?_range hlt, ← hj]
        rfl)
      obtain ⟨sj, hsj⟩ : ∃ s, bs (Lib.itoa (j : Int)) = s := ⟨_, rfl⟩
      have HSj := Lib.hid (show (⟨#[90, 47]⟩ : ByteArray) ++ sj = bs (zName j) by rw [← hsj]; exact bs_ext (by unfold bs zName; simp))
      have hsl : sj.size ≤ 2 := by rw [← hsj]; exact itoa_len (by omega)
      have hcat : ¬ 9223372036854775807 < 2 + sj.size := by omega
      rw [hsj] at CI
      obtain ⟨iz, hiz, hz0, hz1, hz2⟩ := info_partsU infoZn
      obtain ⟨y0, y1, y2, y3⟩ := row4 (KD.out.at 0 rfl)
      obtain ⟨x0, x1, x2, x3⟩ := row4 (KD.out.at 2 rfl)
      clear hj hsj
      have hne1 : ¬ Ws = W.heap.size := HK.out.known.other (j := 0) (k := 2) rfl rfl (by decide)
      have hne2 : ¬ W.heap.size = Ws := fun e => hne1 e.symm
      go_upto_region 6 with fail
      go_region_law
        (first
        | (refine step_append_kp (by rfl) (.tmp 26) (.tmp 37) 23 (by rfl) (KX.out.allocAt X.heap.size rfl (.cells #[.string ((⟨#[90, 47]⟩ : ByteArray) ++ sj), .slice none 0 0] 40)) iz (.agg #[.string ⟨#[]⟩, .slice none 0 0]) 40 Tryd.underlying23 hiz hz0 hz1 hz2 (by rfl) (by decide) (by rfl) 0 _ _ _ (by rfl) 1 1 (by rfl) (by rfl) (by simp [Value.oneCell']) (by omega) (by omega) (by omega) ?_; intro g cap w1 hk; have K2 := Lib.hid hk.drop; obtain ⟨b0, b1, b2, b3⟩ := row4 (K2.out.at 0 rfl); obtain ⟨g0, g1, g2, g3⟩ := row4 (K2.out.at 2 rfl); have b4 := free_at (K2.out.at 0 rfl) 1; clear hk)
        | (go_simp; go_at_call 44; refine (CI.out _ KD.out.below).mono ?_; rintro e X ⟨rfl, hb⟩; have KX := Lib.hid (KD.out.keep hb); obtain ⟨c0, c1, c2, c3'⟩ := row4 (KX.out.at 0 rfl); obtain ⟨d0, d1, d2, d3⟩ := row4 (KX.out.at 2 rfl); have hwx := KX.out.lt 0 rfl; clear hb))
      all_goals
        have K3 := Lib.hid (K2.out.set 0 rfl 1 (.slice (some ⟨g, 0, none⟩) (i + 1) cap) rfl)
        go_wp2_with fail
        go_roundw
        case rel =>
          refine ⟨i + 1, .slice (some ⟨g, 0, none⟩) (i + 1) cap, by omega, by go_num, ?_⟩
          rw [HTk.out, zos_snoc, ← HSj.out]
          exact K3.out
        case measure => simp [intOf]; omega
    · obtain rfl : n = i := by omega
      have HTl := Lib.hid (show (zN n t).take n = zN n t from List.take_of_length_le (by rw [zN_len]; exact Nat.le_refl _))
      have hk := HK.out
      rw [HTl.out] at hk
      obtain ⟨Zs, hZs⟩ : ∃ z, (zos (zN n t)).flatMap zcells = z := ⟨_, rfl⟩
      rw [hZs] at hk
      have HKz := Lib.hid hk
      have HZs := Lib.hid hZs
      clear hk hZs HTl HK KD
      have K5 := Lib.hid (show Kp [(Ws, .cells #[.slice none 0 0, .slice a3 n c3, .slice none 0 0, .slice none 0 0] 27 (0, 0)), (W.heap.size + 1, .cells #[.slice none 0 0, .slice none 0 0, .slice none 0 0, .slice none 0 0] 27 (0, 0)), (W.heap.size, .cells #[.int .u8 (z : Int), .int .u8 (l : Int), .slice ta q tc, .int .u8 (t : Int)] 56 (0, 0))] [⟨.slice none 0 0, 43, 2, 0, ((lkN n m To).take 0).flatMap kcells⟩, ⟨.slice a3 n c3, 40, 2, n, Zs⟩] W _ from HKz.out.fresh 43 2)
      clear HKz
      go_wp2_with fail
      go_loopw [7, 8, 9, 10, 42] (fun _ _ _ _ i42 wr => ∃ (i : Nat) (v : Value), i ≤ m ∧ i42 = .int .i64 (i : Int) ∧ Kp [(Ws, .cells #[.slice none 0 0, .slice a3 n c3, v, .slice none 0 0] 27 (0, 0)), (W.heap.size + 1, .cells #[.slice none 0 0, .slice none 0 0, .slice none 0 0, .slice none 0 0] 27 (0, 0)), (W.heap.size, .cells #[.int .u8 (z : Int), .int .u8 (l : Int), .slice ta q tc, .int .u8 (t : Int)] 56 (0, 0))] [⟨v, 43, 2, i, ((lkN n m To).take i).flatMap kcells⟩, ⟨.slice a3 n c3, 40, 2, n, Zs⟩] W wr) (fun _ _ _ _ i42 _ => m - (intOf i42).toNat)
      case atStart => exact ⟨0, _, by omega, rfl, K5.out⟩
      case round =>
        obtain ⟨i, v, hi', rfl, hk⟩ := hrel
        obtain ⟨a4, c4, rfl⟩ : ∃ a c, v = .slice a i c := own_slice (hk.row 0 rfl)
        have HK := Lib.hid hk
        clear hk K5
        by_cases hlt : i < m
        · obtain ⟨b, hb⟩ : ∃ b, bOf To i = b := ⟨_, rfl⟩
          have hbd : b < 256 := by
            rw [← hb]
            unfold bOf
            split
            · omega
            · next h0 =>
              have hlt2 : i % To.length < To.length := Nat.mod_lt _ (by omega)
              rw [List.getD, List.getElem?_eq_getElem hlt2]
              exact HTo.out _ (List.getElem_mem hlt2)
          have HTk := Lib.hid (show (lkN n m To).take (i + 1) = (lkN n m To).take i ++ [(lName i, tOf n b i)] by
            rw [List.take_add_one]
            unfold lkN
            rw [List.getElem?_map, List.getElem?_range hlt, ← hb]
            rfl)
          have HB := Lib.hid hb
          clear hb
          obtain ⟨st, hst⟩ : ∃ s, bs (tOf n b i) = s := ⟨_, rfl⟩
          obtain ⟨si, hsi⟩ : ∃ s, bs (Lib.itoa (i : Int)) = s := ⟨_, rfl⟩
          have HSt := Lib.hid hst
          have HSi := Lib.hid (show (⟨#[76]⟩ : ByteArray) ++ si = bs (lName i) by rw [← hsi]; exact bs_ext (by unfold bs lName; simp))
          have hsil : si.size ≤ 2 := by rw [← hsi]; exact itoa_len (by omega)
          have CI := Lib.hid (fun (j : Nat) (s : ByteArray) (hs : bs (Lib.itoa (j : Int)) = s) (hj : j < 300) (Y : World) (hB : Below W.heap.size W Y) => hs ▸ itoa_any (j : Int) (by omega) (by omega) Y (HE.out.keep hB))
          have HI := Lib.hid hsi
          clear hst hsi
          obtain ⟨x0, x1, x2, x3⟩ := row4 (HK.out.at 2 rfl)
          go_upto_if 48 with fail
          go_cut [8] from 48 to 59 (fun v8 wx => v8 = .int .i64 (b : Int) ∧ Kp [(Ws, .cells #[.slice none 0 0, .slice a3 n c3, .slice a4 i c4, .slice none 0 0] 27 (0, 0)), (W.heap.size + 1, .cells #[.slice none 0 0, .slice none 0 0, .slice none 0 0, .slice none 0 0] 27 (0, 0)), (W.heap.size, .cells #[.int .u8 (z : Int), .int .u8 (l : Int), .slice ta q tc, .int .u8 (t : Int)] 56 (0, 0))] [⟨.slice a4 i c4, 43, 2, i, ((lkN n m To).take i).flatMap kcells⟩, ⟨.slice a3 n c3, 40, 2, n, Zs⟩] W wx)
          case first =>
            by_cases hq0 : q = 0
            · have hqn : ¬ (0 : Int) < (q : Int) := by omega
              have hb0 : b = 0 := by
                rw [← HB.out]
                unfold bOf
                rw [if_pos (by rw [HQ.out]; exact hq0)]
              have HB0 := Lib.hid hb0
              clear hq0 hb0
              go_wp2_with fail
              go_meet
              exact ⟨by rw [HB0.out]; rfl, HK.out⟩
            · have hqn : (0 : Int) < (q : Int) := by omega
              obtain ⟨b0, o0, c0, e0, _, _, hb0l, hcell⟩ := HA.out (by omega)
              simp only [Value.slice.injEq] at e0
              obtain ⟨rfl, _, rfl⟩ := e0
              obtain ⟨k, hk⟩ : ∃ k, i % q = k := ⟨_, rfl⟩
              have hkq : k < q := by rw [← hk]; exact Nat.mod_lt _ (by omega)
              have hkT : (i : Int).tmod (q : Int) = (k : Int) := by rw [← hk, Int.tmod_eq_emod_of_nonneg (by omega)]; simp
              have hkI : (i : Int) % (q : Int) = (k : Int) := by rw [← hk]; simp
              have hq00 : ¬ q = 0 := by omega
              have hqi0 : ¬ (q : Int) = 0 := by omega
              have hki0 : (0 : Int) ≤ (k : Int) := by omega
              have hkiq : (k : Int) < (q : Int) := by omega
              have hbT : To[k]? = some b := by
                have hkl : k < To.length := by rw [HQ.out]; exact hkq
                rw [← HB.out]
                unfold bOf
                rw [if_neg (by rw [HQ.out]; omega), HQ.out, hk, List.getD, List.getElem?_eq_getElem hkl]
                rfl
              have hbc := (HK.out.below.cell (p := ⟨b0, o0 + k, none⟩) hb0l).trans (hcell k (u8v b) (by rw [List.getElem?_map, hbT]; rfl))
              unfold u8v at hbc
              have hwb : IntKind.i64.wrap (b : Int) = (b : Int) := IntWalk.i64_in _ (by omega)
              have hwk : IntKind.i64.wrap (k : Int) = (k : Int) := IntWalk.i64_in _ (by omega)
              have HB0 := Lib.hid hbT
              clear hq0 hbT hk hcell
              go_upto_region 13 with fail
              go_quiet (fail)
              go_wp2_with fail
              go_meet
              exact ⟨rfl, HK.out.keep (below_drewN (Below.refl _ _) nq)⟩
          case rest =>
            obtain ⟨rfl, hkc⟩ := hcut
            have HC := Lib.hid hkc
            clear hkc HK HB
            obtain ⟨j1, hj1⟩ : ∃ j, b % n = j := ⟨_, rfl⟩
            obtain ⟨k, hk⟩ : ∃ k, b % (n + i) = k := ⟨_, rfl⟩
            obtain ⟨j2, hj2⟩ : ∃ j, k - n = j := ⟨_, rfl⟩
            have hj1n : j1 < n := by rw [← hj1]; exact Nat.mod_lt _ (by omega)
            have hkni : k < n + i := by rw [← hk]; exact Nat.mod_lt _ (by omega)
            have hj1T : (b : Int).tmod (n : Int) = (j1 : Int) := by rw [← hj1, Int.tmod_eq_emod_of_nonneg (by omega)]; simp
            have hj1I : (b : Int) % (n : Int) = (j1 : Int) := by rw [← hj1]; simp
            have hkT : (b : Int).tmod ((n : Int) + (i : Int)) = (k : Int) := by rw [← hk, Int.tmod_eq_emod_of_nonneg (by omega)]; simp
            have hkI : (b : Int) % ((n : Int) + (i : Int)) = (k : Int) := by rw [← hk]; simp
            have hni : IntKind.i64.wrap ((n : Int) + (i : Int)) = (n : Int) + (i : Int) := IntWalk.i64_in _ (by omega)
            have hn00 : ¬ n = 0 := by omega
            have hn0 : ¬ (n : Int) = 0 := by omega
            have hni0 : ¬ (n : Int) + (i : Int) = 0 := by omega
            have hwk : IntKind.i64.wrap (k : Int) = (k : Int) := IntWalk.i64_in _ (by omega)
            have hwj1 : IntKind.i64.wrap (j1 : Int) = (j1 : Int) := IntWalk.i64_in _ (by omega)
            obtain ⟨s1, hs1⟩ : ∃ s, bs (Lib.itoa (j1 : Int)) = s := ⟨_, rfl⟩
            obtain ⟨s2, hs2⟩ : ∃ s, bs (Lib.itoa (j2 : Int)) = s := ⟨_, rfl⟩
            have HZ1 := Lib.hid (show (⟨#[90, 47]⟩ : ByteArray) ++ s1 = bs (zName j1) by rw [← hs1]; exact bs_ext (by unfold bs zName; simp))
            have HL2 := Lib.hid (show (⟨#[76]⟩ : ByteArray) ++ s2 = bs (lName j2) by rw [← hs2]; exact bs_ext (by unfold bs lName; simp))
            have hs1l : s1.size ≤ 2 := by rw [← hs1]; exact itoa_len (by omega)
            have hs2l : s2.size ≤ 2 := by rw [← hs2]; exact itoa_len (by omega)
            have hcat1 : ¬ 9223372036854775807 < 2 + s1.size := by omega
            have hcat2 : ¬ 9223372036854775807 < 1 + s2.size := by omega
            have HS1 := Lib.hid hs1
            have HS2 := Lib.hid hs2
            have HJ := Lib.hid (And.intro hj1 (And.intro hk hj2))
            clear hs1 hs2
            go_upto_if 71 with (first | (go_at_call_of 44 ((j1 : Nat) : Int); refine (CI.out j1 s1 HS1.out (by omega) _ HC.out.below).mono ?_; rintro e X1 ⟨rfl, hb1⟩; have KX1 := Lib.hid (HC.out.keep hb1); clear hb1))
            go_cut [9] from 71 to 77 (fun v9 wx => v9 = .string st ∧ Kp [(Ws, .cells #[.slice none 0 0, .slice a3 n c3, .slice a4 i c4, .slice none 0 0] 27 (0, 0)), (W.heap.size + 1, .cells #[.slice none 0 0, .slice none 0 0, .slice none 0 0, .slice none 0 0] 27 (0, 0)), (W.heap.size, .cells #[.int .u8 (z : Int), .int .u8 (l : Int), .slice ta q tc, .int .u8 (t : Int)] 56 (0, 0))] [⟨.slice a4 i c4, 43, 2, i, ((lkN n m To).take i).flatMap kcells⟩, ⟨.slice a3 n c3, 40, 2, n, Zs⟩] W wx)
            case first =>
              by_cases hkn : n ≤ k
              · have hknI : (n : Int) ≤ (k : Int) := by omega
                have hsub : (k : Int) - (n : Int) = (j2 : Int) := by omega
                have hwj2 : IntKind.i64.wrap (j2 : Int) = (j2 : Int) := IntWalk.i64_in _ (by omega)
                have HKN := Lib.hid hkn
                clear hj1 hk hj2 hkn
                go_wp2_with (first | (go_at_call_of 44 ((j2 : Nat) : Int); refine (CI.out j2 s2 HS2.out (by omega) _ KX1.out.below).mono ?_; rintro e X2 ⟨rfl, hb2⟩; have KX2 := Lib.hid (KX1.out.keep hb2); clear hb2))
                go_meet
                refine ⟨?_, KX2.out⟩
                rw [HL2.out, ← HSt.out]
                unfold tOf
                rw [HJ.out.2.1, if_pos HKN.out, HJ.out.2.2]
              · have hknI : ¬ (n : Int) ≤ (k : Int) := by omega
                have HKN := Lib.hid hkn
                clear hj1 hk hj2 hkn
                go_wp2_with fail
                go_meet
                refine ⟨?_, KX1.out⟩
                rw [HZ1.out, ← HSt.out]
                unfold tOf
                rw [HJ.out.2.1, if_neg HKN.out, HJ.out.1]
            case rest =>
              obtain ⟨rfl, hkc⟩ := hcut
              have HC2 := Lib.hid hkc
              clear hkc HC HJ hj1 hk hj2
              have KD := Lib.hid HC2.out.drew
              obtain ⟨il, hil, hl0, hl1, hl2⟩ := info_partsU infoLn
              obtain ⟨y0, y1, y2, y3⟩ := row4 (KD.out.at 0 rfl)
              have hne1 : ¬ Ws = W.heap.size := HC2.out.known.other (j := 0) (k := 2) rfl rfl (by decide)
              have hne2 : ¬ W.heap.size = Ws := fun e => hne1 e.symm
              have hcat3 : ¬ 9223372036854775807 < 1 + si.size := by omega
              go_upto_region 18 with fail
              go_region_law
                (first
                | (refine step_append_kp (by rfl) (.tmp 78) (.tmp 84) 24 (by rfl) (KX.out.allocAt X.heap.size rfl (.cells #[.string st, .string ((⟨#[76]⟩ : ByteArray) ++ si)] 43)) il (.agg #[.string ⟨#[]⟩, .string ⟨#[]⟩]) 32 Tryd.underlying24 hil hl0 hl1 hl2 (by rfl) (by decide) (by rfl) 0 _ _ _ (by rfl) 1 1 (by rfl) (by rfl) (by simp [Value.oneCell']) (by omega) (by omega) (by omega) ?_; intro g cap w1 hk; have K2 := Lib.hid hk.drop; obtain ⟨b0, b1, b2, b3⟩ := row4 (K2.out.at 0 rfl); have b4 := free_at (K2.out.at 0 rfl) 2; clear hk)
                | (go_simp; go_at_call 44; refine (CI.out i si HI.out (by omega) _ KD.out.below).mono ?_; rintro e X ⟨rfl, hb⟩; have KX := Lib.hid (KD.out.keep hb); obtain ⟨c0, c1, c2, c3'⟩ := row4 (KX.out.at 0 rfl); have hwx := KX.out.lt 0 rfl; clear hb))
              all_goals
                have K3 := Lib.hid (K2.out.set 0 rfl 2 (.slice (some ⟨g, 0, none⟩) (i + 1) cap) rfl)
                go_wp2_with fail
                go_roundw
                case rel =>
                  refine ⟨i + 1, .slice (some ⟨g, 0, none⟩) (i + 1) cap, by omega, by go_num, ?_⟩
                  rw [HTk.out, lks_snoc, HSt.out, ← HSi.out]
                  exact K3.out
                case measure => simp [intOf]; omega
        · obtain rfl : m = i := by omega
          have HLl := Lib.hid (show (lkN n m To).length = m by unfold lkN; rw [List.length_map, List.length_range])
          have HTl := Lib.hid (show (lkN n m To).take m = lkN n m To from List.take_of_length_le (by rw [HLl.out]; exact Nat.le_refl _))
          have hk := HK.out
          rw [HTl.out] at hk
          obtain ⟨Ls, hLs⟩ : ∃ z, lkN n m To = z := ⟨_, rfl⟩
          rw [hLs] at hk
          have HKz := Lib.hid hk
          have HLs := Lib.hid hLs
          have HLz := Lib.hid (hLs ▸ HLl.out : Ls.length = m)
          clear hk hLs HTl HK HLl
          have hwt : IntKind.i64.wrap (t : Int) = (t : Int) := IntWalk.i64_in _ (by omega)
          obtain ⟨y0, y1, y2, y3⟩ := row4 (HKz.out.at 0 rfl)
          obtain ⟨v0, v1, v2, v3⟩ := row4 (HKz.out.at 1 rfl)
          obtain ⟨x0, x1, x2, x3⟩ := row4 (HKz.out.at 2 rfl)
          by_cases hm0 : m = 0
          · have hmN : ¬ 0 < m := by omega
            have hmI : ¬ (0 : Int) < (m : Int) := by omega
            have f0 := free_at (HKz.out.at 1 rfl) 0
            have f1 := free_at (HKz.out.at 1 rfl) 1
            have f2 := free_at (HKz.out.at 1 rfl) 2
            have f3 := free_at (HKz.out.at 1 rfl) 3
            have HM0 := Lib.hid hm0
            clear hm0
            go_wp2_with fail
            have KF := Lib.hid ((((HKz.out.set 1 rfl 0 (.slice none 0 0) rfl).set 1 rfl 1 (.slice a3 n c3) rfl).set 1 rfl 2 (.slice a4 m c4) rfl).set 1 rfl 3 (.slice none 0 0) rfl)
            obtain ⟨r0, r1, r2, r3⟩ := row4 (KF.out.at 1 rfl)
            refine bodyPost_ret (v := .agg #[.slice none 0 0, .slice a3 n c3, .slice a4 m c4, .slice none 0 0]) (by simp [results, Tryd.results20, go_sem, r0, r1, r2, r3]) rfl ⟨_, _, rfl, ?_⟩
            have hl0 : Ls = [] := List.length_eq_zero_iff.1 (by rw [HLz.out, HM0.out])
            rw [HZs.out, HLs.out, show rot (t % m) Ls = Ls from by rw [hl0]; unfold rot; rw [List.drop_nil, List.take_nil]; rfl]
            exact (KF.out.pick (List.nil_sublist _))
          · have hmN : 0 < m := by omega
            have hmI : (0 : Int) < (m : Int) := by omega
            have hm00 : ¬ (m : Int) = 0 := by omega
            obtain ⟨g4, rfl, -, hc4, hc4b, hg4⟩ := own_some (HKz.out.row 0 rfl) hmN
            have hc4 : m ≤ c4 := hc4
            have hm01 : ¬ m = 0 := by omega
            obtain ⟨k, hk⟩ : ∃ k, t % m = k := ⟨_, rfl⟩
            have hkm : k < m := by rw [← hk]; exact Nat.mod_lt _ hmN
            have hkT : (t : Int).tmod (m : Int) = (k : Int) := by rw [← hk, Int.tmod_eq_emod_of_nonneg (by omega)]; simp
            have hkI : (t : Int) % (m : Int) = (k : Int) := by rw [← hk]; simp
            have hwk : IntKind.i64.wrap (k : Int) = (k : Int) := IntWalk.i64_in _ (by omega)
            have hkmN : k ≤ m := by omega
            have hck : ¬ c4 = k := by omega
            have hkcN : k ≤ c4 := by omega
            have hk0 : (0 : Int) ≤ (k : Int) := by omega
            have hkm2 : (k : Int) ≤ (m : Int) := by omega
            have hkc : (k : Int) ≤ (c4 : Int) := by omega
            have HKM := Lib.hid hk
            clear hk hm0
            have KD := Lib.hid HKz.out.drew
            go_upto_region 22 with fail
            have HV1 := Lib.hid (fun (Y : World) (hB : Below W.heap.size W Y) (hs : Y.ownsRow W.heap.size 43 2 (.slice (some ⟨g4, 0, none⟩) m c4) m (Ls.flatMap kcells)) => rows_part kcells (fun _ => rfl) (SlV.of_own hs) HLz.out hkmN (Nat.le_refl m) hmN)
            have HV2 := Lib.hid (fun (Y : World) (hB : Below W.heap.size W Y) (hs : Y.ownsRow W.heap.size 43 2 (.slice (some ⟨g4, 0, none⟩) m c4) m (Ls.flatMap kcells)) => rows_part kcells (fun _ => rfl) (SlV.of_own hs) HLz.out (Nat.zero_le k) hkmN hmN)
            have hd : (Ls.drop k).length = m - k := by rw [List.length_drop, HLz.out]
            have htk : (Ls.take k).length = k := by rw [List.length_take, HLz.out]; omega
            have HD := Lib.hid hd
            have HT2 := Lib.hid htk
            have hrk : (Ls.drop k).length + (Ls.take k).length = m := by omega
            have HRk := Lib.hid hrk
            clear hd htk hrk
            go_region_law
              (first
              | (go_simp; go_at_call 12; refine (clone_links (Ls.drop k) _ _ (by have h := HV1.out _ KD.out.below (KD.out.row 0 rfl); rw [List.take_of_length_le (by rw [HD.out]; exact Nat.le_refl _)] at h; simpa [HD.out] using h) (by intro c h; simp at h) (by rw [HD.out]; omega)).mono ?_; rintro e X ⟨v', rfl, hkx⟩; have KX := Lib.hid (KD.out.adopt hkx); obtain ⟨z0, z1, z2, z3⟩ := row4 (KX.out.at 0 rfl); clear hkx)
              | (obtain ⟨va, wa, hra, hka⟩ := append_links KX.out (Ls.take k) (.slice (some ⟨g4, 0, none⟩) k c4) (by have h := HV2.out X KX.out.below (KX.out.row 1 rfl); simpa using h) (by intro c h; simp at h) (by rw [HRk.out]; omega); rw [HRk.out] at hka; obtain ⟨a6, c6, rfl⟩ : ∃ a c, va = .slice a m c := own_slice (hka.row 0 rfl); refine step_append_eq (by rfl) (.tmp 99) (.tmp 105) 24 (by rfl) _ _ _ wa (by rfl) (by rfl) hra ?_; have KA := Lib.hid hka; obtain ⟨b0, b1, b2, b3⟩ := row4 (KA.out.at 0 rfl); have b4 := free_at (KA.out.at 0 rfl) 2; clear hra hka))
            all_goals
              have K3 := Lib.hid (KA.out.set 0 rfl 2 (.slice a6 m c6) rfl)
              obtain ⟨p0, p1, p2, p3⟩ := row4 (K3.out.at 0 rfl)
              obtain ⟨q0, q1, q2, q3⟩ := row4 (K3.out.at 1 rfl)
              have f0 := free_at (K3.out.at 1 rfl) 0
              have f1 := free_at (K3.out.at 1 rfl) 1
              have f2 := free_at (K3.out.at 1 rfl) 2
              have f3 := free_at (K3.out.at 1 rfl) 3
              go_wp2_with fail
              have KF := Lib.hid ((((K3.out.set 1 rfl 0 (.slice none 0 0) rfl).set 1 rfl 1 (.slice a3 n c3) rfl).set 1 rfl 2 (.slice a6 m c6) rfl).set 1 rfl 3 (.slice none 0 0) rfl)
              obtain ⟨r0, r1, r2, r3⟩ := row4 (KF.out.at 1 rfl)
              refine bodyPost_ret (v := .agg #[.slice none 0 0, .slice a3 n c3, .slice a6 m c6, .slice none 0 0]) (by simp [results, Tryd.results20, go_sem, r0, r1, r2, r3]) rfl ⟨_, _, rfl, ?_⟩
              rw [HZs.out, HLs.out, HKM.out]
              unfold rot
              rw [List.flatMap_append]
              exact (KF.out.pick (List.nil_sublist _)).less (List.Sublist.cons_cons _ (List.Sublist.cons _ (List.Sublist.refl _)))
end Go.Proofs.YtnffecoohkanhaaDoor.Px
