/- The function Check of package links. -/
import Derived.Test.YtnffecoohkanhaaDoorYLnF
namespace Go.Proofs.YtnffecoohkanhaaDoor.Px
open Go.RowKit
open Go.Maps (Keyed)
open Lk

section
variable {P : Program} (w : World) {ops : Array Oper} {rest : List Oper} {o : Oper} {a : Act} {Q : Exit → Act → World → Prop}
/-- 'm[k]' at elements that are integers, behind a guard that lets it through -/
theorem wpList_look_int_on (hg : Region.wanted o (yielded ops a.tmps) = true) (m x : Operand) (t : TypeId) (hop : o.op = Op.lookup t m x false)
    (k e : TypeId) (q : IntKind) (K : Keyed P k) (ht : P.underlying t = some (.map k e)) (he : P.underlying e = some (.int q)) (hz : (zeroValue e).run P w = .ok (.int q 0) w) (b n : Nat) (D : DataW Unit) (g : Lit → Option (DataW Unit)) (hD : FnOf D g)
    (hm : a.eval m = .map (some b)) (hown : w.ownsMap P k (plainElem P e) b n D) (key : Value) (kl : Lit) (hx : a.eval x = key) (hkey : keyOf P k key = some kl) (c : Int) (hc : (g kl).getD (.lit (.int q 0)) = .lit (.int q c))
    (hK : wpList P ops Q rest (a.put o.dst (.int q c)) w) :
    wpList P ops Q (o :: rest) a w := by
  refine wpList_step fun K' hK' => ?_
  rw [if_pos hg]
  obtain ⟨c', hrun, hat, _⟩ := hown.lookup_int K ht he hz hkey
  rw [hD.val kl (K.key hkey), hc] at hat
  obtain rfl : c = c' := by simpa using hat
  unfold Oper.wp
  simp [execOp, hop, hm, hx, hrun, Result.andThen]
  exact hK' _ _ hK
end
theorem firstG_val (Z : List (List UInt8)) (x : Lit) : ∃ c : Int, (firstG Z x).getD (.lit (.int .i64 0)) = .lit (.int .i64 c) := by
  unfold firstG
  cases firstAt 0 Z x with
  | none => exact ⟨0, rfl⟩
  | some k => exact ⟨k, rfl⟩
theorem firstG_is (Z : List (List UInt8)) (n : List UInt8) : (firstG Z (keyN n)).isSome = decide (n ∈ Z) := by
  rw [firstG_in]
  by_cases h : n ∈ Z
  · rw [if_pos h, decide_eq_true h]; rfl
  · rw [if_neg h, decide_eq_false h]; rfl
theorem scan_spec {f : Nat → Int} {n i : Nat} (h : scan f n = some i) : i < n ∧ f i ≠ 0 ∧ ∀ j, j < i → f j = 0 := by
  unfold scan at h
  rw [List.find?_range_eq_some] at h
  obtain ⟨h1, h2, h3⟩ := h
  exact ⟨by simpa using h2, by simpa using h1, fun j hj => by simpa using h3 j hj⟩
theorem scan_non {f : Nat → Int} {n : Nat} (h : scan f n = none) : ∀ j, j < n → f j = 0 := by
  intro j hj
  unfold scan at h
  rw [List.find?_eq_none] at h
  simpa using h j (List.mem_range.2 hj)
theorem named_bad {Z : List (List UInt8)} (L : List (List UInt8 × List UInt8)) (h : (namedL Z).2 ≠ 0) : checkL Z L zoneOk = namedL Z := by
  unfold namedL at h ⊢
  unfold checkL
  cases e : scan (zoneE Z zoneOk) Z.length with
  | some i => rfl
  | none => rw [e] at h; exact absurd rfl h
theorem named_ok {Z : List (List UInt8)} (h : (namedL Z).2 = 0) : ∀ j, j < Z.length → zoneE Z zoneOk j = 0 := by
  unfold namedL at h
  cases e : scan (zoneE Z zoneOk) Z.length with
  | some i => rw [e] at h; exact absurd h (scan_spec e).2.1
  | none => exact scan_non e
theorem row4 {X : World} {b : Nat} {T : TypeId} {x0 x1 x2 x3 : Value} (h : X.heap[b]? = some (.cells #[x0, x1, x2, x3] T (0, 0))) : X.cell? ⟨b, 0, none⟩ = some x0 ∧ X.cell? ⟨b, 1, none⟩ = some x1 ∧ X.cell? ⟨b, 2, none⟩ = some x2 ∧ X.cell? ⟨b, 3, none⟩ = some x3 := ⟨cells_at h 0, cells_at h 1, cells_at h 2, cells_at h 3⟩
theorem nm_at {L : List (List UInt8 × List UInt8)} {i : Nat} {x : List UInt8 × List UInt8} (h : L[i]? = some x) : (nm L)[i]? = some x.1 := by unfold nm; rw [List.getElem?_map, h]; rfl
/-- what Check knows of its blocks -/
def ckL (W : World) (rv zv lv sv : Value) : List (Nat × Obj) := [(W.heap.size + 1, .cells #[.int .i64 0, .int .i64 0, .int .i64 0] 71 (0, 0)), (W.heap.size, .cells #[rv, zv, lv, sv] 27 (0, 0))]
set_option maxHeartbeats 8000000 in
set_option maxRecDepth 100000 in
theorem check_any (rv zv lv sv : Value) (Z : List Zo) (L : List (List UInt8 × List UInt8)) (W : World) (h : SrcV W zv lv Z L) (hz : Z.length ≤ 1000000) (hmax : L.length ≤ 1000000) :
    Calls Tryd.prog 28 #[.agg #[rv, zv, lv, sv]] W fun e w' => e = .returned (.tuple #[.agg #[.int .i64 (checkL (znames Z) L zoneOk).1.1, .int .i64 (checkL (znames Z) L zoneOk).1.2, .int .i64 0], .int .i64 (checkL (znames Z) L zoneOk).2]) ∧ Below W.heap.size W w' := by
  have HSrc := Lib.hid h
  obtain ⟨a, c, rfl, hc1, hc2⟩ := h.lk.slA
  have hall := fun h0 => h.lk.allA h0
  have K0 := Lib.hid (((Kp.start W).allocAt W.heap.size rfl (.cells #[rv, zv, .slice a L.length c, sv] 27)).allocAt (W.heap.size + 1) (by simp) (.cells #[.int .i64 0, .int .i64 0, .int .i64 0] 71))
  have HLl := Lib.hid hmax
  have HSr := Lib.hid (fun (Y : World) (hB : Below W.heap.size W Y) => h.keep hB)
  have CF := Lib.hid (fun (Y : World) (n : List UInt8) (hn : n.length ≤ maxLen) (hB : Below W.heap.size W Y) (m1 m2 : Nat) (h1 : MapOf (znames Z) m1 Y) (h2 : MapOf (nm L) m2 Y) => follow_any rv zv (.slice a L.length c) sv Z L n m1 m2 Y (h.keep hB) h1 h2 hn hmax)
  have CN := Lib.hid (fun (Y : World) (hB : Below W.heap.size W Y) (m1 : Nat) (h1 : MapOf (znames Z) m1 Y) => named_any rv zv (.slice a L.length c) sv Z m1 Y (h.keep hB).zo h1 h.zn hz)
  have CZ := Lib.hid (fun (Y : World) (hB : Below W.heap.size W Y) => zones_any rv zv (.slice a L.length c) sv Z Y (h.keep hB).zo h.zn hz)
  have CT := Lib.hid (fun (Y : World) (hB : Below W.heap.size W Y) => targets_any rv zv (.slice a L.length c) sv L Y (h.keep hB).lk (fun x hx => (h.ln x hx).1) hmax)
  have HLn := Lib.hid h.ln
  obtain ⟨n, hn⟩ : ∃ n, L.length = n := ⟨_, rfl⟩
  rw [hn] at hall hmax hc1 K0 CF CN CZ CT ⊢
  unfold maxLen at hc2
  have HA := Lib.hid hall
  have HN := Lib.hid hn
  obtain ⟨R, hR⟩ : ∃ R, checkL (znames Z) L zoneOk = R := ⟨_, rfl⟩
  rw [hR]
  have HR := Lib.hid hR
  obtain ⟨R1, R2⟩ := R
  obtain ⟨Ra, Rb⟩ := R1
  obtain ⟨W1, hW1⟩ : ∃ X, (W.alloc (.cells #[rv, zv, .slice a n c, sv] 27)).alloc (.cells #[.int .i64 0, .int .i64 0, .int .i64 0] 71) = X := ⟨_, rfl⟩
  rw [hW1] at K0
  have HS := Lib.hid (fun (Y : World) (hB : Below W1.heap.size W1 Y) => (show Y.cell? ⟨W.heap.size, 0, none⟩ = some rv ∧ Y.cell? ⟨W.heap.size, 1, none⟩ = some zv ∧ Y.cell? ⟨W.heap.size, 2, none⟩ = some (.slice a n c) ∧ Y.cell? ⟨W.heap.size, 3, none⟩ = some sv ∧ Below W1.heap.size W1 Y from
    ⟨cells_at ((K0.out.keep hB).at 1 rfl) 0, cells_at ((K0.out.keep hB).at 1 rfl) 1, cells_at ((K0.out.keep hB).at 1 rfl) 2, cells_at ((K0.out.keep hB).at 1 rfl) 3, hB⟩))
  have HW1 := Lib.hid (fun (Y : World) (hB : Below W1.heap.size W1 Y) => (show Below W.heap.size W Y from (K0.out.keep hB).below))
  clear h hall hn hz hR
  go_enter Tryd.func28, Tryd.ntmps28
  go_upto_region 1 with fail
  clear hW1
  obtain ⟨x0, x1, x2, x3, _⟩ := HS.out W1 (Below.refl _ _)
  have HX0 : Hid (Below W1.heap.size W1 W1.drew) := Lib.hid (bdrew W1)
  go_region_held3 (fun w' => w'.cell? ⟨W.heap.size, 0, none⟩ = some rv ∧ w'.cell? ⟨W.heap.size, 1, none⟩ = some zv ∧ w'.cell? ⟨W.heap.size, 2, none⟩ = some (.slice a n c) ∧ w'.cell? ⟨W.heap.size, 3, none⟩ = some sv ∧ Below W1.heap.size W1 w')
    (first | with_reducible exact HS.out _ HX2.out | with_reducible exact HS.out _ HX1.out | with_reducible exact HS.out _ HX0.out)
    (first
      | (go_at_call 48; refine (CT.out _ (HW1.out _ HX1.out)).mono ?_; rintro e X ⟨mt, rfl, hm, _, hb⟩; have HMt := Lib.hid hm; have HMz := Lib.hid (HMz1.out.keep hb); have HX2 : Hid (Below W1.heap.size W1 X) := Lib.hid (HX1.out.trans (hb.mono HX1.out.size)); clear hb hm)
      | (go_at_call 47; refine (CZ.out _ (HW1.out _ HX0.out)).mono ?_; rintro e X ⟨mz, rfl, hm, _, hb⟩; have HMz1 := Lib.hid hm; have HX1 : Hid (Below W1.heap.size W1 X) := Lib.hid (HX0.out.trans (hb.mono HX0.out.size)); clear hb hm))
  all_goals
    have K1 := Lib.hid (K0.out.keep HX2.out)
    obtain ⟨v0, v1, v2, v3⟩ := row4 (K1.out.at 1 rfl)
    clear x0 x1 x2 x3 HX0 HX1 HMz1 HS HW1 K0 CZ CT HX2
    obtain ⟨N, hN⟩ : ∃ N, namedL (znames Z) = N := ⟨_, rfl⟩
    rw [hN] at CN
    have HNm := Lib.hid hN
    clear hN
    obtain ⟨N1, Ne⟩ := N
    obtain ⟨Na, Nb⟩ := N1
    by_cases hbad : Ne = 0
    · subst hbad
      have HZ := Lib.hid (named_ok (Z := znames Z) (by rw [HNm.out]))
      go_wp2_with (first
        | (go_at_call 49; refine (CN.out _ K1.out.below _ HMz.out).mono ?_; rintro e X3 ⟨rfl, hb3⟩; have HB3 := Lib.hid (hb3.alloc hb3.size (.cells #[.int .i64 Na, .int .i64 Nb, .int .i64 0] 71)); have K3 := Lib.hid (K1.out.keep HB3.out); obtain ⟨u0, u1, u2, u3⟩ := row4 (K3.out.at 1 rfl); clear hb3)
        | go_in)
      clear v0 v1 v2 v3 u0 u1 u2 u3 K3 CN HNm
      go_loopw [8, 9, 10, 11, 12, 13, 14, 15, 16, 38] (fun _ _ _ _ _ _ _ _ _ i38 wr => ∃ i : Nat, i ≤ n ∧ i38 = .int .i64 (i : Int) ∧ (∀ j, j < i → linkE (znames Z) L zoneOk j = 0) ∧ Below X.heap.size X wr) (fun _ _ _ _ _ _ _ _ _ i38 _ => n - (intOf i38).toNat)
      case atStart => exact ⟨0, by omega, rfl, fun j hj => by omega, HB3.out⟩
      case round =>
        obtain ⟨i, hi', rfl, hl, hB⟩ := hrel
        have HB := Lib.hid hB
        have HL := Lib.hid hl
        clear hB hl HB3
        have HK := Lib.hid (K1.out.keep HB.out)
        by_cases hlt : i < n
        · obtain ⟨b, o, c', e1, _, _, hb, hcell⟩ := HA.out (by omega)
          simp only [Value.slice.injEq] at e1
          obtain ⟨rfl, _, rfl⟩ := e1
          obtain ⟨x, hx⟩ : ∃ x, L[i]? = some x := ⟨_, List.getElem?_eq_getElem (by rw [HN.out]; exact hlt)⟩
          obtain ⟨q0, q1⟩ := lk_at L hx
          have k0 := (HK.out.below.cell (p := ⟨b, o + i * 2, none⟩) hb).trans (hcell _ _ q0)
          have k1 := (HK.out.below.cell (p := ⟨b, o + i * 2 + 1, none⟩) hb).trans (hcell _ _ q1)
          have hbw := Nat.lt_of_lt_of_le hb HK.out.below.size
          have hxl := HLn.out x (List.mem_of_getElem? hx)
          have hkey1 := Lib.hid (keyN_is hxl.1)
          have hkey2 := Lib.hid (keyN_is hxl.2)
          have hzx := nm_at hx
          have hin : x.1 ∈ nm L := List.mem_of_getElem? hzx
          have HIl := Lib.hid (show i < L.length by rw [HN.out]; exact hlt)
          have hE : linkE (znames Z) L zoneOk i = if zoneOk x.1 = false then 9 else if x.1 ∈ znames Z ∨ posA (nm L) x.1 ≠ i then 10 else if x.2 ∉ znames Z ∧ x.2 ∉ nm L then 9 else 0 := by
            unfold linkE
            rw [getD_of hzx, getD_of hx, posA_idx]
          have HIn := Lib.hid (firstG_in (nm L) x.1)
          rw [if_pos hin] at HIn
          obtain ⟨p, hp⟩ : ∃ p, posA (nm L) x.1 = p := ⟨_, rfl⟩
          rw [hp] at HIn hE
          have HS0 := Lib.hid (show (firstG (nm L) (keyN x.1)).getD (.lit (.int .i64 0)) = .lit (.int .i64 (p : Int)) by rw [HIn.out]; rfl)
          obtain ⟨c1, hc1'⟩ := firstG_val (znames Z) (keyN x.1)
          obtain ⟨c2, hc2'⟩ := firstG_val (znames Z) (keyN x.2)
          obtain ⟨c3, hc3'⟩ := firstG_val (nm L) (keyN x.2)
          have HV1 := Lib.hid hc1'
          have HV2 := Lib.hid hc2'
          have HV3 := Lib.hid hc3'
          have hf1' := firstG_is (znames Z) x.1
          have hf2' := firstG_is (znames Z) x.2
          have hf3' := firstG_is (nm L) x.2
          have hpl : p < (nm L).length := by rw [← hp, posA_idx]; exact List.idxOf_lt_length_of_mem hin
          rw [nm_len, HN.out] at hpl
          obtain ⟨x1, x2⟩ := x
          dsimp only at k0 k1 hkey1 hkey2 HS0 HV1 HV2 HV3 hf1' hf2' hf3' hE hxl
          have KA := Lib.hid ((HK.out.allocAt wr.heap.size rfl (.cells #[.string (bs x2), .string (bs x1)] 43)).allocAt (wr.heap.size + 1) (by simp) (.cells #[.int .i64 3, .int .i64 (i : Int), .int .i64 0] 71))
          have HBA := Lib.hid ((HB.out.alloc HB.out.size (.cells #[.string (bs x2), .string (bs x1)] 43)).alloc (by have := HB.out.size; rw [World.size_alloc]; omega) (.cells #[.int .i64 3, .int .i64 (i : Int), .int .i64 0] 71))
          obtain ⟨NA, DA, _, hoA, hfA⟩ := HMz.out.keep HBA.out
          obtain ⟨NB, DB, _, hoB, hfB⟩ := HMt.out.keep HBA.out
          have HOA := Lib.hid hoA
          have HOB := Lib.hid hoB
          have HFA := Lib.hid hfA
          have HFB := Lib.hid hfB
          have hzone := Lib.hid (fun (Y : World) => zone_any (bs x1) hxl.1 Y)
          obtain ⟨m0, m1⟩ := row2 (KA.out.at 1 rfl)
          obtain ⟨g, hg⟩ : ∃ g, zoneOk (bs x1).data.toList = g := ⟨_, rfl⟩
          rw [hg] at hzone
          have hg2 : zoneOk x1 = g := hg
          rw [hg2] at hE
          obtain ⟨s1, hs1⟩ : ∃ s, bs x1 = s := ⟨_, rfl⟩
          obtain ⟨s2, hs2⟩ : ∃ s, bs x2 = s := ⟨_, rfl⟩
          rw [hs1] at k1 hkey1 KA m1 hzone HBA HOA HOB
          rw [hs2] at k0 hkey2 KA m0 HBA HOA HOB
          clear hx hcell q0 q1 hs1 hs2 hp hin hzx hg hg2 HIn hxl hc1' hc2' hc3' hoA hoB hfA hfB
          have HLk := Lib.hid (fun (h0 : linkE (znames Z) L zoneOk i ≠ 0) => check_link (znames Z) L zoneOk HZ.out HIl.out h0 HL.out)
          have fin : ∀ (E : Int), linkE (znames Z) L zoneOk i = E → E ≠ 0 → Ra = 3 ∧ Rb = (i : Int) ∧ R2 = E := by
            intro E hEe h0
            have := HLk.out (by rw [hEe]; exact h0)
            rw [HR.out, hEe] at this
            simp only [Prod.mk.injEq] at this
            exact ⟨this.1.1, this.1.2, this.2⟩
          have Fin := Lib.hid fin
          clear fin HLk
          cases g with
          | false =>
            rw [if_pos rfl] at hE
            obtain ⟨rfl, rfl, rfl⟩ := Fin.out 9 hE (by decide)
            obtain ⟨g1, hg1⟩ : ∃ g, decide (x1 ∈ znames Z) = g := ⟨_, rfl⟩
            obtain ⟨g2, hg2⟩ : ∃ g, decide (x2 ∈ znames Z) = g := ⟨_, rfl⟩
            obtain ⟨g3, hg3⟩ : ∃ g, decide (x2 ∈ nm L) = g := ⟨_, rfl⟩
            rw [hg1] at hf1'; rw [hg2] at hf2'; rw [hg3] at hf3'
            have HF1 := Lib.hid hf1'; have HF2 := Lib.hid hf2'; have HF3 := Lib.hid hf3'
            clear hf1' hf2' hf3' hg1 hg2 hg3 hE
            go_wp2_with (first
              | (go_at_call 50; refine (hzone.out _).mono ?_; rintro e X5 ⟨rfl, hb2⟩; have K2 := Lib.hid (KA.out.keep hb2); have HBZ := Lib.hid (HBA.out.trans (hb2.mono HBA.out.size)); obtain ⟨⟨y0, y1, y2⟩, _⟩ := row3 (K2.out.at 0 rfl); obtain ⟨y3, y4⟩ := row2 (K2.out.at 1 rfl); obtain ⟨⟨f0, f1, f2⟩, f3, f4, f5⟩ := row3 (K2.out.at 2 rfl); obtain ⟨NC, DC, _, hoC, hfC⟩ := HMt.out.keep HBZ.out; have HOC := Lib.hid hoC; have HFC := Lib.hid hfC; clear hb2 hoC hfC)
              | (at_lookup; refine wpList_look_ok_int _ rfl _ _ 98 rfl 9 3 .i64 str_keyed Tryd.underlying98 Tryd.underlying3 (zero_int _) mz NA DA (firstG (znames Z)) HFA.out rfl HOA.out _ (keyN x1) rfl hkey1.out c1 HV1.out _ HF1.out ?_)
              | (at_lookup; refine wpList_look_ok_int _ rfl _ _ 98 rfl 9 3 .i64 str_keyed Tryd.underlying98 Tryd.underlying3 (zero_int _) mz NA DA (firstG (znames Z)) HFA.out rfl HOA.out _ (keyN x2) rfl hkey2.out c2 HV2.out _ HF2.out ?_)
              | (at_lookup; refine wpList_look_ok_int _ rfl _ _ 98 rfl 9 3 .i64 str_keyed Tryd.underlying98 Tryd.underlying3 (zero_int _) mt NB DB (firstG (nm L)) HFB.out rfl HOB.out _ (keyN x2) rfl hkey2.out c3 HV3.out _ HF3.out ?_)
              | (at_lookup; refine wpList_look_int_on _ rfl _ _ 98 rfl 9 3 .i64 str_keyed Tryd.underlying98 Tryd.underlying3 (zero_int _) mt NC DC (firstG (nm L)) HFC.out rfl HOC.out _ (keyN x1) rfl hkey1.out (p : Int) HS0.out ?_)
              | go_in)
            have KF := Lib.hid (((K2.out.set 2 rfl 0 (.int .i64 3) rfl).set 2 rfl 1 (.int .i64 (i : Int)) rfl).set 2 rfl 2 (.int .i64 0) rfl)
            obtain ⟨⟨r0, r1, r2⟩, _⟩ := row3 (KF.out.at 2 rfl)
            refine bodyPost_ret (v := .tuple #[.agg #[.int .i64 3, .int .i64 (i : Int), .int .i64 0], .int .i64 9]) (by simp [results, Tryd.results28, go_sem, r0, r1, r2]) rfl ⟨rfl, KF.out.below⟩
          | true =>
            rw [if_neg (by decide)] at hE
            by_cases hg1 : x1 ∈ znames Z
            · rw [if_pos (.inl hg1)] at hE
              obtain ⟨rfl, rfl, rfl⟩ := Fin.out 10 hE (by decide)
              rw [decide_eq_true hg1] at hf1'
              obtain ⟨g2, hg2⟩ : ∃ g, decide (x2 ∈ znames Z) = g := ⟨_, rfl⟩
              obtain ⟨g3, hg3⟩ : ∃ g, decide (x2 ∈ nm L) = g := ⟨_, rfl⟩
              rw [hg2] at hf2'; rw [hg3] at hf3'
              have HF1 := Lib.hid hf1'; have HF2 := Lib.hid hf2'; have HF3 := Lib.hid hf3'
              clear hf1' hf2' hf3' hg1 hg2 hg3 hE
              go_wp2_with (first
                | (go_at_call 50; refine (hzone.out _).mono ?_; rintro e X5 ⟨rfl, hb2⟩; have K2 := Lib.hid (KA.out.keep hb2); have HBZ := Lib.hid (HBA.out.trans (hb2.mono HBA.out.size)); obtain ⟨⟨y0, y1, y2⟩, _⟩ := row3 (K2.out.at 0 rfl); obtain ⟨y3, y4⟩ := row2 (K2.out.at 1 rfl); obtain ⟨⟨f0, f1, f2⟩, f3, f4, f5⟩ := row3 (K2.out.at 2 rfl); obtain ⟨NC, DC, _, hoC, hfC⟩ := HMt.out.keep HBZ.out; have HOC := Lib.hid hoC; have HFC := Lib.hid hfC; clear hb2 hoC hfC)
                | (at_lookup; refine wpList_look_ok_int _ rfl _ _ 98 rfl 9 3 .i64 str_keyed Tryd.underlying98 Tryd.underlying3 (zero_int _) mz NA DA (firstG (znames Z)) HFA.out rfl HOA.out _ (keyN x1) rfl hkey1.out c1 HV1.out _ HF1.out ?_)
                | (at_lookup; refine wpList_look_ok_int _ rfl _ _ 98 rfl 9 3 .i64 str_keyed Tryd.underlying98 Tryd.underlying3 (zero_int _) mz NA DA (firstG (znames Z)) HFA.out rfl HOA.out _ (keyN x2) rfl hkey2.out c2 HV2.out _ HF2.out ?_)
                | (at_lookup; refine wpList_look_ok_int _ rfl _ _ 98 rfl 9 3 .i64 str_keyed Tryd.underlying98 Tryd.underlying3 (zero_int _) mt NB DB (firstG (nm L)) HFB.out rfl HOB.out _ (keyN x2) rfl hkey2.out c3 HV3.out _ HF3.out ?_)
                | (at_lookup; refine wpList_look_int_on _ rfl _ _ 98 rfl 9 3 .i64 str_keyed Tryd.underlying98 Tryd.underlying3 (zero_int _) mt NC DC (firstG (nm L)) HFC.out rfl HOC.out _ (keyN x1) rfl hkey1.out (p : Int) HS0.out ?_)
                | go_in)
              have KF := Lib.hid (((K2.out.set 2 rfl 0 (.int .i64 3) rfl).set 2 rfl 1 (.int .i64 (i : Int)) rfl).set 2 rfl 2 (.int .i64 0) rfl)
              obtain ⟨⟨r0, r1, r2⟩, _⟩ := row3 (KF.out.at 2 rfl)
              refine bodyPost_ret (v := .tuple #[.agg #[.int .i64 3, .int .i64 (i : Int), .int .i64 0], .int .i64 10]) (by simp [results, Tryd.results28, go_sem, r0, r1, r2]) rfl ⟨rfl, KF.out.below⟩
            · rw [decide_eq_false hg1] at hf1'
              by_cases hpi : p = i
              · rw [if_neg (by rintro (q | q); exact hg1 q; exact q hpi)] at hE
                by_cases hg2 : x2 ∈ znames Z
                · rw [if_neg (fun q => q.1 hg2)] at hE
                  rw [decide_eq_true hg2] at hf2'
                  obtain ⟨g3, hg3⟩ : ∃ g, decide (x2 ∈ nm L) = g := ⟨_, rfl⟩
                  rw [hg3] at hf3'
                  have HF1 := Lib.hid hf1'; have HF2 := Lib.hid hf2'; have HF3 := Lib.hid hf3'
                  have HE := Lib.hid hE
                  clear hf1' hf2' hf3' hg1 hg2 hg3 hE
                  go_wp2_with (first
                    | (go_at_call 50; refine (hzone.out _).mono ?_; rintro e X5 ⟨rfl, hb2⟩; have K2 := Lib.hid (KA.out.keep hb2); have HBZ := Lib.hid (HBA.out.trans (hb2.mono HBA.out.size)); obtain ⟨⟨y0, y1, y2⟩, _⟩ := row3 (K2.out.at 0 rfl); obtain ⟨y3, y4⟩ := row2 (K2.out.at 1 rfl); obtain ⟨⟨f0, f1, f2⟩, f3, f4, f5⟩ := row3 (K2.out.at 2 rfl); obtain ⟨NC, DC, _, hoC, hfC⟩ := HMt.out.keep HBZ.out; have HOC := Lib.hid hoC; have HFC := Lib.hid hfC; clear hb2 hoC hfC)
                    | (at_lookup; refine wpList_look_ok_int _ rfl _ _ 98 rfl 9 3 .i64 str_keyed Tryd.underlying98 Tryd.underlying3 (zero_int _) mz NA DA (firstG (znames Z)) HFA.out rfl HOA.out _ (keyN x1) rfl hkey1.out c1 HV1.out _ HF1.out ?_)
                    | (at_lookup; refine wpList_look_ok_int _ rfl _ _ 98 rfl 9 3 .i64 str_keyed Tryd.underlying98 Tryd.underlying3 (zero_int _) mz NA DA (firstG (znames Z)) HFA.out rfl HOA.out _ (keyN x2) rfl hkey2.out c2 HV2.out _ HF2.out ?_)
                    | (at_lookup; refine wpList_look_ok_int _ rfl _ _ 98 rfl 9 3 .i64 str_keyed Tryd.underlying98 Tryd.underlying3 (zero_int _) mt NB DB (firstG (nm L)) HFB.out rfl HOB.out _ (keyN x2) rfl hkey2.out c3 HV3.out _ HF3.out ?_)
                    | (at_lookup; refine wpList_look_int_on _ rfl _ _ 98 rfl 9 3 .i64 str_keyed Tryd.underlying98 Tryd.underlying3 (zero_int _) mt NC DC (firstG (nm L)) HFC.out rfl HOC.out _ (keyN x1) rfl hkey1.out (p : Int) HS0.out ?_)
                    | go_in)
                  go_roundw
                  case rel =>
                    refine ⟨i + 1, by omega, by go_num, fun j hj => ?_, HBZ.out⟩
                    by_cases hj2 : j < i
                    · exact HL.out j hj2
                    · obtain rfl : j = i := by omega
                      exact HE.out
                  case measure => simp [intOf]; omega
                · rw [decide_eq_false hg2] at hf2'
                  by_cases hg3 : x2 ∈ nm L
                  · rw [if_neg (fun q => q.2 hg3)] at hE
                    rw [decide_eq_true hg3] at hf3'
                    have HF1 := Lib.hid hf1'; have HF2 := Lib.hid hf2'; have HF3 := Lib.hid hf3'
                    have HE := Lib.hid hE
                    clear hf1' hf2' hf3' hg1 hg2 hg3 hE
                    go_wp2_with (first
                      | (go_at_call 50; refine (hzone.out _).mono ?_; rintro e X5 ⟨rfl, hb2⟩; have K2 := Lib.hid (KA.out.keep hb2); have HBZ := Lib.hid (HBA.out.trans (hb2.mono HBA.out.size)); obtain ⟨⟨y0, y1, y2⟩, _⟩ := row3 (K2.out.at 0 rfl); obtain ⟨y3, y4⟩ := row2 (K2.out.at 1 rfl); obtain ⟨⟨f0, f1, f2⟩, f3, f4, f5⟩ := row3 (K2.out.at 2 rfl); obtain ⟨NC, DC, _, hoC, hfC⟩ := HMt.out.keep HBZ.out; have HOC := Lib.hid hoC; have HFC := Lib.hid hfC; clear hb2 hoC hfC)
                      | (at_lookup; refine wpList_look_ok_int _ rfl _ _ 98 rfl 9 3 .i64 str_keyed Tryd.underlying98 Tryd.underlying3 (zero_int _) mz NA DA (firstG (znames Z)) HFA.out rfl HOA.out _ (keyN x1) rfl hkey1.out c1 HV1.out _ HF1.out ?_)
                      | (at_lookup; refine wpList_look_ok_int _ rfl _ _ 98 rfl 9 3 .i64 str_keyed Tryd.underlying98 Tryd.underlying3 (zero_int _) mz NA DA (firstG (znames Z)) HFA.out rfl HOA.out _ (keyN x2) rfl hkey2.out c2 HV2.out _ HF2.out ?_)
                      | (at_lookup; refine wpList_look_ok_int _ rfl _ _ 98 rfl 9 3 .i64 str_keyed Tryd.underlying98 Tryd.underlying3 (zero_int _) mt NB DB (firstG (nm L)) HFB.out rfl HOB.out _ (keyN x2) rfl hkey2.out c3 HV3.out _ HF3.out ?_)
                      | (at_lookup; refine wpList_look_int_on _ rfl _ _ 98 rfl 9 3 .i64 str_keyed Tryd.underlying98 Tryd.underlying3 (zero_int _) mt NC DC (firstG (nm L)) HFC.out rfl HOC.out _ (keyN x1) rfl hkey1.out (p : Int) HS0.out ?_)
                      | go_in)
                    go_roundw
                    case rel =>
                      refine ⟨i + 1, by omega, by go_num, fun j hj => ?_, HBZ.out⟩
                      by_cases hj2 : j < i
                      · exact HL.out j hj2
                      · obtain rfl : j = i := by omega
                        exact HE.out
                    case measure => simp [intOf]; omega
                  · rw [if_pos ⟨hg2, hg3⟩] at hE
                    obtain ⟨rfl, rfl, rfl⟩ := Fin.out 9 hE (by decide)
                    rw [decide_eq_false hg3] at hf3'
                    have HF1 := Lib.hid hf1'; have HF2 := Lib.hid hf2'; have HF3 := Lib.hid hf3'
                    clear hf1' hf2' hf3' hg1 hg2 hg3 hE
                    go_wp2_with (first
                      | (go_at_call 50; refine (hzone.out _).mono ?_; rintro e X5 ⟨rfl, hb2⟩; have K2 := Lib.hid (KA.out.keep hb2); have HBZ := Lib.hid (HBA.out.trans (hb2.mono HBA.out.size)); obtain ⟨⟨y0, y1, y2⟩, _⟩ := row3 (K2.out.at 0 rfl); obtain ⟨y3, y4⟩ := row2 (K2.out.at 1 rfl); obtain ⟨⟨f0, f1, f2⟩, f3, f4, f5⟩ := row3 (K2.out.at 2 rfl); obtain ⟨NC, DC, _, hoC, hfC⟩ := HMt.out.keep HBZ.out; have HOC := Lib.hid hoC; have HFC := Lib.hid hfC; clear hb2 hoC hfC)
                      | (at_lookup; refine wpList_look_ok_int _ rfl _ _ 98 rfl 9 3 .i64 str_keyed Tryd.underlying98 Tryd.underlying3 (zero_int _) mz NA DA (firstG (znames Z)) HFA.out rfl HOA.out _ (keyN x1) rfl hkey1.out c1 HV1.out _ HF1.out ?_)
                      | (at_lookup; refine wpList_look_ok_int _ rfl _ _ 98 rfl 9 3 .i64 str_keyed Tryd.underlying98 Tryd.underlying3 (zero_int _) mz NA DA (firstG (znames Z)) HFA.out rfl HOA.out _ (keyN x2) rfl hkey2.out c2 HV2.out _ HF2.out ?_)
                      | (at_lookup; refine wpList_look_ok_int _ rfl _ _ 98 rfl 9 3 .i64 str_keyed Tryd.underlying98 Tryd.underlying3 (zero_int _) mt NB DB (firstG (nm L)) HFB.out rfl HOB.out _ (keyN x2) rfl hkey2.out c3 HV3.out _ HF3.out ?_)
                      | (at_lookup; refine wpList_look_int_on _ rfl _ _ 98 rfl 9 3 .i64 str_keyed Tryd.underlying98 Tryd.underlying3 (zero_int _) mt NC DC (firstG (nm L)) HFC.out rfl HOC.out _ (keyN x1) rfl hkey1.out (p : Int) HS0.out ?_)
                      | go_in)
                    have KF := Lib.hid (((K2.out.set 2 rfl 0 (.int .i64 3) rfl).set 2 rfl 1 (.int .i64 (i : Int)) rfl).set 2 rfl 2 (.int .i64 0) rfl)
                    obtain ⟨⟨r0, r1, r2⟩, _⟩ := row3 (KF.out.at 2 rfl)
                    refine bodyPost_ret (v := .tuple #[.agg #[.int .i64 3, .int .i64 (i : Int), .int .i64 0], .int .i64 9]) (by simp [results, Tryd.results28, go_sem, r0, r1, r2]) rfl ⟨rfl, KF.out.below⟩
              · rw [if_pos (.inr hpi)] at hE
                obtain ⟨rfl, rfl, rfl⟩ := Fin.out 10 hE (by decide)
                obtain ⟨g2, hg2⟩ : ∃ g, decide (x2 ∈ znames Z) = g := ⟨_, rfl⟩
                obtain ⟨g3, hg3⟩ : ∃ g, decide (x2 ∈ nm L) = g := ⟨_, rfl⟩
                rw [hg2] at hf2'; rw [hg3] at hf3'
                have hpi2 : ¬ (p : Int) = (i : Int) := by omega
                have HF1 := Lib.hid hf1'; have HF2 := Lib.hid hf2'; have HF3 := Lib.hid hf3'
                clear hf1' hf2' hf3' hg1 hg2 hg3 hE
                go_wp2_with (first
                  | (go_at_call 50; refine (hzone.out _).mono ?_; rintro e X5 ⟨rfl, hb2⟩; have K2 := Lib.hid (KA.out.keep hb2); have HBZ := Lib.hid (HBA.out.trans (hb2.mono HBA.out.size)); obtain ⟨⟨y0, y1, y2⟩, _⟩ := row3 (K2.out.at 0 rfl); obtain ⟨y3, y4⟩ := row2 (K2.out.at 1 rfl); obtain ⟨⟨f0, f1, f2⟩, f3, f4, f5⟩ := row3 (K2.out.at 2 rfl); obtain ⟨NC, DC, _, hoC, hfC⟩ := HMt.out.keep HBZ.out; have HOC := Lib.hid hoC; have HFC := Lib.hid hfC; clear hb2 hoC hfC)
                  | (at_lookup; refine wpList_look_ok_int _ rfl _ _ 98 rfl 9 3 .i64 str_keyed Tryd.underlying98 Tryd.underlying3 (zero_int _) mz NA DA (firstG (znames Z)) HFA.out rfl HOA.out _ (keyN x1) rfl hkey1.out c1 HV1.out _ HF1.out ?_)
                  | (at_lookup; refine wpList_look_ok_int _ rfl _ _ 98 rfl 9 3 .i64 str_keyed Tryd.underlying98 Tryd.underlying3 (zero_int _) mz NA DA (firstG (znames Z)) HFA.out rfl HOA.out _ (keyN x2) rfl hkey2.out c2 HV2.out _ HF2.out ?_)
                  | (at_lookup; refine wpList_look_ok_int _ rfl _ _ 98 rfl 9 3 .i64 str_keyed Tryd.underlying98 Tryd.underlying3 (zero_int _) mt NB DB (firstG (nm L)) HFB.out rfl HOB.out _ (keyN x2) rfl hkey2.out c3 HV3.out _ HF3.out ?_)
                  | (at_lookup; refine wpList_look_int_on _ rfl _ _ 98 rfl 9 3 .i64 str_keyed Tryd.underlying98 Tryd.underlying3 (zero_int _) mt NC DC (firstG (nm L)) HFC.out rfl HOC.out _ (keyN x1) rfl hkey1.out (p : Int) HS0.out ?_)
                  | go_in)
                have KF := Lib.hid (((K2.out.set 2 rfl 0 (.int .i64 3) rfl).set 2 rfl 1 (.int .i64 (i : Int)) rfl).set 2 rfl 2 (.int .i64 0) rfl)
                obtain ⟨⟨r0, r1, r2⟩, _⟩ := row3 (KF.out.at 2 rfl)
                refine bodyPost_ret (v := .tuple #[.agg #[.int .i64 3, .int .i64 (i : Int), .int .i64 0], .int .i64 10]) (by simp [results, Tryd.results28, go_sem, r0, r1, r2]) rfl ⟨rfl, KF.out.below⟩
        · obtain rfl : i = n := by omega
          obtain ⟨u0, u1, u2, u3⟩ := row4 (HK.out.at 1 rfl)
          go_wp2_with fail
          clear u0 u1 u2 u3 HK
          go_loopw [17, 18, 19, 20, 95] (fun _ _ _ _ i95 wr => ∃ k : Nat, k ≤ i ∧ i95 = .int .i64 (k : Int) ∧ (∀ j, j < k → (findL (znames Z) L ((nm L).getD j [])).2 ≠ 11) ∧ Below X.heap.size X wr) (fun _ _ _ _ i95 _ => i - (intOf i95).toNat)
          case atStart => exact ⟨0, by omega, rfl, fun j hj => by omega, HB.out⟩
          case round =>
            obtain ⟨k, hk', rfl, hl, hB2⟩ := hrel
            have HB2 := Lib.hid hB2
            have HO := Lib.hid hl
            have HC := Lib.hid (fun j (hj : j < L.length) => HL.out j (by rw [HN.out] at hj; exact hj))
            clear hB2 hl HB HL
            have HK := Lib.hid (K1.out.keep HB2.out)
            by_cases hlt : k < i
            · obtain ⟨b, o, c', e1, _, _, hb, hcell⟩ := HA.out (by omega)
              simp only [Value.slice.injEq] at e1
              obtain ⟨rfl, _, rfl⟩ := e1
              obtain ⟨x, hx⟩ : ∃ x, L[k]? = some x := ⟨_, List.getElem?_eq_getElem (by rw [HN.out]; exact hlt)⟩
              obtain ⟨q0, q1⟩ := lk_at L hx
              have k0 := (HK.out.below.cell (p := ⟨b, o + k * 2, none⟩) hb).trans (hcell _ _ q0)
              have k1 := (HK.out.below.cell (p := ⟨b, o + k * 2 + 1, none⟩) hb).trans (hcell _ _ q1)
              have hbw := Nat.lt_of_lt_of_le hb HK.out.below.size
              have HXl := Lib.hid (HLn.out x (List.mem_of_getElem? hx)).1
              have hzx := getD_of (nm_at hx) []
              have HIl := Lib.hid (show k < L.length by rw [HN.out]; exact hlt)
              obtain ⟨x1, x2⟩ := x
              dsimp only at k0 k1 HXl hzx
              have HLp := Lib.hid (fun (h0 : (findL (znames Z) L ((nm L).getD k [])).2 = 11) => check_loop (znames Z) L zoneOk HZ.out HC.out HIl.out h0 HO.out)
              rw [hzx] at HLp
              have CFx := Lib.hid (fun (Y : World) => CF.out Y x1 HXl.out)
              obtain ⟨F, hF⟩ : ∃ F, findL (znames Z) L x1 = F := ⟨_, rfl⟩
              rw [hF] at CFx HLp
              have HF := Lib.hid (show (findL (znames Z) L ((nm L).getD k [])).2 = F.2 by rw [hzx, hF])
              obtain ⟨F1, F2⟩ := F
              have KA := Lib.hid (HK.out.allocAt wr.heap.size rfl (.cells #[.string (bs x2), .string (bs x1)] 43))
              have HBA := Lib.hid (HB2.out.alloc HB2.out.size (.cells #[.string (bs x2), .string (bs x1)] 43))
              obtain ⟨m0, m1⟩ := row2 (KA.out.at 0 rfl)
              obtain ⟨u0, u1, u2, u3⟩ := row4 (KA.out.at 2 rfl)
              obtain ⟨s1, hs1⟩ : ∃ s, bs x1 = s := ⟨_, rfl⟩
              obtain ⟨s2, hs2⟩ : ∃ s, bs x2 = s := ⟨_, rfl⟩
              rw [hs1] at k1 KA m1 HBA CFx u0 u1 u2 u3
              rw [hs2] at k0 KA m0 m1 HBA u0 u1 u2 u3
              clear hx hcell q0 q1 hs1 hs2 hzx hF CF
              by_cases h11 : F2 = 11
              · subst h11
                have e0 := HLp.out rfl
                rw [HR.out] at e0
                simp only [Prod.mk.injEq] at e0
                obtain ⟨⟨rfl, rfl⟩, rfl⟩ := e0
                go_wp2_with (first
                  | (go_at_call 51; refine (CFx.out _ KA.out.below _ _ (HMz.out.keep HBA.out) (HMt.out.keep HBA.out)).mono ?_; rintro e X5 ⟨rfl, hb2⟩; have K2 := Lib.hid (KA.out.keep hb2); obtain ⟨⟨f0, f1, f2⟩, f3, f4, f5⟩ := row3 (K2.out.at 1 rfl); clear hb2)
                  | go_in)
                have KF := Lib.hid (((K2.out.set 1 rfl 0 (.int .i64 3) rfl).set 1 rfl 1 (.int .i64 (k : Int)) rfl).set 1 rfl 2 (.int .i64 0) rfl)
                obtain ⟨⟨r0, r1, r2⟩, _⟩ := row3 (KF.out.at 1 rfl)
                refine bodyPost_ret (v := .tuple #[.agg #[.int .i64 3, .int .i64 (k : Int), .int .i64 0], .int .i64 11]) (by simp [results, Tryd.results28, go_sem, r0, r1, r2]) rfl ⟨rfl, KF.out.below⟩
              · go_wp2_with (first
                  | (go_at_call 51; refine (CFx.out _ KA.out.below _ _ (HMz.out.keep HBA.out) (HMt.out.keep HBA.out)).mono ?_; rintro e X5 ⟨rfl, hb2⟩; have HBZ := Lib.hid (HBA.out.trans (hb2.mono HBA.out.size)); clear hb2)
                  | go_in)
                go_roundw
                case rel =>
                  refine ⟨k + 1, by omega, by go_num, fun j hj => ?_, HBZ.out⟩
                  by_cases hj2 : j < k
                  · exact HO.out j hj2
                  · obtain rfl : j = k := by omega
                    rw [HF.out]
                    exact h11
                case measure => simp [intOf]; omega
            · obtain rfl : k = i := by omega
              have e0 := check_fine (znames Z) L zoneOk HZ.out HC.out (fun j hj => HO.out j (by rw [HN.out] at hj; exact hj))
              rw [HR.out] at e0
              simp only [Prod.mk.injEq] at e0
              obtain ⟨⟨rfl, rfl⟩, rfl⟩ := e0
              obtain ⟨⟨f0, f1, f2⟩, f3, f4, f5⟩ := row3 (HK.out.at 0 rfl)
              go_wp2_with fail
              have KF := Lib.hid (((HK.out.set 0 rfl 0 (.int .i64 0) rfl).set 0 rfl 1 (.int .i64 0) rfl).set 0 rfl 2 (.int .i64 0) rfl)
              obtain ⟨⟨r0, r1, r2⟩, _⟩ := row3 (KF.out.at 0 rfl)
              refine bodyPost_ret (v := .tuple #[.agg #[.int .i64 0, .int .i64 0, .int .i64 0], .int .i64 0]) (by simp [results, Tryd.results28, go_sem, r0, r1, r2]) rfl ⟨rfl, KF.out.below⟩
    · obtain ⟨rfl, rfl, rfl⟩ : Ra = Na ∧ Rb = Nb ∧ R2 = Ne := by
        have := named_bad (Z := znames Z) L (by rw [HNm.out]; exact hbad)
        rw [HR.out, HNm.out] at this
        simp only [Prod.mk.injEq] at this
        exact ⟨this.1.1, this.1.2, this.2⟩
      go_wp2_with (first
        | (go_at_call 49; refine (CN.out _ K1.out.below _ HMz.out).mono ?_; rintro e X3 ⟨rfl, hb3⟩; have K3 := Lib.hid ((K1.out.keep hb3).allocAt X3.heap.size rfl (.cells #[.int .i64 Ra, .int .i64 Rb, .int .i64 0] 71)); obtain ⟨⟨u0, u1, u2⟩, _⟩ := row3 (K3.out.at 0 rfl); obtain ⟨⟨f0, f1, f2⟩, f3, f4, f5⟩ := row3 (K3.out.at 1 rfl); clear hb3)
        | go_in)
      have KF := Lib.hid (((K3.out.set 1 rfl 0 (.int .i64 Ra) rfl).set 1 rfl 1 (.int .i64 Rb) rfl).set 1 rfl 2 (.int .i64 0) rfl)
      obtain ⟨⟨r0, r1, r2⟩, _⟩ := row3 (KF.out.at 1 rfl)
      refine bodyPost_ret (v := .tuple #[.agg #[.int .i64 Ra, .int .i64 Rb, .int .i64 0], .int .i64 R2]) (by simp [results, Tryd.results28, go_sem, r0, r1, r2]) rfl ⟨rfl, KF.out.below⟩
end Go.Proofs.YtnffecoohkanhaaDoor.Px
