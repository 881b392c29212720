/- The function offset.Parse: amounts of time are read as the document says. -/
import Derived.Test.YtgllbagmmpicaaaGreatDoorOffV
import Derived.Laws.EntriesVeiled
import Derived.Deep.CutBlock
import Derived.Deep.DeepCutAuto
namespace Go.Proofs.YtgllbagmmpicaaaGreatDoor.Off
open Go.RowKit
open Civ
open Px (len_list bs bs_list bs_size But EnvAt)

/-- the three numbers -/
def PartsAt (w : World) (b : Nat) (x y z : Nat) : Prop := w.heap[b]? = some (.cells #[.int .i64 (x : Int), .int .i64 (y : Int), .int .i64 (z : Int)] 116 (0, 0))
theorem PartsAt.row {w : World} {b x y z : Nat} (h : PartsAt w b x y z) : (w.cell? ⟨b, 0, none⟩ = some (.int .i64 (x : Int)) ∧ w.cell? ⟨b, 1, none⟩ = some (.int .i64 (y : Int)) ∧ w.cell? ⟨b, 2, none⟩ = some (.int .i64 (z : Int))) ∧ w.frozen? ⟨b, 0, none⟩ = false ∧ w.frozen? ⟨b, 1, none⟩ = false ∧ w.frozen? ⟨b, 2, none⟩ = false :=
  ⟨⟨Px.cells_at h 0, Px.cells_at h 1, Px.cells_at h 2⟩, Px.free_at h 0, Px.free_at h 1, Px.free_at h 2⟩
theorem PartsAt.keep {w w' : World} {b x y z : Nat} (h : PartsAt w b x y z) (hB : Below w.heap.size w w') : PartsAt w' b x y z := (hB.block b (lt_of_block h)).trans h
/-- the blocks of the function -/
structure OpInv (w : World) (x y z : Nat) (l : List UInt8) (wr : World) : Prop where
  below : Below w.heap.size w wr
  rest : VarAt wr w.heap.size l
  parts : PartsAt wr (w.heap.size + 1) x y z
theorem OpInv.keep {w : World} {x y z : Nat} {l : List UInt8} {wr W : World} (h : OpInv w x y z l wr) (hB : Below wr.heap.size wr W) : OpInv w x y z l W :=
  ⟨h.below.trans (hB.mono h.below.size), h.rest.keep hB, h.parts.keep hB⟩
theorem OpInv.cut {w : World} {x y z : Nat} {l m : List UInt8} {wr W : World} (h : OpInv w x y z l wr) (hB : But w.heap.size wr W) (hV : VarAt W w.heap.size m) : OpInv w x y z m W :=
  ⟨h.below.trans (hB.low (Nat.le_refl _)), hV, hB.heap h.parts (by omega)⟩
theorem OpInv.setK {w : World} {x y z : Nat} {l : List UInt8} {wr : World} (h : OpInv w x y z l wr) (i : Nat) (u : Value) : Below w.heap.size w (wr.setCell ⟨w.heap.size + 1, i, none⟩ u) ∧ VarAt (wr.setCell ⟨w.heap.size + 1, i, none⟩ u) w.heap.size l :=
  ⟨h.below.setCell (by show w.heap.size ≤ w.heap.size + 1; omega) u, (Below.heap_setCell _ _ _ _ (by show w.heap.size ≠ w.heap.size + 1; omega)).trans h.rest⟩
theorem OpInv.set0 {w : World} {x y z : Nat} {l : List UInt8} {wr : World} (h : OpInv w x y z l wr) (m : Nat) : OpInv w m y z l (wr.setCell ⟨w.heap.size + 1, 0, none⟩ (.int .i64 (m : Int))) :=
  ⟨(h.setK 0 _).1, (h.setK 0 _).2, Px.cells_set h.parts 0 _⟩
theorem OpInv.set1 {w : World} {x y z : Nat} {l : List UInt8} {wr : World} (h : OpInv w x y z l wr) (m : Nat) : OpInv w x m z l (wr.setCell ⟨w.heap.size + 1, 1, none⟩ (.int .i64 (m : Int))) :=
  ⟨(h.setK 1 _).1, (h.setK 1 _).2, Px.cells_set h.parts 1 _⟩
theorem OpInv.set2 {w : World} {x y z : Nat} {l : List UInt8} {wr : World} (h : OpInv w x y z l wr) (m : Nat) : OpInv w x y m l (wr.setCell ⟨w.heap.size + 1, 2, none⟩ (.int .i64 (m : Int))) :=
  ⟨(h.setK 2 _).1, (h.setK 2 _).2, Px.cells_set h.parts 2 _⟩
theorem stepA_no {l d : List UInt8} (hd : takeD 3 l = d) (h : d = [] ∨ (1 < d.length ∧ d.headD 0 = 48)) : stepA l = none := by subst hd; unfold stepA; rw [if_pos h]
theorem stepA_yes {l d : List UInt8} (hd : takeD 3 l = d) (h1 : d ≠ []) (h2 : ¬ (1 < d.length ∧ d.headD 0 = 48)) : stepA l = some (valD d, l.drop d.length) := by
  subst hd; unfold stepA; rw [if_neg (by rintro (h | h); exact h1 h; exact h2 h)]
theorem head_at {d : List UInt8} (h : 0 < (bs d).size) : (bs d)[0] = d.headD 0 := by
  have := headD_zero (bs d) h
  rw [bs_list] at this
  exact this.symm
theorem head_good {d : List UInt8} (hbad : ¬ (1 < d.length ∧ d.headD 0 = 48)) : ((bs d).size : Int) ≤ 1 ∨ ((1 : Int) < ((bs d).size : Int) ∧ ∃ h : 0 < (bs d).size, (((bs d)[0].toNat : Int) == 48) = false) := by
  have hz := bs_size d
  by_cases h1 : d.length ≤ 1
  · left; omega
  · right
    refine ⟨by omega, by omega, ?_⟩
    rw [beq_eq_false_iff_ne, head_at]
    intro h
    exact hbad ⟨by omega, UInt8.toNat_inj.1 (by have : (48 : UInt8).toNat = 48 := rfl; omega)⟩
theorem head_bad {d : List UInt8} (h1 : 1 < d.length) (h2 : d.headD 0 = 48) : (1 : Int) < ((bs d).size : Int) ∧ ∃ h : 0 < (bs d).size, (((bs d)[0].toNat : Int) == 48) = true := by
  have hz := bs_size d
  refine ⟨by omega, by omega, ?_⟩
  rw [head_at, h2]; rfl
theorem OpInv.setR {w : World} {x y z : Nat} {l : List UInt8} {wr : World} (h : OpInv w x y z l wr) (m : List UInt8) : OpInv w x y z m (wr.setCell ⟨w.heap.size, 0, none⟩ (.string (bs m))) :=
  ⟨h.below.setCell (Nat.le_refl _) _, h.rest.set m, (Below.heap_setCell _ _ _ _ (by show w.heap.size + 1 ≠ w.heap.size; omega)).trans h.parts⟩
/-- how far the reading is -/
def SS (l : List UInt8) (k x y z : Nat) (r : List UInt8) : Prop :=
  (k = 0 ∧ x = 0 ∧ y = 0 ∧ z = 0 ∧ r = l) ∨ (k = 1 ∧ stepA l = some (x, r) ∧ y = 0 ∧ z = 0) ∨
  (k = 2 ∧ ∃ q, stepA l = some (x, q) ∧ q ≠ [] ∧ stepB q = some (y, r) ∧ z = 0) ∨
  (k = 3 ∧ ∃ q q2, stepA l = some (x, q) ∧ q ≠ [] ∧ stepB q = some (y, q2) ∧ q2 ≠ [] ∧ stepB q2 = some (z, r))
theorem bs_emp {r : List UInt8} (h : r = []) : (bs r).toList.isEmpty = true ∧ (bs r).toList = [] := by
  subst h; exact ⟨by rw [ByteArray.toList_eq, bs_list]; rfl, by rw [ByteArray.toList_eq, bs_list]⟩
theorem bs_full {r : List UInt8} (h : r ≠ []) : (bs r).toList.isEmpty = false := by rw [ByteArray.toList_eq, bs_list]; simpa using h
theorem fin_minus {l r : List UInt8} {x y z : Nat} (h : Fin l x y z r) :
    ((bs r).toList.isEmpty = false ∧ Hid (parseO (45 :: l) = (0, 5))) ∨
    ((bs r).toList.isEmpty = true ∧ (bs r).toList = [] ∧ (((x : Int) * 3600 + (y : Int) * 60 + (z : Int)) == 0) = true ∧ Hid (parseO (45 :: l) = (0, 5))) ∨
    ((bs r).toList.isEmpty = true ∧ (bs r).toList = [] ∧ (((x : Int) * 3600 + (y : Int) * 60 + (z : Int)) == 0) = false ∧ 604799 < (x : Int) * 3600 + (y : Int) * 60 + (z : Int) ∧ Hid (parseO (45 :: l) = (0, 3))) ∨
    ((bs r).toList.isEmpty = true ∧ (bs r).toList = [] ∧ (((x : Int) * 3600 + (y : Int) * 60 + (z : Int)) == 0) = false ∧ (x : Int) * 3600 + (y : Int) * 60 + (z : Int) ≤ 604799 ∧ Hid (parseO (45 :: l) = (-((x : Int) * 3600 + (y : Int) * 60 + (z : Int)), 0))) := by
  obtain ⟨h1, h2, _, _, _⟩ := h
  have hh : (45 :: l).headD 0 = 45 := rfl
  by_cases hr : r = []
  · have hp := parseO_some (l := 45 :: l) (x := 3600 * x + (60 * y + z)) (by rw [if_pos hh]; exact h1 hr)
    obtain ⟨e1, e2⟩ := bs_emp hr
    right
    by_cases h0 : 3600 * x + (60 * y + z) = 0
    · left
      exact ⟨e1, e2, by rw [beq_iff_eq]; omega, Lib.hid (by rw [hp, if_pos ⟨hh, h0⟩])⟩
    · right
      have hb : (((x : Int) * 3600 + (y : Int) * 60 + (z : Int)) == 0) = false := by rw [beq_eq_false_iff_ne]; omega
      by_cases hx : 604799 < 3600 * x + (60 * y + z)
      · left; exact ⟨e1, e2, hb, by omega, Lib.hid (by rw [hp, if_neg (fun h => h0 h.2), if_pos hx])⟩
      · right
        exact ⟨e1, e2, hb, by omega, Lib.hid (by rw [hp, if_neg (fun h => h0 h.2), if_neg hx, if_pos hh]; exact congrArg (fun q : Int => (q, (0 : Int))) (by omega))⟩
  · left
    exact ⟨bs_full hr, Lib.hid (parseO_no (by rw [if_pos hh]; exact h2 hr))⟩
theorem fin_plus {l r : List UInt8} {x y z : Nat} (hh : ¬ l.headD 0 = 45) (h : Fin l x y z r) :
    ((bs r).toList.isEmpty = false ∧ Hid (parseO l = (0, 5))) ∨
    ((bs r).toList.isEmpty = true ∧ (bs r).toList = [] ∧ 604799 < (x : Int) * 3600 + (y : Int) * 60 + (z : Int) ∧ Hid (parseO l = (0, 3))) ∨
    ((bs r).toList.isEmpty = true ∧ (bs r).toList = [] ∧ (x : Int) * 3600 + (y : Int) * 60 + (z : Int) ≤ 604799 ∧ Hid (parseO l = (((x : Int) * 3600 + (y : Int) * 60 + (z : Int)), 0))) := by
  obtain ⟨h1, h2, _, _, _⟩ := h
  by_cases hr : r = []
  · have hp := parseO_some (l := l) (x := 3600 * x + (60 * y + z)) (by rw [if_neg hh]; exact h1 hr)
    obtain ⟨e1, e2⟩ := bs_emp hr
    right
    by_cases hx : 604799 < 3600 * x + (60 * y + z)
    · left; exact ⟨e1, e2, by omega, Lib.hid (by rw [hp, if_neg (fun h => hh h.1), if_pos hx])⟩
    · right
      exact ⟨e1, e2, by omega, Lib.hid (by rw [hp, if_neg (fun h => hh h.1), if_neg hx, if_neg hh]; exact congrArg (fun q : Int => (q, (0 : Int))) (by omega))⟩
  · left
    exact ⟨bs_full hr, Lib.hid (parseO_no (by rw [if_neg hh]; exact h2 hr))⟩
set_option maxHeartbeats 4000000 in
set_option maxRecDepth 100000 in
theorem parse_minus (l : List UInt8) (hlz : l.length ≤ 1000000) (w : World) (hE : EnvAt w) :
    Calls Tryz.prog 59 #[.string (bs (45 :: l))] w (parsePost (45 :: l) w) := by
  have hxz : (bs (45 :: l)).size = l.length + 1 := by rw [bs_size]; rfl
  have hxe : (bs (45 :: l)).toList.isEmpty = false := by rw [ByteArray.toList_eq, bs_list]; rfl
  have hx0 : ∃ h : 0 < (bs (45 :: l)).size, (((bs (45 :: l))[0].toNat : Int) == 45) = true := ⟨by omega, by rw [head_at]; rfl⟩
  have hxt : (bs (45 :: l)).extract 1 (bs (45 :: l)).size = bs l := by rw [Lib.extract_from]; rfl
  have HPN := Lib.hid (fun h : formL l = none => parseO_no (l := 45 :: l) (by rw [if_pos (by rfl)]; exact h))
  have HFC := Lib.hid (fun x y z r (h : Fin l x y z r) => fin_minus h)
  obtain ⟨X, hX⟩ : ∃ X, bs (45 :: l) = X := ⟨_, rfl⟩
  rw [hX] at hxz hxe hx0 hxt ⊢
  obtain ⟨h0, t0⟩ := hx0
  have i0 : (0 : Int) < (X.size : Int) := by omega
  have i1 : (1 : Int) ≤ (X.size : Int) := by omega
  have HX := Lib.hid hxt
  clear hxt hX hxz
  have HENV := Lib.hid hE
  clear hE
  go_enter Tryz.func59, Tryz.ntmps59
  go_upto_block 0 with fail
  rw [HX.out]
  have HI : Hid (OpInv w 0 0 0 l ((w.alloc (.cells #[.string (bs l)] 9)).alloc (.cells #[.int .i64 0, .int .i64 0, .int .i64 0] 116))) := Lib.hid ⟨((Below.refl _ w).alloc (Nat.le_refl _) _).alloc (by simp) _, Px.heap_old (Px.heap_new w _) _, by have := Px.heap_new (w.alloc (.cells #[.string (bs l)] 9)) (.cells #[.int .i64 0, .int .i64 0, .int .i64 0] 116); rwa [show (w.alloc (.cells #[.string (bs l)] 9)).heap.size = w.heap.size + 1 by simp] at this⟩
  go_cut [28] (fun _ wx => ∃ x y z r, Fin l x y z r ∧ OpInv w x y z r wx)
  case first =>
    go_wp2_with fail
    go_loopw [28] (fun i wx => ∃ (k x y z : Nat) (r : List UInt8), i = .int .i64 (k : Int) ∧ SS l k x y z r ∧ r.length ≤ 1000000 ∧ OpInv w x y z r wx) (fun i _ => 3 - (intOf i).toNat)
    case atStart => exact ⟨0, 0, 0, 0, l, rfl, .inl ⟨rfl, rfl, rfl, rfl, rfl⟩, hlz, HI.out⟩
    case round =>
      obtain ⟨k, x, y, z, r, rfl, hss, hrz, hI⟩ := hrel
      have HIR := Lib.hid hI
      obtain ⟨c0, g0⟩ := hI.rest.row
      obtain ⟨⟨d0, d1, d2⟩, f0, f1, f2⟩ := hI.parts.row
      clear hI
      rcases hss with ⟨rfl, rfl, rfl, rfl, rfl⟩ | ⟨rfl, hA, rfl, rfl⟩ | ⟨rfl, q, hA, hq, hB, rfl⟩ | ⟨rfl, q, q2, hA, hq, hB, hq2, hC⟩
      · have CD := Lib.hid (digits_any 3 (by decide) (by decide) w.heap.size r hrz)
        obtain ⟨d, hd⟩ : ∃ d, takeD 3 r = d := ⟨_, rfl⟩
        rw [show (3 : Int).toNat = 3 from rfl, hd] at CD
        have hdd : d.all digQ = true := by rw [← hd]; exact Px.run_all _ _
        have hdl : d.length ≤ 3 ∧ d.length ≤ r.length := by rw [← hd]; exact takeD_le 3 r
        go_wp2_with fail
        refine (CD.out _ HIR.out.rest).mono ?_
        rintro e V ⟨rfl, hb, hv⟩
        have HIV := Lib.hid (HIR.out.cut hb hv)
        have HEV := Lib.hid (HENV.out.keep HIV.out.below)
        clear hb hv c0 g0 d0 d1 d2 f0 f1 f2
        obtain ⟨c0, g0⟩ := HIV.out.rest.row
        obtain ⟨⟨d0, d1, d2⟩, f0, f1, f2⟩ := HIV.out.parts.row
        by_cases hne : d = []
        · have HN := Lib.hid (formL_A0 (stepA_no hd (.inl hne)))
          subst hne
          clear hdd hdl hd
          go_wp2_with fail
          refine (parse_int_no _ HEV.out).mono ?_
          rintro e V2 ⟨⟨N, rfl⟩, hb⟩
          have HI2 := Lib.hid (HIV.out.keep hb)
          clear hb
          go_wp2_with fail
          go_ret2
          exact parse_post (HPN.out HN.out) rfl rfl HI2.out.below
        · have CP := Lib.hid (fun w => parse_int_ok d hdd hne hdl.1 w)
          have hv := valD_lt d hdd
          have hv2 := Nat.pow_le_pow_right (n := 10) (by decide) hdl.1
          have hv3 : valD d ≤ 999 := by omega
          have hz : (bs d).size = d.length := bs_size d
          have hd0 : 0 < d.length := List.length_pos_iff.2 hne
          by_cases hbad : 1 < d.length ∧ d.headD 0 = 48
          · have HN := Lib.hid (formL_A0 (stepA_no hd (.inr hbad)))
            have hb2 := head_bad hbad.1 hbad.2
            obtain ⟨D, hD⟩ : ∃ D, bs d = D := ⟨_, rfl⟩
            rw [hD] at CD CP hb2
            obtain ⟨j1, j0, j2⟩ := hb2
            rw [hD]
            clear hbad hd hdd hdl hne hd0 hz hv hv2 hD
            go_wp2_with fail
            refine (CP.out _).mono ?_
            rintro e V2 ⟨rfl, hb⟩
            have HI2 := Lib.hid (HIV.out.keep hb)
            clear hb
            go_wp2_with fail
            go_ret2
            exact parse_post (HPN.out HN.out) rfl rfl HI2.out.below
          · have HN := Lib.hid (stepA_yes hd hne hbad)
            have hgood := head_good hbad
            have hrl : (r.drop d.length).length ≤ 1000000 := by rw [List.length_drop]; omega
            obtain ⟨m, hm⟩ : ∃ m, valD d = m := ⟨_, rfl⟩
            rw [hm] at CP HN hv3
            obtain ⟨r1, hr1⟩ : ∃ r1, r.drop d.length = r1 := ⟨_, rfl⟩
            rw [hr1] at HN HIV c0 hrl
            obtain ⟨D, hD⟩ : ∃ D, bs d = D := ⟨_, rfl⟩
            rw [hD] at CD CP hz hgood
            rw [hD]
            clear hbad hd hdd hdl hne hd0 hz hv hv2 hD hm hr1
            rcases hgood with j1 | ⟨j1, j0, j2⟩
            all_goals
              go_wp2_with fail
              refine (CP.out _).mono ?_
              rintro e V2 ⟨rfl, hb⟩
              have HI2 := Lib.hid (HIV.out.keep hb)
              clear hb c0 g0 d0 d1 d2 f0 f1 f2
              obtain ⟨⟨d0, d1, d2⟩, f0, f1, f2⟩ := HI2.out.parts.row
              go_wp2_with fail
              exact ⟨⟨1, m, 0, 0, r1, rfl, .inr (.inl ⟨rfl, HN.out, rfl, rfl⟩), hrl, HI2.out.set0 m⟩, by decide⟩
      · skip
        by_cases hr : r = []
        · subst hr
          have HF := Lib.hid (fin1 hA)
          clear hA
          have e0 : (bs []).toList.isEmpty = true := by rw [ByteArray.toList_eq, bs_list]; rfl
          have e1 : (bs []).toList = [] := by rw [ByteArray.toList_eq, bs_list]
          go_wp2_with fail
          go_meet
          exact ⟨_, _, _, [], HF.out, HIR.out⟩
        · obtain ⟨c, t, rfl⟩ := List.exists_cons_of_ne_nil hr
          have HNO := Lib.hid (fun h : stepB (c :: t) = none => HPN.out (bad2 hA hr h))
          have HYES := Lib.hid (fun (m : Nat) (u : List UInt8) (h : stepB (c :: t) = some (m, u)) => show SS l 2 x m 0 u from .inr (.inr (.inl ⟨rfl, _, hA, hr, h, rfl⟩)))
          clear hA
          have hx0 : 0 < (bs (c :: t)).size := by rw [bs_size]; simp
          have hxc : (bs (c :: t))[0] = c := head_at hx0
          have hxe : (bs (c :: t)).toList.isEmpty = false := by rw [ByteArray.toList_eq, bs_list]; rfl
          have hxt : (bs (c :: t)).extract 1 (bs (c :: t)).size = bs t := by rw [Lib.extract_from]; rfl
          have hx1 : (1 : Int) ≤ ((bs (c :: t)).size : Int) := by omega
          have htz : t.length ≤ 1000000 := by rw [List.length_cons] at hrz; omega
          obtain ⟨X, hX⟩ : ∃ X, bs (c :: t) = X := ⟨_, rfl⟩
          rw [hX] at c0 hx1
          by_cases hc : c = 58
          · subst hc
            have hx58 : ∃ h : 0 < X.size, ((X[0].toNat : Int) != 58) = false := by
              subst hX
              exact ⟨hx0, by rw [hxc]; rfl⟩
            rw [hX] at hxe hxt
            obtain ⟨hx2, hx3⟩ := hx58
            have HXT := Lib.hid hxt
            have CD := Lib.hid (digits_any 2 (by decide) (by decide) w.heap.size t htz)
            have HSR := Lib.hid (HIR.out.setR t)
            obtain ⟨d, hd⟩ : ∃ d, takeD 2 t = d := ⟨_, rfl⟩
            rw [show (2 : Int).toNat = 2 from rfl, hd] at CD
            have hdd : d.all digQ = true := by rw [← hd]; exact Px.run_all _ _
            have hdl : d.length ≤ 2 ∧ d.length ≤ t.length := by rw [← hd]; exact takeD_le 2 t
            have HN1 := Lib.hid (fun h : ¬ (d.length = 2 ∧ valD d ≤ 59) => HNO.out (stepB_no t (by rw [hd]; exact h)))
            have HN2 := Lib.hid (fun h : d.length = 2 ∧ valD d ≤ 59 => HYES.out (valD d) (t.drop 2) (by rw [stepB_yes t (by rw [hd]; exact h), hd]))
            clear hxt hX hx0 hxc hr hd
            go_wp2_with fail
            rw [HXT.out]
            refine (CD.out _ HSR.out.rest).mono ?_
            rintro e V ⟨rfl, hb, hv⟩
            have HIV := Lib.hid (HSR.out.cut hb hv)
            have HEV := Lib.hid (HENV.out.keep HIV.out.below)
            clear hb hv c0 g0 d0 d1 d2 f0 f1 f2 hxe hx1 hx3
            obtain ⟨c0, g0⟩ := HIV.out.rest.row
            obtain ⟨⟨d0, d1, d2⟩, f0, f1, f2⟩ := HIV.out.parts.row
            by_cases hne : d = []
            · have HN := Lib.hid (HN1.out (by rw [hne]; decide))
              subst hne
              clear hdd hdl
              go_wp2_with fail
              refine (parse_int_no _ HEV.out).mono ?_
              rintro e V2 ⟨⟨N, rfl⟩, hb⟩
              have HI2 := Lib.hid (HIV.out.keep hb)
              clear hb
              go_wp2_with fail
              go_ret2
              exact parse_post HN.out rfl rfl HI2.out.below
            · have CP := Lib.hid (fun w => parse_int_ok d hdd hne (by omega) w)
              have hz : (bs d).size = d.length := bs_size d
              have hv := valD_lt d hdd
              have hv2 := Nat.pow_le_pow_right (n := 10) (by decide) hdl.1
              have hv3 : (valD d : Int) ≤ 99 := by omega
              clear hv hv2 hdd hne
              by_cases h2 : d.length = 2
              · have j1 : (((bs d).size : Int) != 2) = false := by rw [bne_eq_false_iff_eq]; omega
                by_cases h59 : valD d ≤ 59
                · have HSS := Lib.hid (HN2.out ⟨h2, h59⟩)
                  have hdt : t.drop d.length = t.drop 2 := by rw [h2]
                  rw [hdt] at HIV c0
                  have j2 : (valD d : Int) ≤ 59 := by omega
                  have hrl : (t.drop 2).length ≤ 1000000 := by rw [List.length_drop]; omega
                  obtain ⟨m, hm⟩ : ∃ m, valD d = m := ⟨_, rfl⟩
                  rw [hm] at CP j2 hv3 HSS
                  obtain ⟨r1, hr1⟩ : ∃ r1, t.drop 2 = r1 := ⟨_, rfl⟩
                  rw [hr1] at HIV c0 hrl HSS
                  obtain ⟨D, hD⟩ : ∃ D, bs d = D := ⟨_, rfl⟩
                  rw [hD] at CP j1 ⊢
                  clear h2 h59 hm hr1 hD hz hdl hdt
                  go_wp2_with fail
                  refine (CP.out _).mono ?_
                  rintro e V2 ⟨rfl, hb⟩
                  have HI2 := Lib.hid (HIV.out.keep hb)
                  clear hb c0 g0 d0 d1 d2 f0 f1 f2
                  obtain ⟨⟨d0, d1, d2⟩, f0, f1, f2⟩ := HI2.out.parts.row
                  go_wp2_with fail
                  exact ⟨⟨2, _, _, _, r1, rfl, HSS.out, hrl, HI2.out.set1 m⟩, by decide⟩
                · have HN := Lib.hid (HN1.out (fun h => h59 h.2))
                  have j2 : (59 : Int) < (valD d : Int) := by omega
                  obtain ⟨m, hm⟩ : ∃ m, valD d = m := ⟨_, rfl⟩
                  rw [hm] at CP j2 hv3
                  obtain ⟨D, hD⟩ : ∃ D, bs d = D := ⟨_, rfl⟩
                  rw [hD] at CP j1 ⊢
                  clear h2 h59 hm hD hz hdl
                  go_wp2_with fail
                  refine (CP.out _).mono ?_
                  rintro e V2 ⟨rfl, hb⟩
                  have HI2 := Lib.hid (HIV.out.keep hb)
                  clear hb
                  go_wp2_with fail
                  go_ret2
                  exact parse_post HN.out rfl rfl HI2.out.below
              · have j1 : (((bs d).size : Int) != 2) = true := by rw [bne_iff_ne]; omega
                have HN := Lib.hid (HN1.out (fun h => h2 h.1))
                obtain ⟨m, hm⟩ : ∃ m, valD d = m := ⟨_, rfl⟩
                rw [hm] at CP hv3
                obtain ⟨D, hD⟩ : ∃ D, bs d = D := ⟨_, rfl⟩
                rw [hD] at CP j1 ⊢
                clear h2 hm hD hz hdl
                go_wp2_with fail
                refine (CP.out _).mono ?_
                rintro e V2 ⟨rfl, hb⟩
                have HI2 := Lib.hid (HIV.out.keep hb)
                clear hb
                go_wp2_with fail
                go_ret2
                exact parse_post HN.out rfl rfl HI2.out.below
          · have HN := Lib.hid (HNO.out (stepB_other t hc))
            have hx58 : ∃ h : 0 < X.size, ((X[0].toNat : Int) != 58) = true := by
              subst hX
              refine ⟨hx0, ?_⟩
              rw [hxc, bne_iff_ne]
              intro h
              exact hc (UInt8.toNat_inj.1 (by have : (58 : UInt8).toNat = 58 := rfl; omega))
            rw [hX] at hxe
            obtain ⟨hx2, hx3⟩ := hx58
            clear hxt hX hx0 hxc hr hc
            go_wp2_with fail
            go_ret2
            exact parse_post HN.out rfl rfl HIR.out.below
      · skip
        by_cases hr : r = []
        · subst hr
          have HF := Lib.hid (fin2 hA hq hB)
          clear hA hB hq
          have e0 : (bs []).toList.isEmpty = true := by rw [ByteArray.toList_eq, bs_list]; rfl
          have e1 : (bs []).toList = [] := by rw [ByteArray.toList_eq, bs_list]
          go_wp2_with fail
          go_meet
          exact ⟨_, _, _, [], HF.out, HIR.out⟩
        · obtain ⟨c, t, rfl⟩ := List.exists_cons_of_ne_nil hr
          have HNO := Lib.hid (fun h : stepB (c :: t) = none => HPN.out (bad3 hA hq hB hr h))
          have HYES := Lib.hid (fun (m : Nat) (u : List UInt8) (h : stepB (c :: t) = some (m, u)) => show SS l 3 x y m u from .inr (.inr (.inr ⟨rfl, _, _, hA, hq, hB, hr, h⟩)))
          clear hA hB hq
          have hx0 : 0 < (bs (c :: t)).size := by rw [bs_size]; simp
          have hxc : (bs (c :: t))[0] = c := head_at hx0
          have hxe : (bs (c :: t)).toList.isEmpty = false := by rw [ByteArray.toList_eq, bs_list]; rfl
          have hxt : (bs (c :: t)).extract 1 (bs (c :: t)).size = bs t := by rw [Lib.extract_from]; rfl
          have hx1 : (1 : Int) ≤ ((bs (c :: t)).size : Int) := by omega
          have htz : t.length ≤ 1000000 := by rw [List.length_cons] at hrz; omega
          obtain ⟨X, hX⟩ : ∃ X, bs (c :: t) = X := ⟨_, rfl⟩
          rw [hX] at c0 hx1
          by_cases hc : c = 58
          · subst hc
            have hx58 : ∃ h : 0 < X.size, ((X[0].toNat : Int) != 58) = false := by
              subst hX
              exact ⟨hx0, by rw [hxc]; rfl⟩
            rw [hX] at hxe hxt
            obtain ⟨hx2, hx3⟩ := hx58
            have HXT := Lib.hid hxt
            have CD := Lib.hid (digits_any 2 (by decide) (by decide) w.heap.size t htz)
            have HSR := Lib.hid (HIR.out.setR t)
            obtain ⟨d, hd⟩ : ∃ d, takeD 2 t = d := ⟨_, rfl⟩
            rw [show (2 : Int).toNat = 2 from rfl, hd] at CD
            have hdd : d.all digQ = true := by rw [← hd]; exact Px.run_all _ _
            have hdl : d.length ≤ 2 ∧ d.length ≤ t.length := by rw [← hd]; exact takeD_le 2 t
            have HN1 := Lib.hid (fun h : ¬ (d.length = 2 ∧ valD d ≤ 59) => HNO.out (stepB_no t (by rw [hd]; exact h)))
            have HN2 := Lib.hid (fun h : d.length = 2 ∧ valD d ≤ 59 => HYES.out (valD d) (t.drop 2) (by rw [stepB_yes t (by rw [hd]; exact h), hd]))
            clear hxt hX hx0 hxc hr hd
            go_wp2_with fail
            rw [HXT.out]
            refine (CD.out _ HSR.out.rest).mono ?_
            rintro e V ⟨rfl, hb, hv⟩
            have HIV := Lib.hid (HSR.out.cut hb hv)
            have HEV := Lib.hid (HENV.out.keep HIV.out.below)
            clear hb hv c0 g0 d0 d1 d2 f0 f1 f2 hxe hx1 hx3
            obtain ⟨c0, g0⟩ := HIV.out.rest.row
            obtain ⟨⟨d0, d1, d2⟩, f0, f1, f2⟩ := HIV.out.parts.row
            by_cases hne : d = []
            · have HN := Lib.hid (HN1.out (by rw [hne]; decide))
              subst hne
              clear hdd hdl
              go_wp2_with fail
              refine (parse_int_no _ HEV.out).mono ?_
              rintro e V2 ⟨⟨N, rfl⟩, hb⟩
              have HI2 := Lib.hid (HIV.out.keep hb)
              clear hb
              go_wp2_with fail
              go_ret2
              exact parse_post HN.out rfl rfl HI2.out.below
            · have CP := Lib.hid (fun w => parse_int_ok d hdd hne (by omega) w)
              have hz : (bs d).size = d.length := bs_size d
              have hv := valD_lt d hdd
              have hv2 := Nat.pow_le_pow_right (n := 10) (by decide) hdl.1
              have hv3 : (valD d : Int) ≤ 99 := by omega
              clear hv hv2 hdd hne
              by_cases h2 : d.length = 2
              · have j1 : (((bs d).size : Int) != 2) = false := by rw [bne_eq_false_iff_eq]; omega
                by_cases h59 : valD d ≤ 59
                · have HSS := Lib.hid (HN2.out ⟨h2, h59⟩)
                  have hdt : t.drop d.length = t.drop 2 := by rw [h2]
                  rw [hdt] at HIV c0
                  have j2 : (valD d : Int) ≤ 59 := by omega
                  have hrl : (t.drop 2).length ≤ 1000000 := by rw [List.length_drop]; omega
                  obtain ⟨m, hm⟩ : ∃ m, valD d = m := ⟨_, rfl⟩
                  rw [hm] at CP j2 hv3 HSS
                  obtain ⟨r1, hr1⟩ : ∃ r1, t.drop 2 = r1 := ⟨_, rfl⟩
                  rw [hr1] at HIV c0 hrl HSS
                  obtain ⟨D, hD⟩ : ∃ D, bs d = D := ⟨_, rfl⟩
                  rw [hD] at CP j1 ⊢
                  clear h2 h59 hm hr1 hD hz hdl hdt
                  go_wp2_with fail
                  refine (CP.out _).mono ?_
                  rintro e V2 ⟨rfl, hb⟩
                  have HI2 := Lib.hid (HIV.out.keep hb)
                  clear hb c0 g0 d0 d1 d2 f0 f1 f2
                  obtain ⟨⟨d0, d1, d2⟩, f0, f1, f2⟩ := HI2.out.parts.row
                  go_wp2_with fail
                  exact ⟨⟨3, _, _, _, r1, rfl, HSS.out, hrl, HI2.out.set2 m⟩, by decide⟩
                · have HN := Lib.hid (HN1.out (fun h => h59 h.2))
                  have j2 : (59 : Int) < (valD d : Int) := by omega
                  obtain ⟨m, hm⟩ : ∃ m, valD d = m := ⟨_, rfl⟩
                  rw [hm] at CP j2 hv3
                  obtain ⟨D, hD⟩ : ∃ D, bs d = D := ⟨_, rfl⟩
                  rw [hD] at CP j1 ⊢
                  clear h2 h59 hm hD hz hdl
                  go_wp2_with fail
                  refine (CP.out _).mono ?_
                  rintro e V2 ⟨rfl, hb⟩
                  have HI2 := Lib.hid (HIV.out.keep hb)
                  clear hb
                  go_wp2_with fail
                  go_ret2
                  exact parse_post HN.out rfl rfl HI2.out.below
              · have j1 : (((bs d).size : Int) != 2) = true := by rw [bne_iff_ne]; omega
                have HN := Lib.hid (HN1.out (fun h => h2 h.1))
                obtain ⟨m, hm⟩ : ∃ m, valD d = m := ⟨_, rfl⟩
                rw [hm] at CP hv3
                obtain ⟨D, hD⟩ : ∃ D, bs d = D := ⟨_, rfl⟩
                rw [hD] at CP j1 ⊢
                clear h2 hm hD hz hdl
                go_wp2_with fail
                refine (CP.out _).mono ?_
                rintro e V2 ⟨rfl, hb⟩
                have HI2 := Lib.hid (HIV.out.keep hb)
                clear hb
                go_wp2_with fail
                go_ret2
                exact parse_post HN.out rfl rfl HI2.out.below
          · have HN := Lib.hid (HNO.out (stepB_other t hc))
            have hx58 : ∃ h : 0 < X.size, ((X[0].toNat : Int) != 58) = true := by
              subst hX
              refine ⟨hx0, ?_⟩
              rw [hxc, bne_iff_ne]
              intro h
              exact hc (UInt8.toNat_inj.1 (by have : (58 : UInt8).toNat = 58 := rfl; omega))
            rw [hX] at hxe
            obtain ⟨hx2, hx3⟩ := hx58
            clear hxt hX hx0 hxc hr hc
            go_wp2_with fail
            go_ret2
            exact parse_post HN.out rfl rfl HIR.out.below
      · have HF := Lib.hid (fin3 hA hq hB hq2 hC)
        clear hA hB hC hq hq2
        go_wp2_with fail
        go_meet
        exact ⟨x, y, z, r, HF.out, HIR.out⟩
  case rest =>
    obtain ⟨x, y, z, r, hF, hI⟩ := hcut
    have HIR := Lib.hid hI
    obtain ⟨c0, g0⟩ := hI.rest.row
    obtain ⟨⟨d0, d1, d2⟩, f0, f1, f2⟩ := hI.parts.row
    obtain ⟨k0, k1, k2⟩ := (HENV.out.keep hI.below).units
    have hcs := HFC.out x y z r hF
    have b3 : (x : Int) ≤ 999 := by have := hF.2.2.1; omega
    have b4 : (y : Int) ≤ 59 := by have := hF.2.2.2.1; omega
    have b5 : (z : Int) ≤ 59 := by have := hF.2.2.2.2; omega
    have i0 : ∀ w, (Instr.index 116 (.agg #[.int .i64 (x : Int), .int .i64 (y : Int), .int .i64 (z : Int)]) (.int .i64 0)).run Tryz.prog w = .ok (.int .i64 (x : Int)) w := fun _ => by kernel_rfl
    have i1 : ∀ w, (Instr.index 116 (.agg #[.int .i64 (x : Int), .int .i64 (y : Int), .int .i64 (z : Int)]) (.int .i64 1)).run Tryz.prog w = .ok (.int .i64 (y : Int)) w := fun _ => by kernel_rfl
    have i2 : ∀ w, (Instr.index 116 (.agg #[.int .i64 (x : Int), .int .i64 (y : Int), .int .i64 (z : Int)]) (.int .i64 2)).run Tryz.prog w = .ok (.int .i64 (z : Int)) w := fun _ => by kernel_rfl
    clear hI hF
    rcases hcs with ⟨e1, HP⟩ | ⟨e1, e2, t3, HP⟩ | ⟨e1, e2, t3, t4, HP⟩ | ⟨e1, e2, t3, t4, HP⟩
    all_goals
      go_wp2_with fail
      refine wp_loop_rounds 4 ?_
      rw [rounds_succ]
      go_wp2_with fail
      rw [rounds_succ]
      go_wp2_with fail
      rw [rounds_succ]
      go_wp2_with fail
      rw [rounds_succ]
      go_wp2_with fail
      go_ret2
      exact parse_post HP.out rfl rfl HIR.out.below
set_option maxHeartbeats 4000000 in
set_option maxRecDepth 100000 in
theorem parse_plus (l : List UInt8) (hlz : l.length ≤ 1000000) (hne : l ≠ []) (hm : ¬ l.headD 0 = 45) (w : World) (hE : EnvAt w) :
    Calls Tryz.prog 59 #[.string (bs l)] w (parsePost l w) := by
  have hxz : (bs l).size = l.length := by rw [bs_size]
  have hxe : (bs l).toList.isEmpty = false := by rw [ByteArray.toList_eq, bs_list]; simpa using hne
  have hx0 : ∃ h : 0 < (bs l).size, (((bs l)[0].toNat : Int) == 45) = false := by
    have h0 : 0 < (bs l).size := by rw [hxz]; exact List.length_pos_iff.2 hne
    refine ⟨h0, ?_⟩
    rw [head_at, beq_eq_false_iff_ne]
    intro h
    exact hm (UInt8.toNat_inj.1 (by have : (45 : UInt8).toNat = 45 := rfl; omega))
  have HPN := Lib.hid (fun h : formL l = none => parseO_no (l := l) (by rw [if_neg hm]; exact h))
  have HFC := Lib.hid (fun x y z r (h : Fin l x y z r) => fin_plus hm h)
  obtain ⟨h0, t0⟩ := hx0
  have i0 : (0 : Int) < ((bs l).size : Int) := by omega
  clear hxz hm hne
  have HENV := Lib.hid hE
  clear hE
  go_enter Tryz.func59, Tryz.ntmps59
  go_upto_block 0 with fail
  have HI : Hid (OpInv w 0 0 0 l ((w.alloc (.cells #[.string (bs l)] 9)).alloc (.cells #[.int .i64 0, .int .i64 0, .int .i64 0] 116))) := Lib.hid ⟨((Below.refl _ w).alloc (Nat.le_refl _) _).alloc (by simp) _, Px.heap_old (Px.heap_new w _) _, by have := Px.heap_new (w.alloc (.cells #[.string (bs l)] 9)) (.cells #[.int .i64 0, .int .i64 0, .int .i64 0] 116); rwa [show (w.alloc (.cells #[.string (bs l)] 9)).heap.size = w.heap.size + 1 by simp] at this⟩
  go_cut [28] (fun _ wx => ∃ x y z r, Fin l x y z r ∧ OpInv w x y z r wx)
  case first =>
    go_wp2_with fail
    go_loopw [28] (fun i wx => ∃ (k x y z : Nat) (r : List UInt8), i = .int .i64 (k : Int) ∧ SS l k x y z r ∧ r.length ≤ 1000000 ∧ OpInv w x y z r wx) (fun i _ => 3 - (intOf i).toNat)
    case atStart => exact ⟨0, 0, 0, 0, l, rfl, .inl ⟨rfl, rfl, rfl, rfl, rfl⟩, hlz, HI.out⟩
    case round =>
      obtain ⟨k, x, y, z, r, rfl, hss, hrz, hI⟩ := hrel
      have HIR := Lib.hid hI
      obtain ⟨c0, g0⟩ := hI.rest.row
      obtain ⟨⟨d0, d1, d2⟩, f0, f1, f2⟩ := hI.parts.row
      clear hI
      rcases hss with ⟨rfl, rfl, rfl, rfl, rfl⟩ | ⟨rfl, hA, rfl, rfl⟩ | ⟨rfl, q, hA, hq, hB, rfl⟩ | ⟨rfl, q, q2, hA, hq, hB, hq2, hC⟩
      · have CD := Lib.hid (digits_any 3 (by decide) (by decide) w.heap.size r hrz)
        obtain ⟨d, hd⟩ : ∃ d, takeD 3 r = d := ⟨_, rfl⟩
        rw [show (3 : Int).toNat = 3 from rfl, hd] at CD
        have hdd : d.all digQ = true := by rw [← hd]; exact Px.run_all _ _
        have hdl : d.length ≤ 3 ∧ d.length ≤ r.length := by rw [← hd]; exact takeD_le 3 r
        go_wp2_with fail
        refine (CD.out _ HIR.out.rest).mono ?_
        rintro e V ⟨rfl, hb, hv⟩
        have HIV := Lib.hid (HIR.out.cut hb hv)
        have HEV := Lib.hid (HENV.out.keep HIV.out.below)
        clear hb hv c0 g0 d0 d1 d2 f0 f1 f2
        obtain ⟨c0, g0⟩ := HIV.out.rest.row
        obtain ⟨⟨d0, d1, d2⟩, f0, f1, f2⟩ := HIV.out.parts.row
        by_cases hne : d = []
        · have HN := Lib.hid (formL_A0 (stepA_no hd (.inl hne)))
          subst hne
          clear hdd hdl hd
          go_wp2_with fail
          refine (parse_int_no _ HEV.out).mono ?_
          rintro e V2 ⟨⟨N, rfl⟩, hb⟩
          have HI2 := Lib.hid (HIV.out.keep hb)
          clear hb
          go_wp2_with fail
          go_ret2
          exact parse_post (HPN.out HN.out) rfl rfl HI2.out.below
        · have CP := Lib.hid (fun w => parse_int_ok d hdd hne hdl.1 w)
          have hv := valD_lt d hdd
          have hv2 := Nat.pow_le_pow_right (n := 10) (by decide) hdl.1
          have hv3 : valD d ≤ 999 := by omega
          have hz : (bs d).size = d.length := bs_size d
          have hd0 : 0 < d.length := List.length_pos_iff.2 hne
          by_cases hbad : 1 < d.length ∧ d.headD 0 = 48
          · have HN := Lib.hid (formL_A0 (stepA_no hd (.inr hbad)))
            have hb2 := head_bad hbad.1 hbad.2
            obtain ⟨D, hD⟩ : ∃ D, bs d = D := ⟨_, rfl⟩
            rw [hD] at CD CP hb2
            obtain ⟨j1, j0, j2⟩ := hb2
            rw [hD]
            clear hbad hd hdd hdl hne hd0 hz hv hv2 hD
            go_wp2_with fail
            refine (CP.out _).mono ?_
            rintro e V2 ⟨rfl, hb⟩
            have HI2 := Lib.hid (HIV.out.keep hb)
            clear hb
            go_wp2_with fail
            go_ret2
            exact parse_post (HPN.out HN.out) rfl rfl HI2.out.below
          · have HN := Lib.hid (stepA_yes hd hne hbad)
            have hgood := head_good hbad
            have hrl : (r.drop d.length).length ≤ 1000000 := by rw [List.length_drop]; omega
            obtain ⟨m, hm⟩ : ∃ m, valD d = m := ⟨_, rfl⟩
            rw [hm] at CP HN hv3
            obtain ⟨r1, hr1⟩ : ∃ r1, r.drop d.length = r1 := ⟨_, rfl⟩
            rw [hr1] at HN HIV c0 hrl
            obtain ⟨D, hD⟩ : ∃ D, bs d = D := ⟨_, rfl⟩
            rw [hD] at CD CP hz hgood
            rw [hD]
            clear hbad hd hdd hdl hne hd0 hz hv hv2 hD hm hr1
            rcases hgood with j1 | ⟨j1, j0, j2⟩
            all_goals
              go_wp2_with fail
              refine (CP.out _).mono ?_
              rintro e V2 ⟨rfl, hb⟩
              have HI2 := Lib.hid (HIV.out.keep hb)
              clear hb c0 g0 d0 d1 d2 f0 f1 f2
              obtain ⟨⟨d0, d1, d2⟩, f0, f1, f2⟩ := HI2.out.parts.row
              go_wp2_with fail
              exact ⟨⟨1, m, 0, 0, r1, rfl, .inr (.inl ⟨rfl, HN.out, rfl, rfl⟩), hrl, HI2.out.set0 m⟩, by decide⟩
      · skip
        by_cases hr : r = []
        · subst hr
          have HF := Lib.hid (fin1 hA)
          clear hA
          have e0 : (bs []).toList.isEmpty = true := by rw [ByteArray.toList_eq, bs_list]; rfl
          have e1 : (bs []).toList = [] := by rw [ByteArray.toList_eq, bs_list]
          go_wp2_with fail
          go_meet
          exact ⟨_, _, _, [], HF.out, HIR.out⟩
        · obtain ⟨c, t, rfl⟩ := List.exists_cons_of_ne_nil hr
          have HNO := Lib.hid (fun h : stepB (c :: t) = none => HPN.out (bad2 hA hr h))
          have HYES := Lib.hid (fun (m : Nat) (u : List UInt8) (h : stepB (c :: t) = some (m, u)) => show SS l 2 x m 0 u from .inr (.inr (.inl ⟨rfl, _, hA, hr, h, rfl⟩)))
          clear hA
          have hx0 : 0 < (bs (c :: t)).size := by rw [bs_size]; simp
          have hxc : (bs (c :: t))[0] = c := head_at hx0
          have hxe : (bs (c :: t)).toList.isEmpty = false := by rw [ByteArray.toList_eq, bs_list]; rfl
          have hxt : (bs (c :: t)).extract 1 (bs (c :: t)).size = bs t := by rw [Lib.extract_from]; rfl
          have hx1 : (1 : Int) ≤ ((bs (c :: t)).size : Int) := by omega
          have htz : t.length ≤ 1000000 := by rw [List.length_cons] at hrz; omega
          obtain ⟨X, hX⟩ : ∃ X, bs (c :: t) = X := ⟨_, rfl⟩
          rw [hX] at c0 hx1
          by_cases hc : c = 58
          · subst hc
            have hx58 : ∃ h : 0 < X.size, ((X[0].toNat : Int) != 58) = false := by
              subst hX
              exact ⟨hx0, by rw [hxc]; rfl⟩
            rw [hX] at hxe hxt
            obtain ⟨hx2, hx3⟩ := hx58
            have HXT := Lib.hid hxt
            have CD := Lib.hid (digits_any 2 (by decide) (by decide) w.heap.size t htz)
            have HSR := Lib.hid (HIR.out.setR t)
            obtain ⟨d, hd⟩ : ∃ d, takeD 2 t = d := ⟨_, rfl⟩
            rw [show (2 : Int).toNat = 2 from rfl, hd] at CD
            have hdd : d.all digQ = true := by rw [← hd]; exact Px.run_all _ _
            have hdl : d.length ≤ 2 ∧ d.length ≤ t.length := by rw [← hd]; exact takeD_le 2 t
            have HN1 := Lib.hid (fun h : ¬ (d.length = 2 ∧ valD d ≤ 59) => HNO.out (stepB_no t (by rw [hd]; exact h)))
            have HN2 := Lib.hid (fun h : d.length = 2 ∧ valD d ≤ 59 => HYES.out (valD d) (t.drop 2) (by rw [stepB_yes t (by rw [hd]; exact h), hd]))
            clear hxt hX hx0 hxc hr hd
            go_wp2_with fail
            rw [HXT.out]
            refine (CD.out _ HSR.out.rest).mono ?_
            rintro e V ⟨rfl, hb, hv⟩
            have HIV := Lib.hid (HSR.out.cut hb hv)
            have HEV := Lib.hid (HENV.out.keep HIV.out.below)
            clear hb hv c0 g0 d0 d1 d2 f0 f1 f2 hxe hx1 hx3
            obtain ⟨c0, g0⟩ := HIV.out.rest.row
            obtain ⟨⟨d0, d1, d2⟩, f0, f1, f2⟩ := HIV.out.parts.row
            by_cases hne : d = []
            · have HN := Lib.hid (HN1.out (by rw [hne]; decide))
              subst hne
              clear hdd hdl
              go_wp2_with fail
              refine (parse_int_no _ HEV.out).mono ?_
              rintro e V2 ⟨⟨N, rfl⟩, hb⟩
              have HI2 := Lib.hid (HIV.out.keep hb)
              clear hb
              go_wp2_with fail
              go_ret2
              exact parse_post HN.out rfl rfl HI2.out.below
            · have CP := Lib.hid (fun w => parse_int_ok d hdd hne (by omega) w)
              have hz : (bs d).size = d.length := bs_size d
              have hv := valD_lt d hdd
              have hv2 := Nat.pow_le_pow_right (n := 10) (by decide) hdl.1
              have hv3 : (valD d : Int) ≤ 99 := by omega
              clear hv hv2 hdd hne
              by_cases h2 : d.length = 2
              · have j1 : (((bs d).size : Int) != 2) = false := by rw [bne_eq_false_iff_eq]; omega
                by_cases h59 : valD d ≤ 59
                · have HSS := Lib.hid (HN2.out ⟨h2, h59⟩)
                  have hdt : t.drop d.length = t.drop 2 := by rw [h2]
                  rw [hdt] at HIV c0
                  have j2 : (valD d : Int) ≤ 59 := by omega
                  have hrl : (t.drop 2).length ≤ 1000000 := by rw [List.length_drop]; omega
                  obtain ⟨m, hm⟩ : ∃ m, valD d = m := ⟨_, rfl⟩
                  rw [hm] at CP j2 hv3 HSS
                  obtain ⟨r1, hr1⟩ : ∃ r1, t.drop 2 = r1 := ⟨_, rfl⟩
                  rw [hr1] at HIV c0 hrl HSS
                  obtain ⟨D, hD⟩ : ∃ D, bs d = D := ⟨_, rfl⟩
                  rw [hD] at CP j1 ⊢
                  clear h2 h59 hm hr1 hD hz hdl hdt
                  go_wp2_with fail
                  refine (CP.out _).mono ?_
                  rintro e V2 ⟨rfl, hb⟩
                  have HI2 := Lib.hid (HIV.out.keep hb)
                  clear hb c0 g0 d0 d1 d2 f0 f1 f2
                  obtain ⟨⟨d0, d1, d2⟩, f0, f1, f2⟩ := HI2.out.parts.row
                  go_wp2_with fail
                  exact ⟨⟨2, _, _, _, r1, rfl, HSS.out, hrl, HI2.out.set1 m⟩, by decide⟩
                · have HN := Lib.hid (HN1.out (fun h => h59 h.2))
                  have j2 : (59 : Int) < (valD d : Int) := by omega
                  obtain ⟨m, hm⟩ : ∃ m, valD d = m := ⟨_, rfl⟩
                  rw [hm] at CP j2 hv3
                  obtain ⟨D, hD⟩ : ∃ D, bs d = D := ⟨_, rfl⟩
                  rw [hD] at CP j1 ⊢
                  clear h2 h59 hm hD hz hdl
                  go_wp2_with fail
                  refine (CP.out _).mono ?_
                  rintro e V2 ⟨rfl, hb⟩
                  have HI2 := Lib.hid (HIV.out.keep hb)
                  clear hb
                  go_wp2_with fail
                  go_ret2
                  exact parse_post HN.out rfl rfl HI2.out.below
              · have j1 : (((bs d).size : Int) != 2) = true := by rw [bne_iff_ne]; omega
                have HN := Lib.hid (HN1.out (fun h => h2 h.1))
                obtain ⟨m, hm⟩ : ∃ m, valD d = m := ⟨_, rfl⟩
                rw [hm] at CP hv3
                obtain ⟨D, hD⟩ : ∃ D, bs d = D := ⟨_, rfl⟩
                rw [hD] at CP j1 ⊢
                clear h2 hm hD hz hdl
                go_wp2_with fail
                refine (CP.out _).mono ?_
                rintro e V2 ⟨rfl, hb⟩
                have HI2 := Lib.hid (HIV.out.keep hb)
                clear hb
                go_wp2_with fail
                go_ret2
                exact parse_post HN.out rfl rfl HI2.out.below
          · have HN := Lib.hid (HNO.out (stepB_other t hc))
            have hx58 : ∃ h : 0 < X.size, ((X[0].toNat : Int) != 58) = true := by
              subst hX
              refine ⟨hx0, ?_⟩
              rw [hxc, bne_iff_ne]
              intro h
              exact hc (UInt8.toNat_inj.1 (by have : (58 : UInt8).toNat = 58 := rfl; omega))
            rw [hX] at hxe
            obtain ⟨hx2, hx3⟩ := hx58
            clear hxt hX hx0 hxc hr hc
            go_wp2_with fail
            go_ret2
            exact parse_post HN.out rfl rfl HIR.out.below
      · skip
        by_cases hr : r = []
        · subst hr
          have HF := Lib.hid (fin2 hA hq hB)
          clear hA hB hq
          have e0 : (bs []).toList.isEmpty = true := by rw [ByteArray.toList_eq, bs_list]; rfl
          have e1 : (bs []).toList = [] := by rw [ByteArray.toList_eq, bs_list]
          go_wp2_with fail
          go_meet
          exact ⟨_, _, _, [], HF.out, HIR.out⟩
        · obtain ⟨c, t, rfl⟩ := List.exists_cons_of_ne_nil hr
          have HNO := Lib.hid (fun h : stepB (c :: t) = none => HPN.out (bad3 hA hq hB hr h))
          have HYES := Lib.hid (fun (m : Nat) (u : List UInt8) (h : stepB (c :: t) = some (m, u)) => show SS l 3 x y m u from .inr (.inr (.inr ⟨rfl, _, _, hA, hq, hB, hr, h⟩)))
          clear hA hB hq
          have hx0 : 0 < (bs (c :: t)).size := by rw [bs_size]; simp
          have hxc : (bs (c :: t))[0] = c := head_at hx0
          have hxe : (bs (c :: t)).toList.isEmpty = false := by rw [ByteArray.toList_eq, bs_list]; rfl
          have hxt : (bs (c :: t)).extract 1 (bs (c :: t)).size = bs t := by rw [Lib.extract_from]; rfl
          have hx1 : (1 : Int) ≤ ((bs (c :: t)).size : Int) := by omega
          have htz : t.length ≤ 1000000 := by rw [List.length_cons] at hrz; omega
          obtain ⟨X, hX⟩ : ∃ X, bs (c :: t) = X := ⟨_, rfl⟩
          rw [hX] at c0 hx1
          by_cases hc : c = 58
          · subst hc
            have hx58 : ∃ h : 0 < X.size, ((X[0].toNat : Int) != 58) = false := by
              subst hX
              exact ⟨hx0, by rw [hxc]; rfl⟩
            rw [hX] at hxe hxt
            obtain ⟨hx2, hx3⟩ := hx58
            have HXT := Lib.hid hxt
            have CD := Lib.hid (digits_any 2 (by decide) (by decide) w.heap.size t htz)
            have HSR := Lib.hid (HIR.out.setR t)
            obtain ⟨d, hd⟩ : ∃ d, takeD 2 t = d := ⟨_, rfl⟩
            rw [show (2 : Int).toNat = 2 from rfl, hd] at CD
            have hdd : d.all digQ = true := by rw [← hd]; exact Px.run_all _ _
            have hdl : d.length ≤ 2 ∧ d.length ≤ t.length := by rw [← hd]; exact takeD_le 2 t
            have HN1 := Lib.hid (fun h : ¬ (d.length = 2 ∧ valD d ≤ 59) => HNO.out (stepB_no t (by rw [hd]; exact h)))
            have HN2 := Lib.hid (fun h : d.length = 2 ∧ valD d ≤ 59 => HYES.out (valD d) (t.drop 2) (by rw [stepB_yes t (by rw [hd]; exact h), hd]))
            clear hxt hX hx0 hxc hr hd
            go_wp2_with fail
            rw [HXT.out]
            refine (CD.out _ HSR.out.rest).mono ?_
            rintro e V ⟨rfl, hb, hv⟩
            have HIV := Lib.hid (HSR.out.cut hb hv)
            have HEV := Lib.hid (HENV.out.keep HIV.out.below)
            clear hb hv c0 g0 d0 d1 d2 f0 f1 f2 hxe hx1 hx3
            obtain ⟨c0, g0⟩ := HIV.out.rest.row
            obtain ⟨⟨d0, d1, d2⟩, f0, f1, f2⟩ := HIV.out.parts.row
            by_cases hne : d = []
            · have HN := Lib.hid (HN1.out (by rw [hne]; decide))
              subst hne
              clear hdd hdl
              go_wp2_with fail
              refine (parse_int_no _ HEV.out).mono ?_
              rintro e V2 ⟨⟨N, rfl⟩, hb⟩
              have HI2 := Lib.hid (HIV.out.keep hb)
              clear hb
              go_wp2_with fail
              go_ret2
              exact parse_post HN.out rfl rfl HI2.out.below
            · have CP := Lib.hid (fun w => parse_int_ok d hdd hne (by omega) w)
              have hz : (bs d).size = d.length := bs_size d
              have hv := valD_lt d hdd
              have hv2 := Nat.pow_le_pow_right (n := 10) (by decide) hdl.1
              have hv3 : (valD d : Int) ≤ 99 := by omega
              clear hv hv2 hdd hne
              by_cases h2 : d.length = 2
              · have j1 : (((bs d).size : Int) != 2) = false := by rw [bne_eq_false_iff_eq]; omega
                by_cases h59 : valD d ≤ 59
                · have HSS := Lib.hid (HN2.out ⟨h2, h59⟩)
                  have hdt : t.drop d.length = t.drop 2 := by rw [h2]
                  rw [hdt] at HIV c0
                  have j2 : (valD d : Int) ≤ 59 := by omega
                  have hrl : (t.drop 2).length ≤ 1000000 := by rw [List.length_drop]; omega
                  obtain ⟨m, hm⟩ : ∃ m, valD d = m := ⟨_, rfl⟩
                  rw [hm] at CP j2 hv3 HSS
                  obtain ⟨r1, hr1⟩ : ∃ r1, t.drop 2 = r1 := ⟨_, rfl⟩
                  rw [hr1] at HIV c0 hrl HSS
                  obtain ⟨D, hD⟩ : ∃ D, bs d = D := ⟨_, rfl⟩
                  rw [hD] at CP j1 ⊢
                  clear h2 h59 hm hr1 hD hz hdl hdt
                  go_wp2_with fail
                  refine (CP.out _).mono ?_
                  rintro e V2 ⟨rfl, hb⟩
                  have HI2 := Lib.hid (HIV.out.keep hb)
                  clear hb c0 g0 d0 d1 d2 f0 f1 f2
                  obtain ⟨⟨d0, d1, d2⟩, f0, f1, f2⟩ := HI2.out.parts.row
                  go_wp2_with fail
                  exact ⟨⟨3, _, _, _, r1, rfl, HSS.out, hrl, HI2.out.set2 m⟩, by decide⟩
                · have HN := Lib.hid (HN1.out (fun h => h59 h.2))
                  have j2 : (59 : Int) < (valD d : Int) := by omega
                  obtain ⟨m, hm⟩ : ∃ m, valD d = m := ⟨_, rfl⟩
                  rw [hm] at CP j2 hv3
                  obtain ⟨D, hD⟩ : ∃ D, bs d = D := ⟨_, rfl⟩
                  rw [hD] at CP j1 ⊢
                  clear h2 h59 hm hD hz hdl
                  go_wp2_with fail
                  refine (CP.out _).mono ?_
                  rintro e V2 ⟨rfl, hb⟩
                  have HI2 := Lib.hid (HIV.out.keep hb)
                  clear hb
                  go_wp2_with fail
                  go_ret2
                  exact parse_post HN.out rfl rfl HI2.out.below
              · have j1 : (((bs d).size : Int) != 2) = true := by rw [bne_iff_ne]; omega
                have HN := Lib.hid (HN1.out (fun h => h2 h.1))
                obtain ⟨m, hm⟩ : ∃ m, valD d = m := ⟨_, rfl⟩
                rw [hm] at CP hv3
                obtain ⟨D, hD⟩ : ∃ D, bs d = D := ⟨_, rfl⟩
                rw [hD] at CP j1 ⊢
                clear h2 hm hD hz hdl
                go_wp2_with fail
                refine (CP.out _).mono ?_
                rintro e V2 ⟨rfl, hb⟩
                have HI2 := Lib.hid (HIV.out.keep hb)
                clear hb
                go_wp2_with fail
                go_ret2
                exact parse_post HN.out rfl rfl HI2.out.below
          · have HN := Lib.hid (HNO.out (stepB_other t hc))
            have hx58 : ∃ h : 0 < X.size, ((X[0].toNat : Int) != 58) = true := by
              subst hX
              refine ⟨hx0, ?_⟩
              rw [hxc, bne_iff_ne]
              intro h
              exact hc (UInt8.toNat_inj.1 (by have : (58 : UInt8).toNat = 58 := rfl; omega))
            rw [hX] at hxe
            obtain ⟨hx2, hx3⟩ := hx58
            clear hxt hX hx0 hxc hr hc
            go_wp2_with fail
            go_ret2
            exact parse_post HN.out rfl rfl HIR.out.below
      · have HF := Lib.hid (fin3 hA hq hB hq2 hC)
        clear hA hB hC hq hq2
        go_wp2_with fail
        go_meet
        exact ⟨x, y, z, r, HF.out, HIR.out⟩
  case rest =>
    obtain ⟨x, y, z, r, hF, hI⟩ := hcut
    have HIR := Lib.hid hI
    obtain ⟨c0, g0⟩ := hI.rest.row
    obtain ⟨⟨d0, d1, d2⟩, f0, f1, f2⟩ := hI.parts.row
    obtain ⟨k0, k1, k2⟩ := (HENV.out.keep hI.below).units
    have hcs := HFC.out x y z r hF
    have b3 : (x : Int) ≤ 999 := by have := hF.2.2.1; omega
    have b4 : (y : Int) ≤ 59 := by have := hF.2.2.2.1; omega
    have b5 : (z : Int) ≤ 59 := by have := hF.2.2.2.2; omega
    have i0 : ∀ w, (Instr.index 116 (.agg #[.int .i64 (x : Int), .int .i64 (y : Int), .int .i64 (z : Int)]) (.int .i64 0)).run Tryz.prog w = .ok (.int .i64 (x : Int)) w := fun _ => by kernel_rfl
    have i1 : ∀ w, (Instr.index 116 (.agg #[.int .i64 (x : Int), .int .i64 (y : Int), .int .i64 (z : Int)]) (.int .i64 1)).run Tryz.prog w = .ok (.int .i64 (y : Int)) w := fun _ => by kernel_rfl
    have i2 : ∀ w, (Instr.index 116 (.agg #[.int .i64 (x : Int), .int .i64 (y : Int), .int .i64 (z : Int)]) (.int .i64 2)).run Tryz.prog w = .ok (.int .i64 (z : Int)) w := fun _ => by kernel_rfl
    clear hI hF
    rcases hcs with ⟨e1, HP⟩ | ⟨e1, e2, t4, HP⟩ | ⟨e1, e2, t4, HP⟩
    all_goals
      go_wp2_with fail
      refine wp_loop_rounds 4 ?_
      rw [rounds_succ]
      go_wp2_with fail
      rw [rounds_succ]
      go_wp2_with fail
      rw [rounds_succ]
      go_wp2_with fail
      rw [rounds_succ]
      go_wp2_with fail
      go_ret2
      exact parse_post HP.out rfl rfl HIR.out.below
set_option maxHeartbeats 4000000 in
set_option maxRecDepth 100000 in
theorem parse_empty  (w : World) (hE : EnvAt w) :
    Calls Tryz.prog 59 #[.string (bs [])] w (parsePost [] w) := by
  obtain ⟨l, hl⟩ : ∃ l : List UInt8, [] = l := ⟨_, rfl⟩
  rw [hl]
  have hm : ¬ l.headD 0 = 45 := by rw [← hl]; decide
  have hlz : l.length ≤ 1000000 := by rw [← hl]; decide
  have hxe : (bs l).toList.isEmpty = true := by rw [← hl, ByteArray.toList_eq, bs_list]; rfl
  have hxe2 : (bs l).toList = [] := by rw [← hl, ByteArray.toList_eq, bs_list]
  have HPN := Lib.hid (fun h : formL l = none => parseO_no (l := l) (by rw [if_neg hm]; exact h))
  have HFC := Lib.hid (fun x y z r (h : Fin l x y z r) => fin_plus hm h)
  clear hm hl
  have HENV := Lib.hid hE
  clear hE
  go_enter Tryz.func59, Tryz.ntmps59
  go_upto_block 0 with fail
  have HI : Hid (OpInv w 0 0 0 l ((w.alloc (.cells #[.string (bs l)] 9)).alloc (.cells #[.int .i64 0, .int .i64 0, .int .i64 0] 116))) := Lib.hid ⟨((Below.refl _ w).alloc (Nat.le_refl _) _).alloc (by simp) _, Px.heap_old (Px.heap_new w _) _, by have := Px.heap_new (w.alloc (.cells #[.string (bs l)] 9)) (.cells #[.int .i64 0, .int .i64 0, .int .i64 0] 116); rwa [show (w.alloc (.cells #[.string (bs l)] 9)).heap.size = w.heap.size + 1 by simp] at this⟩
  go_cut [28] (fun _ wx => ∃ x y z r, Fin l x y z r ∧ OpInv w x y z r wx)
  case first =>
    go_wp2_with fail
    go_loopw [28] (fun i wx => ∃ (k x y z : Nat) (r : List UInt8), i = .int .i64 (k : Int) ∧ SS l k x y z r ∧ r.length ≤ 1000000 ∧ OpInv w x y z r wx) (fun i _ => 3 - (intOf i).toNat)
    case atStart => exact ⟨0, 0, 0, 0, l, rfl, .inl ⟨rfl, rfl, rfl, rfl, rfl⟩, hlz, HI.out⟩
    case round =>
      obtain ⟨k, x, y, z, r, rfl, hss, hrz, hI⟩ := hrel
      have HIR := Lib.hid hI
      obtain ⟨c0, g0⟩ := hI.rest.row
      obtain ⟨⟨d0, d1, d2⟩, f0, f1, f2⟩ := hI.parts.row
      clear hI
      rcases hss with ⟨rfl, rfl, rfl, rfl, rfl⟩ | ⟨rfl, hA, rfl, rfl⟩ | ⟨rfl, q, hA, hq, hB, rfl⟩ | ⟨rfl, q, q2, hA, hq, hB, hq2, hC⟩
      · have CD := Lib.hid (digits_any 3 (by decide) (by decide) w.heap.size r hrz)
        obtain ⟨d, hd⟩ : ∃ d, takeD 3 r = d := ⟨_, rfl⟩
        rw [show (3 : Int).toNat = 3 from rfl, hd] at CD
        have hdd : d.all digQ = true := by rw [← hd]; exact Px.run_all _ _
        have hdl : d.length ≤ 3 ∧ d.length ≤ r.length := by rw [← hd]; exact takeD_le 3 r
        go_wp2_with fail
        refine (CD.out _ HIR.out.rest).mono ?_
        rintro e V ⟨rfl, hb, hv⟩
        have HIV := Lib.hid (HIR.out.cut hb hv)
        have HEV := Lib.hid (HENV.out.keep HIV.out.below)
        clear hb hv c0 g0 d0 d1 d2 f0 f1 f2
        obtain ⟨c0, g0⟩ := HIV.out.rest.row
        obtain ⟨⟨d0, d1, d2⟩, f0, f1, f2⟩ := HIV.out.parts.row
        by_cases hne : d = []
        · have HN := Lib.hid (formL_A0 (stepA_no hd (.inl hne)))
          subst hne
          clear hdd hdl hd
          go_wp2_with fail
          refine (parse_int_no _ HEV.out).mono ?_
          rintro e V2 ⟨⟨N, rfl⟩, hb⟩
          have HI2 := Lib.hid (HIV.out.keep hb)
          clear hb
          go_wp2_with fail
          go_ret2
          exact parse_post (HPN.out HN.out) rfl rfl HI2.out.below
        · have CP := Lib.hid (fun w => parse_int_ok d hdd hne hdl.1 w)
          have hv := valD_lt d hdd
          have hv2 := Nat.pow_le_pow_right (n := 10) (by decide) hdl.1
          have hv3 : valD d ≤ 999 := by omega
          have hz : (bs d).size = d.length := bs_size d
          have hd0 : 0 < d.length := List.length_pos_iff.2 hne
          by_cases hbad : 1 < d.length ∧ d.headD 0 = 48
          · have HN := Lib.hid (formL_A0 (stepA_no hd (.inr hbad)))
            have hb2 := head_bad hbad.1 hbad.2
            obtain ⟨D, hD⟩ : ∃ D, bs d = D := ⟨_, rfl⟩
            rw [hD] at CD CP hb2
            obtain ⟨j1, j0, j2⟩ := hb2
            rw [hD]
            clear hbad hd hdd hdl hne hd0 hz hv hv2 hD
            go_wp2_with fail
            refine (CP.out _).mono ?_
            rintro e V2 ⟨rfl, hb⟩
            have HI2 := Lib.hid (HIV.out.keep hb)
            clear hb
            go_wp2_with fail
            go_ret2
            exact parse_post (HPN.out HN.out) rfl rfl HI2.out.below
          · have HN := Lib.hid (stepA_yes hd hne hbad)
            have hgood := head_good hbad
            have hrl : (r.drop d.length).length ≤ 1000000 := by rw [List.length_drop]; omega
            obtain ⟨m, hm⟩ : ∃ m, valD d = m := ⟨_, rfl⟩
            rw [hm] at CP HN hv3
            obtain ⟨r1, hr1⟩ : ∃ r1, r.drop d.length = r1 := ⟨_, rfl⟩
            rw [hr1] at HN HIV c0 hrl
            obtain ⟨D, hD⟩ : ∃ D, bs d = D := ⟨_, rfl⟩
            rw [hD] at CD CP hz hgood
            rw [hD]
            clear hbad hd hdd hdl hne hd0 hz hv hv2 hD hm hr1
            rcases hgood with j1 | ⟨j1, j0, j2⟩
            all_goals
              go_wp2_with fail
              refine (CP.out _).mono ?_
              rintro e V2 ⟨rfl, hb⟩
              have HI2 := Lib.hid (HIV.out.keep hb)
              clear hb c0 g0 d0 d1 d2 f0 f1 f2
              obtain ⟨⟨d0, d1, d2⟩, f0, f1, f2⟩ := HI2.out.parts.row
              go_wp2_with fail
              exact ⟨⟨1, m, 0, 0, r1, rfl, .inr (.inl ⟨rfl, HN.out, rfl, rfl⟩), hrl, HI2.out.set0 m⟩, by decide⟩
      · skip
        by_cases hr : r = []
        · subst hr
          have HF := Lib.hid (fin1 hA)
          clear hA
          have e0 : (bs []).toList.isEmpty = true := by rw [ByteArray.toList_eq, bs_list]; rfl
          have e1 : (bs []).toList = [] := by rw [ByteArray.toList_eq, bs_list]
          go_wp2_with fail
          go_meet
          exact ⟨_, _, _, [], HF.out, HIR.out⟩
        · obtain ⟨c, t, rfl⟩ := List.exists_cons_of_ne_nil hr
          have HNO := Lib.hid (fun h : stepB (c :: t) = none => HPN.out (bad2 hA hr h))
          have HYES := Lib.hid (fun (m : Nat) (u : List UInt8) (h : stepB (c :: t) = some (m, u)) => show SS l 2 x m 0 u from .inr (.inr (.inl ⟨rfl, _, hA, hr, h, rfl⟩)))
          clear hA
          have hx0 : 0 < (bs (c :: t)).size := by rw [bs_size]; simp
          have hxc : (bs (c :: t))[0] = c := head_at hx0
          have hxe : (bs (c :: t)).toList.isEmpty = false := by rw [ByteArray.toList_eq, bs_list]; rfl
          have hxt : (bs (c :: t)).extract 1 (bs (c :: t)).size = bs t := by rw [Lib.extract_from]; rfl
          have hx1 : (1 : Int) ≤ ((bs (c :: t)).size : Int) := by omega
          have htz : t.length ≤ 1000000 := by rw [List.length_cons] at hrz; omega
          obtain ⟨X, hX⟩ : ∃ X, bs (c :: t) = X := ⟨_, rfl⟩
          rw [hX] at c0 hx1
          by_cases hc : c = 58
          · subst hc
            have hx58 : ∃ h : 0 < X.size, ((X[0].toNat : Int) != 58) = false := by
              subst hX
              exact ⟨hx0, by rw [hxc]; rfl⟩
            rw [hX] at hxe hxt
            obtain ⟨hx2, hx3⟩ := hx58
            have HXT := Lib.hid hxt
            have CD := Lib.hid (digits_any 2 (by decide) (by decide) w.heap.size t htz)
            have HSR := Lib.hid (HIR.out.setR t)
            obtain ⟨d, hd⟩ : ∃ d, takeD 2 t = d := ⟨_, rfl⟩
            rw [show (2 : Int).toNat = 2 from rfl, hd] at CD
            have hdd : d.all digQ = true := by rw [← hd]; exact Px.run_all _ _
            have hdl : d.length ≤ 2 ∧ d.length ≤ t.length := by rw [← hd]; exact takeD_le 2 t
            have HN1 := Lib.hid (fun h : ¬ (d.length = 2 ∧ valD d ≤ 59) => HNO.out (stepB_no t (by rw [hd]; exact h)))
            have HN2 := Lib.hid (fun h : d.length = 2 ∧ valD d ≤ 59 => HYES.out (valD d) (t.drop 2) (by rw [stepB_yes t (by rw [hd]; exact h), hd]))
            clear hxt hX hx0 hxc hr hd
            go_wp2_with fail
            rw [HXT.out]
            refine (CD.out _ HSR.out.rest).mono ?_
            rintro e V ⟨rfl, hb, hv⟩
            have HIV := Lib.hid (HSR.out.cut hb hv)
            have HEV := Lib.hid (HENV.out.keep HIV.out.below)
            clear hb hv c0 g0 d0 d1 d2 f0 f1 f2 hxe hx1 hx3
            obtain ⟨c0, g0⟩ := HIV.out.rest.row
            obtain ⟨⟨d0, d1, d2⟩, f0, f1, f2⟩ := HIV.out.parts.row
            by_cases hne : d = []
            · have HN := Lib.hid (HN1.out (by rw [hne]; decide))
              subst hne
              clear hdd hdl
              go_wp2_with fail
              refine (parse_int_no _ HEV.out).mono ?_
              rintro e V2 ⟨⟨N, rfl⟩, hb⟩
              have HI2 := Lib.hid (HIV.out.keep hb)
              clear hb
              go_wp2_with fail
              go_ret2
              exact parse_post HN.out rfl rfl HI2.out.below
            · have CP := Lib.hid (fun w => parse_int_ok d hdd hne (by omega) w)
              have hz : (bs d).size = d.length := bs_size d
              have hv := valD_lt d hdd
              have hv2 := Nat.pow_le_pow_right (n := 10) (by decide) hdl.1
              have hv3 : (valD d : Int) ≤ 99 := by omega
              clear hv hv2 hdd hne
              by_cases h2 : d.length = 2
              · have j1 : (((bs d).size : Int) != 2) = false := by rw [bne_eq_false_iff_eq]; omega
                by_cases h59 : valD d ≤ 59
                · have HSS := Lib.hid (HN2.out ⟨h2, h59⟩)
                  have hdt : t.drop d.length = t.drop 2 := by rw [h2]
                  rw [hdt] at HIV c0
                  have j2 : (valD d : Int) ≤ 59 := by omega
                  have hrl : (t.drop 2).length ≤ 1000000 := by rw [List.length_drop]; omega
                  obtain ⟨m, hm⟩ : ∃ m, valD d = m := ⟨_, rfl⟩
                  rw [hm] at CP j2 hv3 HSS
                  obtain ⟨r1, hr1⟩ : ∃ r1, t.drop 2 = r1 := ⟨_, rfl⟩
                  rw [hr1] at HIV c0 hrl HSS
                  obtain ⟨D, hD⟩ : ∃ D, bs d = D := ⟨_, rfl⟩
                  rw [hD] at CP j1 ⊢
                  clear h2 h59 hm hr1 hD hz hdl hdt
                  go_wp2_with fail
                  refine (CP.out _).mono ?_
                  rintro e V2 ⟨rfl, hb⟩
                  have HI2 := Lib.hid (HIV.out.keep hb)
                  clear hb c0 g0 d0 d1 d2 f0 f1 f2
                  obtain ⟨⟨d0, d1, d2⟩, f0, f1, f2⟩ := HI2.out.parts.row
                  go_wp2_with fail
                  exact ⟨⟨2, _, _, _, r1, rfl, HSS.out, hrl, HI2.out.set1 m⟩, by decide⟩
                · have HN := Lib.hid (HN1.out (fun h => h59 h.2))
                  have j2 : (59 : Int) < (valD d : Int) := by omega
                  obtain ⟨m, hm⟩ : ∃ m, valD d = m := ⟨_, rfl⟩
                  rw [hm] at CP j2 hv3
                  obtain ⟨D, hD⟩ : ∃ D, bs d = D := ⟨_, rfl⟩
                  rw [hD] at CP j1 ⊢
                  clear h2 h59 hm hD hz hdl
                  go_wp2_with fail
                  refine (CP.out _).mono ?_
                  rintro e V2 ⟨rfl, hb⟩
                  have HI2 := Lib.hid (HIV.out.keep hb)
                  clear hb
                  go_wp2_with fail
                  go_ret2
                  exact parse_post HN.out rfl rfl HI2.out.below
              · have j1 : (((bs d).size : Int) != 2) = true := by rw [bne_iff_ne]; omega
                have HN := Lib.hid (HN1.out (fun h => h2 h.1))
                obtain ⟨m, hm⟩ : ∃ m, valD d = m := ⟨_, rfl⟩
                rw [hm] at CP hv3
                obtain ⟨D, hD⟩ : ∃ D, bs d = D := ⟨_, rfl⟩
                rw [hD] at CP j1 ⊢
                clear h2 hm hD hz hdl
                go_wp2_with fail
                refine (CP.out _).mono ?_
                rintro e V2 ⟨rfl, hb⟩
                have HI2 := Lib.hid (HIV.out.keep hb)
                clear hb
                go_wp2_with fail
                go_ret2
                exact parse_post HN.out rfl rfl HI2.out.below
          · have HN := Lib.hid (HNO.out (stepB_other t hc))
            have hx58 : ∃ h : 0 < X.size, ((X[0].toNat : Int) != 58) = true := by
              subst hX
              refine ⟨hx0, ?_⟩
              rw [hxc, bne_iff_ne]
              intro h
              exact hc (UInt8.toNat_inj.1 (by have : (58 : UInt8).toNat = 58 := rfl; omega))
            rw [hX] at hxe
            obtain ⟨hx2, hx3⟩ := hx58
            clear hxt hX hx0 hxc hr hc
            go_wp2_with fail
            go_ret2
            exact parse_post HN.out rfl rfl HIR.out.below
      · skip
        by_cases hr : r = []
        · subst hr
          have HF := Lib.hid (fin2 hA hq hB)
          clear hA hB hq
          have e0 : (bs []).toList.isEmpty = true := by rw [ByteArray.toList_eq, bs_list]; rfl
          have e1 : (bs []).toList = [] := by rw [ByteArray.toList_eq, bs_list]
          go_wp2_with fail
          go_meet
          exact ⟨_, _, _, [], HF.out, HIR.out⟩
        · obtain ⟨c, t, rfl⟩ := List.exists_cons_of_ne_nil hr
          have HNO := Lib.hid (fun h : stepB (c :: t) = none => HPN.out (bad3 hA hq hB hr h))
          have HYES := Lib.hid (fun (m : Nat) (u : List UInt8) (h : stepB (c :: t) = some (m, u)) => show SS l 3 x y m u from .inr (.inr (.inr ⟨rfl, _, _, hA, hq, hB, hr, h⟩)))
          clear hA hB hq
          have hx0 : 0 < (bs (c :: t)).size := by rw [bs_size]; simp
          have hxc : (bs (c :: t))[0] = c := head_at hx0
          have hxe : (bs (c :: t)).toList.isEmpty = false := by rw [ByteArray.toList_eq, bs_list]; rfl
          have hxt : (bs (c :: t)).extract 1 (bs (c :: t)).size = bs t := by rw [Lib.extract_from]; rfl
          have hx1 : (1 : Int) ≤ ((bs (c :: t)).size : Int) := by omega
          have htz : t.length ≤ 1000000 := by rw [List.length_cons] at hrz; omega
          obtain ⟨X, hX⟩ : ∃ X, bs (c :: t) = X := ⟨_, rfl⟩
          rw [hX] at c0 hx1
          by_cases hc : c = 58
          · subst hc
            have hx58 : ∃ h : 0 < X.size, ((X[0].toNat : Int) != 58) = false := by
              subst hX
              exact ⟨hx0, by rw [hxc]; rfl⟩
            rw [hX] at hxe hxt
            obtain ⟨hx2, hx3⟩ := hx58
            have HXT := Lib.hid hxt
            have CD := Lib.hid (digits_any 2 (by decide) (by decide) w.heap.size t htz)
            have HSR := Lib.hid (HIR.out.setR t)
            obtain ⟨d, hd⟩ : ∃ d, takeD 2 t = d := ⟨_, rfl⟩
            rw [show (2 : Int).toNat = 2 from rfl, hd] at CD
            have hdd : d.all digQ = true := by rw [← hd]; exact Px.run_all _ _
            have hdl : d.length ≤ 2 ∧ d.length ≤ t.length := by rw [← hd]; exact takeD_le 2 t
            have HN1 := Lib.hid (fun h : ¬ (d.length = 2 ∧ valD d ≤ 59) => HNO.out (stepB_no t (by rw [hd]; exact h)))
            have HN2 := Lib.hid (fun h : d.length = 2 ∧ valD d ≤ 59 => HYES.out (valD d) (t.drop 2) (by rw [stepB_yes t (by rw [hd]; exact h), hd]))
            clear hxt hX hx0 hxc hr hd
            go_wp2_with fail
            rw [HXT.out]
            refine (CD.out _ HSR.out.rest).mono ?_
            rintro e V ⟨rfl, hb, hv⟩
            have HIV := Lib.hid (HSR.out.cut hb hv)
            have HEV := Lib.hid (HENV.out.keep HIV.out.below)
            clear hb hv c0 g0 d0 d1 d2 f0 f1 f2 hxe hx1 hx3
            obtain ⟨c0, g0⟩ := HIV.out.rest.row
            obtain ⟨⟨d0, d1, d2⟩, f0, f1, f2⟩ := HIV.out.parts.row
            by_cases hne : d = []
            · have HN := Lib.hid (HN1.out (by rw [hne]; decide))
              subst hne
              clear hdd hdl
              go_wp2_with fail
              refine (parse_int_no _ HEV.out).mono ?_
              rintro e V2 ⟨⟨N, rfl⟩, hb⟩
              have HI2 := Lib.hid (HIV.out.keep hb)
              clear hb
              go_wp2_with fail
              go_ret2
              exact parse_post HN.out rfl rfl HI2.out.below
            · have CP := Lib.hid (fun w => parse_int_ok d hdd hne (by omega) w)
              have hz : (bs d).size = d.length := bs_size d
              have hv := valD_lt d hdd
              have hv2 := Nat.pow_le_pow_right (n := 10) (by decide) hdl.1
              have hv3 : (valD d : Int) ≤ 99 := by omega
              clear hv hv2 hdd hne
              by_cases h2 : d.length = 2
              · have j1 : (((bs d).size : Int) != 2) = false := by rw [bne_eq_false_iff_eq]; omega
                by_cases h59 : valD d ≤ 59
                · have HSS := Lib.hid (HN2.out ⟨h2, h59⟩)
                  have hdt : t.drop d.length = t.drop 2 := by rw [h2]
                  rw [hdt] at HIV c0
                  have j2 : (valD d : Int) ≤ 59 := by omega
                  have hrl : (t.drop 2).length ≤ 1000000 := by rw [List.length_drop]; omega
                  obtain ⟨m, hm⟩ : ∃ m, valD d = m := ⟨_, rfl⟩
                  rw [hm] at CP j2 hv3 HSS
                  obtain ⟨r1, hr1⟩ : ∃ r1, t.drop 2 = r1 := ⟨_, rfl⟩
                  rw [hr1] at HIV c0 hrl HSS
                  obtain ⟨D, hD⟩ : ∃ D, bs d = D := ⟨_, rfl⟩
                  rw [hD] at CP j1 ⊢
                  clear h2 h59 hm hr1 hD hz hdl hdt
                  go_wp2_with fail
                  refine (CP.out _).mono ?_
                  rintro e V2 ⟨rfl, hb⟩
                  have HI2 := Lib.hid (HIV.out.keep hb)
                  clear hb c0 g0 d0 d1 d2 f0 f1 f2
                  obtain ⟨⟨d0, d1, d2⟩, f0, f1, f2⟩ := HI2.out.parts.row
                  go_wp2_with fail
                  exact ⟨⟨3, _, _, _, r1, rfl, HSS.out, hrl, HI2.out.set2 m⟩, by decide⟩
                · have HN := Lib.hid (HN1.out (fun h => h59 h.2))
                  have j2 : (59 : Int) < (valD d : Int) := by omega
                  obtain ⟨m, hm⟩ : ∃ m, valD d = m := ⟨_, rfl⟩
                  rw [hm] at CP j2 hv3
                  obtain ⟨D, hD⟩ : ∃ D, bs d = D := ⟨_, rfl⟩
                  rw [hD] at CP j1 ⊢
                  clear h2 h59 hm hD hz hdl
                  go_wp2_with fail
                  refine (CP.out _).mono ?_
                  rintro e V2 ⟨rfl, hb⟩
                  have HI2 := Lib.hid (HIV.out.keep hb)
                  clear hb
                  go_wp2_with fail
                  go_ret2
                  exact parse_post HN.out rfl rfl HI2.out.below
              · have j1 : (((bs d).size : Int) != 2) = true := by rw [bne_iff_ne]; omega
                have HN := Lib.hid (HN1.out (fun h => h2 h.1))
                obtain ⟨m, hm⟩ : ∃ m, valD d = m := ⟨_, rfl⟩
                rw [hm] at CP hv3
                obtain ⟨D, hD⟩ : ∃ D, bs d = D := ⟨_, rfl⟩
                rw [hD] at CP j1 ⊢
                clear h2 hm hD hz hdl
                go_wp2_with fail
                refine (CP.out _).mono ?_
                rintro e V2 ⟨rfl, hb⟩
                have HI2 := Lib.hid (HIV.out.keep hb)
                clear hb
                go_wp2_with fail
                go_ret2
                exact parse_post HN.out rfl rfl HI2.out.below
          · have HN := Lib.hid (HNO.out (stepB_other t hc))
            have hx58 : ∃ h : 0 < X.size, ((X[0].toNat : Int) != 58) = true := by
              subst hX
              refine ⟨hx0, ?_⟩
              rw [hxc, bne_iff_ne]
              intro h
              exact hc (UInt8.toNat_inj.1 (by have : (58 : UInt8).toNat = 58 := rfl; omega))
            rw [hX] at hxe
            obtain ⟨hx2, hx3⟩ := hx58
            clear hxt hX hx0 hxc hr hc
            go_wp2_with fail
            go_ret2
            exact parse_post HN.out rfl rfl HIR.out.below
      · have HF := Lib.hid (fin3 hA hq hB hq2 hC)
        clear hA hB hC hq hq2
        go_wp2_with fail
        go_meet
        exact ⟨x, y, z, r, HF.out, HIR.out⟩
  case rest =>
    obtain ⟨x, y, z, r, hF, hI⟩ := hcut
    have HIR := Lib.hid hI
    obtain ⟨c0, g0⟩ := hI.rest.row
    obtain ⟨⟨d0, d1, d2⟩, f0, f1, f2⟩ := hI.parts.row
    obtain ⟨k0, k1, k2⟩ := (HENV.out.keep hI.below).units
    have hcs := HFC.out x y z r hF
    have b3 : (x : Int) ≤ 999 := by have := hF.2.2.1; omega
    have b4 : (y : Int) ≤ 59 := by have := hF.2.2.2.1; omega
    have b5 : (z : Int) ≤ 59 := by have := hF.2.2.2.2; omega
    have i0 : ∀ w, (Instr.index 116 (.agg #[.int .i64 (x : Int), .int .i64 (y : Int), .int .i64 (z : Int)]) (.int .i64 0)).run Tryz.prog w = .ok (.int .i64 (x : Int)) w := fun _ => by kernel_rfl
    have i1 : ∀ w, (Instr.index 116 (.agg #[.int .i64 (x : Int), .int .i64 (y : Int), .int .i64 (z : Int)]) (.int .i64 1)).run Tryz.prog w = .ok (.int .i64 (y : Int)) w := fun _ => by kernel_rfl
    have i2 : ∀ w, (Instr.index 116 (.agg #[.int .i64 (x : Int), .int .i64 (y : Int), .int .i64 (z : Int)]) (.int .i64 2)).run Tryz.prog w = .ok (.int .i64 (z : Int)) w := fun _ => by kernel_rfl
    clear hI hF
    rcases hcs with ⟨e1, HP⟩ | ⟨e1, e2, t4, HP⟩ | ⟨e1, e2, t4, HP⟩
    all_goals
      go_wp2_with fail
      refine wp_loop_rounds 4 ?_
      rw [rounds_succ]
      go_wp2_with fail
      rw [rounds_succ]
      go_wp2_with fail
      rw [rounds_succ]
      go_wp2_with fail
      rw [rounds_succ]
      go_wp2_with fail
      go_ret2
      exact parse_post HP.out rfl rfl HIR.out.below
theorem off_parse (s : ByteArray) (hs : s.size ≤ 1000000) (w : World) (hE : EnvAt w) :
    Calls Tryz.prog 59 #[.string s] w (parsePost s.data.toList w) := by
  obtain ⟨l, rfl⟩ : ∃ l, s = bs l := ⟨s.data.toList, rfl⟩
  rw [bs_size] at hs
  rw [bs_list]
  by_cases hne : l = []
  · subst hne; exact parse_empty w hE
  · by_cases h45 : l.headD 0 = 45
    · obtain ⟨c, t, rfl⟩ := List.exists_cons_of_ne_nil hne
      obtain rfl : c = 45 := h45
      exact parse_minus t (by rw [List.length_cons] at hs; omega) w hE
    · exact parse_plus l hs hne h45 w hE
end Go.Proofs.YtgllbagmmpicaaaGreatDoor.Off
