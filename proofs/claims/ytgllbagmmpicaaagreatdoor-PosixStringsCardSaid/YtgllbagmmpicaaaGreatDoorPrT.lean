/- The methods take, next, want and name of analemmaref37.Reader. -/
import Derived.Test.YtgllbagmmpicaaaGreatDoorPrQ
import Derived.Test.YtgllbagmmpicaaaGreatDoorOffX
import Derived.Deep.RegionWith
import Derived.Deep.CutBlock
import Derived.Deep.DeepCutAuto
import Derived.Outline
namespace Go.Proofs.YtgllbagmmpicaaaGreatDoor.Px
open Go.RowKit
open Civ
open Off (run past digQ parseO parsePost)

/-- a reader of the reference -/
def RfAt (w : World) (b : Nat) (l : List UInt8) (q : Bool) : Prop := w.heap[b]? = some (.cells #[.string (bs l), .bool q] 65 (0, 0))
theorem RfAt.lt {w : World} {b : Nat} {l : List UInt8} {q : Bool} (h : RfAt w b l q) : b < w.heap.size := lt_of_block h
theorem RfAt.keep {w w' : World} {b : Nat} {l : List UInt8} {q : Bool} (h : RfAt w b l q) (hB : Below w.heap.size w w') : RfAt w' b l q := (hB.block b h.lt).trans h
theorem RfAt.row {w : World} {b : Nat} {l : List UInt8} {q : Bool} (h : RfAt w b l q) : (w.cell? ⟨b, 0, none⟩ = some (.string (bs l)) ∧ w.cell? ⟨b, 1, none⟩ = some (.bool q)) ∧ w.frozen? ⟨b, 0, none⟩ = false ∧ w.frozen? ⟨b, 1, none⟩ = false :=
  ⟨⟨cells_at h 0, cells_at h 1⟩, free_at h 0, free_at h 1⟩
theorem RfAt.setL {w : World} {b : Nat} {l : List UInt8} {q : Bool} (h : RfAt w b l q) (m : List UInt8) : RfAt (w.setCell ⟨b, 0, none⟩ (.string (bs m))) b m q := cells_set h 0 _
theorem RfAt.setB {w : World} {b : Nat} {l : List UInt8} {q : Bool} (h : RfAt w b l q) (r : Bool) : RfAt (w.setCell ⟨b, 1, none⟩ (.bool r)) b l r := cells_set h 1 _
def RfPost (w : World) (b : Nat) (v : Value) (l : List UInt8) (q : Bool) (e : Ending) (w' : World) : Prop := e = .returned v ∧ But b w w' ∧ RfAt w' b l q
theorem bs_from (l : List UInt8) (k : Nat) (X : ByteArray) (hX : bs l = X) : X.extract k X.size = bs (l.drop k) := by subst hX; rw [Lib.extract_from]; rfl
theorem bs_upto (l : List UInt8) (k : Nat) (X : ByteArray) (hX : bs l = X) : X.extract 0 k = bs (l.take k) := by subst hX; rw [Lib.extract_upto]; rfl
set_option maxHeartbeats 1000000 in
theorem rf_take (n : Nat) (b : Nat) (l : List UInt8) (hl : l.length ≤ 1000000) (hn : n ≤ l.length) (q : Bool) (w : World) (h : RfAt w b l q) :
    Calls Tryz.prog 65 #[.pointer (some ⟨b, 0, none⟩), .int .i64 (n : Int)] w (RfPost w b (.string (bs (l.take n))) (l.drop n) q) := by
  obtain ⟨⟨c0, c1⟩, f0, f1⟩ := h.row
  have hz := bs_size l
  have HR := Lib.hid h
  obtain ⟨X, hX⟩ : ∃ X, bs l = X := ⟨_, rfl⟩
  rw [hX] at c0 hz
  have HX1 := Lib.hid (bs_upto l n X hX)
  have HX2 := Lib.hid (bs_from l n X hX)
  have i1 : (n : Int) ≤ (X.size : Int) := by omega
  have i0 : (0 : Int) ≤ (n : Int) := by omega
  have i2 : (X.size : Int) ≤ 1000000 := by omega
  clear h hX hz
  go_enter Tryz.func65, Tryz.ntmps65
  go_wp2_with fail
  go_ret
  refine ⟨congrArg (fun s => Ending.returned (Value.string s)) HX1.out, But.set _ _ _, ?_⟩
  rw [HX2.out]
  exact HR.out.setL _
theorem rf_take' (x : Int) (n : Nat) (hx : x = n) (b : Nat) (l : List UInt8) (hl : l.length ≤ 1000000) (hn : n ≤ l.length) (q : Bool) (w : World) (h : RfAt w b l q) :
    Calls Tryz.prog 65 #[.pointer (some ⟨b, 0, none⟩), .int .i64 x] w (RfPost w b (.string (bs (l.take n))) (l.drop n) q) := by
  subst hx; exact rf_take n b l hl hn q w h
set_option maxHeartbeats 1000000 in
theorem rf_next (c : UInt8) (b : Nat) (l : List UInt8) (hl : l.length ≤ 1000000) (q : Bool) (w : World) (h : RfAt w b l q) :
    Calls Tryz.prog 62 #[.pointer (some ⟨b, 0, none⟩), .int .u8 (c.toNat : Int)] w (RfPost w b (.bool (nextB c l)) (nextR c l) q) := by
  obtain ⟨⟨c0, c1⟩, f0, f1⟩ := h.row
  have hz := bs_size l
  have HR := Lib.hid h
  cases l with
  | nil =>
    have t0 : ((bs []).size : Int) = 0 := by rw [hz]; rfl
    have HN := Lib.hid (show nextB c [] = false ∧ nextR c [] = [] from ⟨rfl, rfl⟩)
    rw [HN.out.1, HN.out.2]
    clear h hz
    go_enter Tryz.func62, Tryz.ntmps62
    go_wp2_with fail
    go_ret
    exact ⟨rfl, But.refl _ _, HR.out⟩
  | cons a r =>
    have CT := Lib.hid (fun w2 h2 => rf_take 1 b (a :: r) hl (by simp) q w2 h2)
    unfold RfPost at CT
    have hx0 : 0 < (bs (a :: r)).size := by rw [hz]; simp
    have hxa : (bs (a :: r))[0] = a := by
      have := Off.headD_zero (bs (a :: r)) hx0
      rw [bs_list] at this
      exact this.symm
    have i0 : (0 : Int) < ((bs (a :: r)).size : Int) := by omega
    have t0 : (((bs (a :: r)).size : Int) == 0) = false := by rw [beq_eq_false_iff_ne]; omega
    by_cases hac : a = c
    · have HN := Lib.hid (show nextB c (a :: r) = true ∧ nextR c (a :: r) = (a :: r).drop 1 by
        have e : nextB c (a :: r) = true := by unfold nextB; rw [hac]; simp
        exact ⟨e, by unfold nextR; rw [e, if_pos rfl]⟩)
      rw [HN.out.1, HN.out.2]
      have t1 : (((bs (a :: r))[0].toNat : Int) != (c.toNat : Int)) = false := by rw [hxa, hac, bne_eq_false_iff_eq]
      obtain ⟨X, hX⟩ : ∃ X, bs (a :: r) = X := ⟨_, rfl⟩
      have tt : ∃ h : 0 < X.size, ((X[0].toNat : Int) != (c.toNat : Int)) = false := by subst hX; exact ⟨hx0, t1⟩
      rw [hX] at c0 t0 i0
      obtain ⟨hX0, t2⟩ := tt
      clear h hz hx0 hxa hac t1 hX
      go_enter Tryz.func62, Tryz.ntmps62
      go_wp2_with fail
      refine (CT.out _ HR.out).mono ?_
      rintro _ V ⟨rfl, hb, hr⟩
      have HB := Lib.hid hb
      have HV := Lib.hid hr
      clear hb hr
      go_wp2_with fail
      go_ret
      exact ⟨rfl, HB.out, HV.out⟩
    · have HN := Lib.hid (show nextB c (a :: r) = false ∧ nextR c (a :: r) = (a :: r) by
        have e : nextB c (a :: r) = false := by
          unfold nextB
          rw [List.head?_cons, Bool.eq_false_iff]
          intro h
          exact hac (Option.some.inj (eq_of_beq h))
        exact ⟨e, by unfold nextR; rw [e, if_neg (by decide)]⟩)
      rw [HN.out.1, HN.out.2]
      have t1 : (((bs (a :: r))[0].toNat : Int) != (c.toNat : Int)) = true := by
        rw [hxa, bne_iff_ne]
        intro h
        exact hac (UInt8.toNat_inj.1 (by omega))
      obtain ⟨X, hX⟩ : ∃ X, bs (a :: r) = X := ⟨_, rfl⟩
      have tt : ∃ h : 0 < X.size, ((X[0].toNat : Int) != (c.toNat : Int)) = true := by subst hX; exact ⟨hx0, t1⟩
      rw [hX] at c0 t0 i0
      obtain ⟨hX0, t2⟩ := tt
      clear h hz hx0 hxa hac t1 hX
      go_enter Tryz.func62, Tryz.ntmps62
      go_wp2_with fail
      go_ret
      exact ⟨rfl, But.refl _ _, HR.out⟩
set_option maxHeartbeats 1000000 in
theorem rf_want (c : UInt8) (b : Nat) (l : List UInt8) (hl : l.length ≤ 1000000) (q : Bool) (w : World) (h : RfAt w b l q) :
    Calls Tryz.prog 31 #[.pointer (some ⟨b, 0, none⟩), .int .u8 (c.toNat : Int)] w (fun e w' => ∃ v, RfPost w b v (nextR c l) (q || !nextB c l) e w') := by
  have CN := Lib.hid (fun w2 h2 => rf_next c b l hl q w2 h2)
  unfold RfPost at CN
  have HR := Lib.hid h
  obtain ⟨n, hn⟩ : ∃ n, nextB c l = n := ⟨_, rfl⟩
  rw [hn] at CN ⊢
  clear h hn
  go_enter Tryz.func31, Tryz.ntmps31
  go_wp2_with fail
  refine (CN.out _ HR.out).mono ?_
  rintro e V ⟨rfl, hb, hr⟩
  have HB := Lib.hid hb
  have HV := Lib.hid hr
  obtain ⟨⟨d0, d1⟩, g0, g1⟩ := hr.row
  clear hb hr
  cases n
  · go_wp2_with fail
    go_end0
    exact ⟨_, rfl, HB.out.trans (But.set _ _ _), by rw [show (q || !false) = true by cases q <;> rfl]; exact HV.out.setB _⟩
  · go_wp2_with fail
    go_end0
    exact ⟨_, rfl, HB.out, by rw [show (q || !true) = q by cases q <;> rfl]; exact HV.out⟩
end Go.Proofs.YtgllbagmmpicaaaGreatDoor.Px
