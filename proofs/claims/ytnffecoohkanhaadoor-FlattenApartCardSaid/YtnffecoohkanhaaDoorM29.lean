/- The drafts of eras (chapter 23): a FORMAT, the end of an era. The drafts of eras (chapter 23): an era. -/
import Derived.Test.YtnffecoohkanhaaDoorM27
import Derived.Test.YtnffecoohkanhaaDoorM28
import Derived.Deep.DeepCutAuto
namespace Go.Proofs.YtnffecoohkanhaaDoor.Px
open Go.RowKit
open Lk

def fmt23 (k : Nat) : ByteArray := [⟨#[76, 77, 84]⟩, ⟨#[71, 77, 84, 47, 66, 83, 84]⟩, ⟨#[69, 37, 115, 83, 84]⟩, ⟨#[37, 122]⟩, ⟨#[67, 69, 84, 47, 67, 69, 83, 84]⟩, ⟨#[87, 83, 84]⟩].getD k ⟨#[]⟩
set_option maxHeartbeats 4000000 in
set_option maxRecDepth 100000 in
theorem format23_any (n : Nat) (W : World) (hn : n < 256) :
    Calls Tryd.prog 66 #[.int .u8 (n : Int)] W fun e w' => e = .returned (.string (fmt23 (n % 6))) ∧ Below W.heap.size W w' := by
  obtain ⟨k, hk⟩ : ∃ k, n % 6 = k := ⟨_, rfl⟩
  rw [hk]
  have hk6 : k < 6 := by omega
  have hkT : (n : Int).tmod 6 = (k : Int) := by rw [← hk, Int.tmod_eq_emod_of_nonneg (by omega)]; simp
  have hkE : (n : Int) % 6 = (k : Int) := by omega
  have hwk : IntKind.u8.wrap (k : Int) = (k : Int) := IntWalk.u8_in _ (by omega)
  have K0 := Lib.hid ((Kp.start W).allocAt W.heap.size rfl (.cells #[.string ⟨#[76, 77, 84]⟩, .string ⟨#[71, 77, 84, 47, 66, 83, 84]⟩, .string ⟨#[69, 37, 115, 83, 84]⟩, .string ⟨#[37, 122]⟩, .string ⟨#[67, 69, 84, 47, 67, 69, 83, 84]⟩, .string ⟨#[87, 83, 84]⟩] 9))
  obtain ⟨s, hsk⟩ : ∃ s, fmt23 k = s := ⟨_, rfl⟩
  have hs : (W.alloc (.cells #[.string ⟨#[76, 77, 84]⟩, .string ⟨#[71, 77, 84, 47, 66, 83, 84]⟩, .string ⟨#[69, 37, 115, 83, 84]⟩, .string ⟨#[37, 122]⟩, .string ⟨#[67, 69, 84, 47, 67, 69, 83, 84]⟩, .string ⟨#[87, 83, 84]⟩] 9)).cell? ⟨W.heap.size, k, none⟩ = some (.string s) := by
    subst hsk
    have HC := fun i => cells_at (K0.out.at 0 rfl) i
    have h5 : k = 0 ∨ k = 1 ∨ k = 2 ∨ k = 3 ∨ k = 4 ∨ k = 5 := by omega
    rcases h5 with rfl | rfl | rfl | rfl | rfl | rfl
    · exact HC 0
    · exact HC 1
    · exact HC 2
    · exact HC 3
    · exact HC 4
    · exact HC 5
  rw [hsk]
  clear hk hsk
  go_enter Tryd.func66, Tryd.ntmps66
  go_wp2_with fail
  exact bodyPost_ret (v := .string s) (by simp [results, Tryd.results66, go_sem]) rfl ⟨rfl, K0.out.below⟩
theorem row8 {X : World} {b : Nat} {T : TypeId} {x0 x1 x2 x3 x4 x5 x6 x7 : Value} (h : X.heap[b]? = some (.cells #[x0, x1, x2, x3, x4, x5, x6, x7] T (0, 0))) : X.cell? ⟨b, 0, none⟩ = some x0 ∧ X.cell? ⟨b, 1, none⟩ = some x1 ∧ X.cell? ⟨b, 2, none⟩ = some x2 ∧ X.cell? ⟨b, 3, none⟩ = some x3 ∧ X.cell? ⟨b, 4, none⟩ = some x4 ∧ X.cell? ⟨b, 5, none⟩ = some x5 ∧ X.cell? ⟨b, 6, none⟩ = some x6 ∧ X.cell? ⟨b, 7, none⟩ = some x7 := ⟨cells_at h 0, cells_at h 1, cells_at h 2, cells_at h 3, cells_at h 4, cells_at h 5, cells_at h 6, cells_at h 7⟩
set_option maxHeartbeats 4000000 in
set_option maxRecDepth 100000 in
theorem until23_any (y m d : Int) (W : World) :
    Calls Tryd.prog 67 #[.int .i64 y, .int .i64 m, .int .i64 d] W fun e w' => e = .returned (.agg #[.bool true, .int .i64 y, .int .i64 m, .int .i64 1, .int .i64 0, .int .i64 d, .int .i64 0, .int .i64 0]) ∧ Below W.heap.size W w' := by
  have K0 := Lib.hid ((Kp.start W).allocAt W.heap.size rfl (.cells #[.bool false, .int .i64 0, .int .i64 0, .int .i64 0, .int .i64 0, .int .i64 0, .int .i64 0, .int .i64 0] 79))
  go_enter Tryd.func67, Tryd.ntmps67
  obtain ⟨z0, z1, z2, z3, z4, z5, z6, z7⟩ := row8 (K0.out.at 0 rfl)
  have hfr := fun k => free_at (K0.out.at 0 rfl) k
  obtain ⟨f0, f1, f2, f3, f4, f5, f6, f7⟩ := And.intro (hfr 0) (And.intro (hfr 1) (And.intro (hfr 2) (And.intro (hfr 3) (And.intro (hfr 4) (And.intro (hfr 5) (And.intro (hfr 6) (hfr 7)))))))
  clear hfr
  go_wp2_with fail
  have K1 := (Kp.start W).allocAt W.heap.size rfl (.cells #[.bool true, .int .i64 y, .int .i64 m, .int .i64 1, .int .i64 0, .int .i64 d, .int .i64 0, .int .i64 0] 79)
  obtain ⟨c0, c1, c2, c3, c4, c5, c6, c7⟩ := row8 (K1.at 0 rfl)
  exact bodyPost_ret (v := .agg #[.bool true, .int .i64 y, .int .i64 m, .int .i64 1, .int .i64 0, .int .i64 d, .int .i64 0, .int .i64 0]) (by simp [results, Tryd.results67, go_sem, c0, c1, c2, c3, c4, c5, c6, c7]) rfl ⟨rfl, K1.below⟩
end Go.Proofs.YtnffecoohkanhaaDoor.Px
namespace Go.Proofs.YtnffecoohkanhaaDoor.Px
open Go.RowKit
open Lk

/-- thirteen cells written one behind the other -/
theorem kp_era {L : List (Nat × Obj)} {W X : World} {b : Nat} {T : TypeId} {a0 a1 a2 a3 a4 a5 a6 a7 a8 a9 a10 a11 a12 : Value} (u0 u1 u2 u3 u4 u5 u6 u7 u8 u9 u10 u11 u12 : Value) (h : Kp ((b, .cells #[a0, a1, a2, a3, a4, a5, a6, a7, a8, a9, a10, a11, a12] T (0, 0)) :: L) [] W X) : Kp ((b, .cells #[u0, u1, u2, u3, u4, u5, u6, u7, u8, u9, u10, u11, u12] T (0, 0)) :: L) [] W (((((((((((((X.setCell ⟨b, 0, none⟩ u0).setCell ⟨b, 1, none⟩ u1).setCell ⟨b, 2, none⟩ u2).setCell ⟨b, 3, none⟩ u3).setCell ⟨b, 4, none⟩ u4).setCell ⟨b, 5, none⟩ u5).setCell ⟨b, 6, none⟩ u6).setCell ⟨b, 7, none⟩ u7).setCell ⟨b, 8, none⟩ u8).setCell ⟨b, 9, none⟩ u9).setCell ⟨b, 10, none⟩ u10).setCell ⟨b, 11, none⟩ u11).setCell ⟨b, 12, none⟩ u12) := by
  have k0 : Kp ((b, .cells #[u0, a1, a2, a3, a4, a5, a6, a7, a8, a9, a10, a11, a12] T (0, 0)) :: L) [] W _ := h.set 0 rfl 0 u0 rfl
  have k1 : Kp ((b, .cells #[u0, u1, a2, a3, a4, a5, a6, a7, a8, a9, a10, a11, a12] T (0, 0)) :: L) [] W _ := k0.set 0 rfl 1 u1 rfl
  have k2 : Kp ((b, .cells #[u0, u1, u2, a3, a4, a5, a6, a7, a8, a9, a10, a11, a12] T (0, 0)) :: L) [] W _ := k1.set 0 rfl 2 u2 rfl
  have k3 : Kp ((b, .cells #[u0, u1, u2, u3, a4, a5, a6, a7, a8, a9, a10, a11, a12] T (0, 0)) :: L) [] W _ := k2.set 0 rfl 3 u3 rfl
  have k4 : Kp ((b, .cells #[u0, u1, u2, u3, u4, a5, a6, a7, a8, a9, a10, a11, a12] T (0, 0)) :: L) [] W _ := k3.set 0 rfl 4 u4 rfl
  have k5 : Kp ((b, .cells #[u0, u1, u2, u3, u4, u5, a6, a7, a8, a9, a10, a11, a12] T (0, 0)) :: L) [] W _ := k4.set 0 rfl 5 u5 rfl
  have k6 : Kp ((b, .cells #[u0, u1, u2, u3, u4, u5, u6, a7, a8, a9, a10, a11, a12] T (0, 0)) :: L) [] W _ := k5.set 0 rfl 6 u6 rfl
  have k7 : Kp ((b, .cells #[u0, u1, u2, u3, u4, u5, u6, u7, a8, a9, a10, a11, a12] T (0, 0)) :: L) [] W _ := k6.set 0 rfl 7 u7 rfl
  have k8 : Kp ((b, .cells #[u0, u1, u2, u3, u4, u5, u6, u7, u8, a9, a10, a11, a12] T (0, 0)) :: L) [] W _ := k7.set 0 rfl 8 u8 rfl
  have k9 : Kp ((b, .cells #[u0, u1, u2, u3, u4, u5, u6, u7, u8, u9, a10, a11, a12] T (0, 0)) :: L) [] W _ := k8.set 0 rfl 9 u9 rfl
  have k10 : Kp ((b, .cells #[u0, u1, u2, u3, u4, u5, u6, u7, u8, u9, u10, a11, a12] T (0, 0)) :: L) [] W _ := k9.set 0 rfl 10 u10 rfl
  have k11 : Kp ((b, .cells #[u0, u1, u2, u3, u4, u5, u6, u7, u8, u9, u10, u11, a12] T (0, 0)) :: L) [] W _ := k10.set 0 rfl 11 u11 rfl
  have k12 : Kp ((b, .cells #[u0, u1, u2, u3, u4, u5, u6, u7, u8, u9, u10, u11, u12] T (0, 0)) :: L) [] W _ := k11.set 0 rfl 12 u12 rfl
  exact k12
theorem row13 {X : World} {b : Nat} {T : TypeId} {x0 x1 x2 x3 x4 x5 x6 x7 x8 x9 x10 x11 x12 : Value} (h : X.heap[b]? = some (.cells #[x0, x1, x2, x3, x4, x5, x6, x7, x8, x9, x10, x11, x12] T (0, 0))) : X.cell? ⟨b, 0, none⟩ = some x0 ∧ X.cell? ⟨b, 1, none⟩ = some x1 ∧ X.cell? ⟨b, 2, none⟩ = some x2 ∧ X.cell? ⟨b, 3, none⟩ = some x3 ∧ X.cell? ⟨b, 4, none⟩ = some x4 ∧ X.cell? ⟨b, 5, none⟩ = some x5 ∧ X.cell? ⟨b, 6, none⟩ = some x6 ∧ X.cell? ⟨b, 7, none⟩ = some x7 ∧ X.cell? ⟨b, 8, none⟩ = some x8 ∧ X.cell? ⟨b, 9, none⟩ = some x9 ∧ X.cell? ⟨b, 10, none⟩ = some x10 ∧ X.cell? ⟨b, 11, none⟩ = some x11 ∧ X.cell? ⟨b, 12, none⟩ = some x12 := ⟨cells_at h 0, cells_at h 1, cells_at h 2, cells_at h 3, cells_at h 4, cells_at h 5, cells_at h 6, cells_at h 7, cells_at h 8, cells_at h 9, cells_at h 10, cells_at h 11, cells_at h 12⟩
theorem free13 {X : World} {b : Nat} {T : TypeId} {x0 x1 x2 x3 x4 x5 x6 x7 x8 x9 x10 x11 x12 : Value} (h : X.heap[b]? = some (.cells #[x0, x1, x2, x3, x4, x5, x6, x7, x8, x9, x10, x11, x12] T (0, 0))) : X.frozen? ⟨b, 0, none⟩ = false ∧ X.frozen? ⟨b, 1, none⟩ = false ∧ X.frozen? ⟨b, 2, none⟩ = false ∧ X.frozen? ⟨b, 3, none⟩ = false ∧ X.frozen? ⟨b, 4, none⟩ = false ∧ X.frozen? ⟨b, 5, none⟩ = false ∧ X.frozen? ⟨b, 6, none⟩ = false ∧ X.frozen? ⟨b, 7, none⟩ = false ∧ X.frozen? ⟨b, 8, none⟩ = false ∧ X.frozen? ⟨b, 9, none⟩ = false ∧ X.frozen? ⟨b, 10, none⟩ = false ∧ X.frozen? ⟨b, 11, none⟩ = false ∧ X.frozen? ⟨b, 12, none⟩ = false := ⟨free_at h 0, free_at h 1, free_at h 2, free_at h 3, free_at h 4, free_at h 5, free_at h 6, free_at h 7, free_at h 8, free_at h 9, free_at h 10, free_at h 11, free_at h 12⟩
/-- the values of an era's fields, by its numbers -/
def eQ (b : Bool) (k : Nat) : Bool := b && decide (k = 2)
def eK (q : Bool) (k : Nat) : Nat := if q = true then 0 else k
def eS (k : Nat) (p : Int) : Int := if k = 1 then p else 0
def eN (k : Nat) (s : ByteArray) : ByteArray := if k = 2 then ⟨#[82]⟩ ++ s else ⟨#[]⟩
def eB (b : Bool) (x : Int) : Int := if b = true then x else 0
def eD (d : Nat) (x y : Int) : Int := if 200 ≤ d then x else y
/-- what a slot of an era's region holds -/
inductive Ke where
  | eq (v : Value)
  | str
  | era (a b : Int) (s : ByteArray)
  | new (N : Nat)
def Ke.S : Ke → World → Value → Prop
  | .eq u, _, v => v = u
  | .str, _, v => ∃ s : ByteArray, v = .string s
  | .era a b s, _, v => v = .agg #[.int .i64 a, .int .i64 b, .int .i64 0, .string ⟨#[]⟩, .string s, .bool false, .int .i64 0, .int .i64 0, .int .i64 0, .int .i64 0, .int .i64 0, .int .i64 0, .int .i64 0]
  | .new N, w, v => ∃ b, N ≤ b ∧ v = .pointer (some ⟨b, 0, none⟩) ∧ w.heap[b]? = some (.cells #[.int .i64 0, .int .i64 0, .int .i64 0, .string ⟨#[]⟩, .string ⟨#[]⟩, .bool false, .int .i64 0, .int .i64 0, .int .i64 0, .int .i64 0, .int .i64 0, .int .i64 0, .int .i64 0] 81 (0, 0))
theorem Ke.keep {w w' : World} (hB : Below w.heap.size w w') : ∀ (k : Ke) (v : Value), k.S w v → k.S w' v
  | .eq _, _, h => h
  | .str, _, h => h
  | .era _ _ _, _, h => h
  | .new _, _, ⟨b, hn, h, hb⟩ => ⟨b, hn, h, (hB.block b (lt_of_block hb)).trans hb⟩
def keS (N : Nat) (l : List Ke) (base last : Nat) (d : Nat) (w : World) (v : Value) : Prop := if d = last then Ke.S (.new N) w v else Ke.S (l.getD (d - base) (.eq undef)) w v
theorem keS_keep {N : Nat} {l : List Ke} {base last d : Nat} {w w' : World} {v : Value} (h : keS N l base last d w v) (hB : Below w.heap.size w w') : keS N l base last d w' v := by
  unfold keS at h ⊢
  split
  · rename_i h0; rw [if_pos h0] at h; exact Ke.keep hB _ _ h
  · rename_i h0; rw [if_neg h0] at h; exact Ke.keep hB _ _ h
set_option maxHeartbeats 4000000 in
set_option maxRecDepth 100000 in
theorem made23_any (kd st fm yr dy bz : Nat) (of at' : Int) (first last : Bool) (sets year : Int) (hkd : kd < 256) (hst : st < 256) (hfm : fm < 256) (_hyr : yr < 256) (hdy : dy < 256) (hbs : bz < 256) (_hof : -128 ≤ of ∧ of ≤ 127) (_hat : -128 ≤ at' ∧ at' ≤ 127) (hs1 : 1 ≤ sets) (hs2 : sets ≤ 3) :
    ∃ x : ErQ, ∀ W : World, EnvAt W → Calls Tryd.prog 45 #[.agg #[.int .u8 (kd : Int), .int .u8 (st : Int), .int .u8 (fm : Int), .int .u8 (yr : Int), .int .u8 (dy : Int), .int .u8 (bz : Int), .int .i8 of, .int .i8 at'], .bool first, .int .i64 sets, .int .i64 year, .bool last] W fun e w' => e = .returned (.agg (erqC x).toArray) ∧ Below W.heap.size W w' := by
  obtain ⟨k3, hk3⟩ : ∃ k, kd % 3 = k := ⟨_, rfl⟩
  have hk3L : k3 < 3 := by omega
  have hk3T : (kd : Int).tmod 3 = (k3 : Int) := by rw [← hk3, Int.tmod_eq_emod_of_nonneg (by omega)]; simp
  have hk3E : (kd : Int) % 3 = (k3 : Int) := by omega
  have hk3U : IntKind.u8.wrap (k3 : Int) = (k3 : Int) := IntWalk.u8_in _ (by omega)
  have hk3W : IntKind.i64.wrap (k3 : Int) = (k3 : Int) := IntWalk.i64_in _ (by omega)
  obtain ⟨s4, hs4⟩ : ∃ k, st % 4 = k := ⟨_, rfl⟩
  have hs4L : s4 < 4 := by omega
  have hs4T : (st : Int).tmod 4 = (s4 : Int) := by rw [← hs4, Int.tmod_eq_emod_of_nonneg (by omega)]; simp
  have hs4E : (st : Int) % 4 = (s4 : Int) := by omega
  have hs4U : IntKind.u8.wrap (s4 : Int) = (s4 : Int) := IntWalk.u8_in _ (by omega)
  have hs4W : IntKind.i64.wrap (s4 : Int) = (s4 : Int) := IntWalk.i64_in _ (by omega)
  obtain ⟨d20, hd20⟩ : ∃ k, dy % 20 = k := ⟨_, rfl⟩
  have hd20L : d20 < 20 := by omega
  have hd20T : (dy : Int).tmod 20 = (d20 : Int) := by rw [← hd20, Int.tmod_eq_emod_of_nonneg (by omega)]; simp
  have hd20E : (dy : Int) % 20 = (d20 : Int) := by omega
  have hd20U : IntKind.u8.wrap (d20 : Int) = (d20 : Int) := IntWalk.u8_in _ (by omega)
  have hd20W : IntKind.i64.wrap (d20 : Int) = (d20 : Int) := IntWalk.i64_in _ (by omega)
  obtain ⟨d7, hd7⟩ : ∃ k, dy % 7 = k := ⟨_, rfl⟩
  have hd7L : d7 < 7 := by omega
  have hd7T : (dy : Int).tmod 7 = (d7 : Int) := by rw [← hd7, Int.tmod_eq_emod_of_nonneg (by omega)]; simp
  have hd7E : (dy : Int) % 7 = (d7 : Int) := by omega
  have hd7U : IntKind.u8.wrap (d7 : Int) = (d7 : Int) := IntWalk.u8_in _ (by omega)
  have hd7W : IntKind.i64.wrap (d7 : Int) = (d7 : Int) := IntWalk.i64_in _ (by omega)
  obtain ⟨b3, hb3⟩ : ∃ k, bz % 3 = k := ⟨_, rfl⟩
  have hb3L : b3 < 3 := by omega
  have hb3T : (bz : Int).tmod 3 = (b3 : Int) := by rw [← hb3, Int.tmod_eq_emod_of_nonneg (by omega)]; simp
  have hb3E : (bz : Int) % 3 = (b3 : Int) := by omega
  have hb3U : IntKind.u8.wrap (b3 : Int) = (b3 : Int) := IntWalk.u8_in _ (by omega)
  have hb3W : IntKind.i64.wrap (b3 : Int) = (b3 : Int) := IntWalk.i64_in _ (by omega)
  obtain ⟨o48, ho⟩ : ∃ o, of.tmod 48 = o := ⟨_, rfl⟩
  have ho1 : -48 < o48 ∧ o48 < 48 := by rw [← ho]; exact ⟨Int.lt_tmod_of_pos _ (by omega), Int.tmod_lt_of_pos _ (by omega)⟩
  have hoU : IntKind.i8.wrap o48 = o48 := IntWalk.i8_in _ (by omega)
  have hoW : IntKind.i64.wrap o48 = o48 := IntWalk.i64_in _ (by omega)
  obtain ⟨o9, ho9⟩ : ∃ o, 900 * o48 = o := ⟨_, rfl⟩
  have ho9W : IntKind.i64.wrap o9 = o9 := IntWalk.i64_in _ (by omega)
  have hs0 : ¬ sets = 0 := by omega
  have hstW : IntKind.i64.wrap (st : Int) = (st : Int) := IntWalk.i64_in _ (by omega)
  obtain ⟨rr, hrr⟩ : ∃ rr : Nat, (st : Int).tmod sets = (rr : Int) := ⟨((st : Int).tmod sets).toNat, by have := Int.tmod_nonneg sets (show (0 : Int) ≤ (st : Int) by omega); omega⟩
  have hrr3 : rr < 3 := by have := Int.tmod_lt_of_pos (st : Int) (show (0 : Int) < sets by omega); omega
  have hrrW : IntKind.i64.wrap (rr : Int) = (rr : Int) := IntWalk.i64_in _ (by omega)
  obtain ⟨sj, hsj⟩ : ∃ s, bs (Lib.itoa (rr : Int)) = s := ⟨_, rfl⟩
  have hsl : sj.size ≤ 2 := by rw [← hsj]; exact itoa_len (by omega)
  have hcat : ¬ 9223372036854775807 < 1 + sj.size := by omega
  obtain ⟨dd, hdd⟩ : ∃ p : Int, 1 + (d20 : Int) = p := ⟨_, rfl⟩
  have hddW : IntKind.i64.wrap dd = dd := IntWalk.i64_in _ (by omega)
  obtain ⟨t24, ht⟩ : ∃ o, at'.tmod 24 = o := ⟨_, rfl⟩
  have ht1 : -24 < t24 ∧ t24 < 24 := by rw [← ht]; exact ⟨Int.lt_tmod_of_pos _ (by omega), Int.tmod_lt_of_pos _ (by omega)⟩
  have htU : IntKind.i8.wrap t24 = t24 := IntWalk.i8_in _ (by omega)
  have htW : IntKind.i64.wrap t24 = t24 := IntWalk.i64_in _ (by omega)
  obtain ⟨t48, ht48⟩ : ∃ o, 24 + t24 = o := ⟨_, rfl⟩
  have ht48W : IntKind.i64.wrap t48 = t48 := IntWalk.i64_in _ (by omega)
  obtain ⟨q9, hq9⟩ : ∃ o, 900 * t48 = o := ⟨_, rfl⟩
  have hq9W : IntKind.i64.wrap q9 = q9 := IntWalk.i64_in _ (by omega)
  obtain ⟨p4, hp4⟩ : ∃ p : Int, 1 + (s4 : Int) = p := ⟨_, rfl⟩
  have hp4U : IntKind.u8.wrap p4 = p4 := IntWalk.u8_in _ (by omega)
  have hp4W : IntKind.i64.wrap p4 = p4 := IntWalk.i64_in _ (by omega)
  obtain ⟨p18, hp18⟩ : ∃ p : Int, 1800 * p4 = p := ⟨_, rfl⟩
  have hp18W : IntKind.i64.wrap p18 = p18 := IntWalk.i64_in _ (by omega)
  obtain ⟨fs, hfs⟩ : ∃ s, fmt23 (fm % 6) = s := ⟨_, rfl⟩
  have HFS := Lib.hid hfs
  clear hfs
  refine ⟨⟨o9, ((eK (eQ first k3) k3 : Nat) : Int), eS (eK (eQ first k3) k3) p18, eN (eK (eQ first k3) k3) sj, fs, last, eB last year, eB last 1, eB last (eD dy 3 1), eB last (eD dy (d7 : Int) 0), eB last (eD dy 8 dd), eB last q9, eB last (b3 : Int)⟩, fun W hE => ?_⟩
  have HE := Lib.hid hE
  have CI := Lib.hid (fun (Y : World) (hB : Below W.heap.size W Y) => itoa_any (rr : Int) (by omega) (by omega) Y (HE.out.keep hB))
  rw [hsj] at CI
  clear hsj
  have K0 := Lib.hid (((Kp.start W).allocAt W.heap.size rfl (.cells #[.int .u8 (kd : Int), .int .u8 (st : Int), .int .u8 (fm : Int), .int .u8 (yr : Int), .int .u8 (dy : Int), .int .u8 (bz : Int), .int .i8 of, .int .i8 at'] 96)).allocAt (W.heap.size + 1) (by simp) (.cells #[.int .i64 0, .int .i64 0, .int .i64 0, .string ⟨#[]⟩, .string ⟨#[]⟩, .bool false, .int .i64 0, .int .i64 0, .int .i64 0, .int .i64 0, .int .i64 0, .int .i64 0, .int .i64 0] 81))
  clear hE hk3 hs4 hd20 hd7 hb3
  go_enter Tryd.func45, Tryd.ntmps45
  go_upto_region 1 with fail
  obtain ⟨E, hEq⟩ : ∃ p, W.heap.size = p := ⟨_, rfl⟩
  obtain ⟨X, hX⟩ : ∃ X, (W.alloc (.cells #[.int .u8 (kd : Int), .int .u8 (st : Int), .int .u8 (fm : Int), .int .u8 (yr : Int), .int .u8 (dy : Int), .int .u8 (bz : Int), .int .i8 of, .int .i8 at'] 96)).alloc (.cells #[.int .i64 0, .int .i64 0, .int .i64 0, .string ⟨#[]⟩, .string ⟨#[]⟩, .bool false, .int .i64 0, .int .i64 0, .int .i64 0, .int .i64 0, .int .i64 0, .int .i64 0, .int .i64 0] 81) = X := ⟨_, rfl⟩
  rw [hX] at K0
  simp only [hX]
  clear hX
  rw [hEq] at K0
  have HEq := Lib.hid hEq
  simp only [hEq]
  obtain ⟨R, hRq⟩ : ∃ p, E + 1 = p := ⟨_, rfl⟩
  rw [hRq] at K0
  simp only [hRq]
  clear hEq hRq
  refine Py.wp_region_steps_tail 14 (by kernel_rfl) (by kernel_rfl) (by kernel_rfl) (keS X.heap.size [.eq (.pointer (some ⟨E, 6, none⟩)), .eq (.int .i8 of), .eq (.int .i8 o48), .eq (.int .i64 o48), .eq (.int .i64 o9), .eq (.pointer (some ⟨E, 0, none⟩)), .eq (.int .u8 (kd : Int)), .eq (.int .u8 (k3 : Int)), .eq (.int .i64 (k3 : Int)), .eq (.pointer (some ⟨E, 2, none⟩)), .eq (.int .u8 (fm : Int)), .eq (.string fs), .era o9 (k3 : Int) fs] 12 11) (by kernel_rfl) (fun d w w' v h hB => keS_keep h hB) ?steps ?hend
  case steps =>
      refine Py.steps_cons 12 rfl ?_ ?_
      · intro T D' w hB0 hold hdep K hK0
        have hK := Lib.hid hK0
        have h5 : T[5]?.getD undef = .pointer (some ⟨E, 0, none⟩) := hold 5 rfl
        clear hold hdep hK0
        go_simp
        exact hK.out _ _ (Below.refl _ _) rfl
      refine Py.steps_cons 13 rfl ?_ ?_
      · intro T D' w hB0 hold hdep K hK0
        have hK := Lib.hid hK0
        have q12 : T[12]?.getD undef = .pointer (some ⟨E, 6, none⟩) := Py.dep hdep 0 (by kernel_rfl) rfl rfl
        clear hold hdep hK0
        obtain ⟨c0, c1, c2, c3, c4, c5, c6, c7⟩ := row8 ((K0.out.keep hB0).at 1 rfl)
        go_simp
        exact hK.out _ _ (Below.refl _ _) rfl
      refine Py.steps_cons 14 rfl ?_ ?_
      · intro T D' w hB0 hold hdep K hK0
        have hK := Lib.hid hK0
        have q13 : T[13]?.getD undef = .int .i8 of := Py.dep hdep 1 (by kernel_rfl) rfl rfl
        clear hold hdep hK0
        go_simp
        exact hK.out _ _ (Below.refl _ _) rfl
      refine Py.steps_cons 15 rfl ?_ ?_
      · intro T D' w hB0 hold hdep K hK0
        have hK := Lib.hid hK0
        have q14 : T[14]?.getD undef = .int .i8 o48 := Py.dep hdep 2 (by kernel_rfl) rfl rfl
        clear hold hdep hK0
        go_simp
        exact hK.out _ _ (Below.refl _ _) rfl
      refine Py.steps_cons 16 rfl ?_ ?_
      · intro T D' w hB0 hold hdep K hK0
        have hK := Lib.hid hK0
        have q15 : T[15]?.getD undef = .int .i64 o48 := Py.dep hdep 3 (by kernel_rfl) rfl rfl
        clear hold hdep hK0
        go_simp
        exact hK.out _ _ (Below.refl _ _) rfl
      refine Py.steps_cons 17 rfl ?_ ?_
      · intro T D' w hB0 hold hdep K hK0
        have hK := Lib.hid hK0
        have h5 : T[5]?.getD undef = .pointer (some ⟨E, 0, none⟩) := hold 5 rfl
        clear hold hdep hK0
        go_simp
        exact hK.out _ _ (Below.refl _ _) rfl
      refine Py.steps_cons 18 rfl ?_ ?_
      · intro T D' w hB0 hold hdep K hK0
        have hK := Lib.hid hK0
        have q17 : T[17]?.getD undef = .pointer (some ⟨E, 0, none⟩) := Py.dep hdep 5 (by kernel_rfl) rfl rfl
        clear hold hdep hK0
        obtain ⟨c0, c1, c2, c3, c4, c5, c6, c7⟩ := row8 ((K0.out.keep hB0).at 1 rfl)
        go_simp
        exact hK.out _ _ (Below.refl _ _) rfl
      refine Py.steps_cons 19 rfl ?_ ?_
      · intro T D' w hB0 hold hdep K hK0
        have hK := Lib.hid hK0
        have q18 : T[18]?.getD undef = .int .u8 (kd : Int) := Py.dep hdep 6 (by kernel_rfl) rfl rfl
        clear hold hdep hK0
        go_simp
        exact hK.out _ _ (Below.refl _ _) rfl
      refine Py.steps_cons 20 rfl ?_ ?_
      · intro T D' w hB0 hold hdep K hK0
        have hK := Lib.hid hK0
        have q19 : T[19]?.getD undef = .int .u8 (k3 : Int) := Py.dep hdep 7 (by kernel_rfl) rfl rfl
        clear hold hdep hK0
        go_simp
        exact hK.out _ _ (Below.refl _ _) rfl
      refine Py.steps_cons 21 rfl ?_ ?_
      · intro T D' w hB0 hold hdep K hK0
        have hK := Lib.hid hK0
        have h5 : T[5]?.getD undef = .pointer (some ⟨E, 0, none⟩) := hold 5 rfl
        clear hold hdep hK0
        go_simp
        exact hK.out _ _ (Below.refl _ _) rfl
      refine Py.steps_cons 22 rfl ?_ ?_
      · intro T D' w hB0 hold hdep K hK0
        have hK := Lib.hid hK0
        have q21 : T[21]?.getD undef = .pointer (some ⟨E, 2, none⟩) := Py.dep hdep 9 (by kernel_rfl) rfl rfl
        clear hold hdep hK0
        obtain ⟨c0, c1, c2, c3, c4, c5, c6, c7⟩ := row8 ((K0.out.keep hB0).at 1 rfl)
        go_simp
        exact hK.out _ _ (Below.refl _ _) rfl
      refine Py.steps_cons 23 rfl ?_ ?_
      · intro T D' w hB0 hold hdep K hK0
        have hK := Lib.hid hK0
        have q22 : T[22]?.getD undef = .int .u8 (fm : Int) := Py.dep hdep 10 (by kernel_rfl) rfl rfl
        clear hold hdep hK0
        go_simp
        refine (format23_any fm w hfm).mono ?_
        rintro _ V ⟨rfl, hb⟩
        exact hK.out _ _ hb (by show Value.string (fmt23 (fm % 6)) = _; rw [HFS.out])
      refine Py.steps_cons 24 rfl ?_ ?_
      · intro T D' w hB0 hold hdep K hK0
        have hK := Lib.hid hK0
        have q16 : T[16]?.getD undef = .int .i64 o9 := Py.dep hdep 4 (by kernel_rfl) rfl rfl
        have q20 : T[20]?.getD undef = .int .i64 (k3 : Int) := Py.dep hdep 8 (by kernel_rfl) rfl rfl
        have q23 : Ke.S (.eq (.string fs)) w (T[23]?.getD undef) := Py.dep hdep 11 (by kernel_rfl) rfl rfl
        clear hold hdep hK0
        have e23 : T[23]?.getD undef = .string fs := q23
        go_simp
        exact hK.out _ _ (Below.refl _ _) rfl
      refine Py.steps_cons 11 rfl ?_ ?_
      · intro T D' w hB0 hold hdep K hK0
        have hK := Lib.hid hK0
        clear hold hdep hK0
        have hw := hB0.size
        go_simp
        exact hK.out _ _ ((Below.refl _ w).alloc (Nat.le_refl _) _) ⟨w.heap.size, hw, rfl, ((Kp.start w).alloc _).at 0 rfl⟩
      exact Py.steps_nil
  case hend =>
    intro T w hsz hB0 hold hS
    have g0 : T[0]?.getD undef = .agg #[.int .u8 (kd : Int), .int .u8 (st : Int), .int .u8 (fm : Int), .int .u8 (yr : Int), .int .u8 (dy : Int), .int .u8 (bz : Int), .int .i8 of, .int .i8 at'] := hold 0 rfl
    have g1 : T[1]?.getD undef = .bool first := hold 1 rfl
    have g2 : T[2]?.getD undef = .int .i64 sets := hold 2 rfl
    have g3 : T[3]?.getD undef = .int .i64 year := hold 3 rfl
    have g4 : T[4]?.getD undef = .bool last := hold 4 rfl
    have g5 : T[5]?.getD undef = .pointer (some ⟨E, 0, none⟩) := hold 5 rfl
    have g10 : T[10]?.getD undef = .pointer (some ⟨R, 0, none⟩) := hold 10 rfl
    have qR : Ke.S (.era o9 (k3 : Int) fs) w (T[24]?.getD undef) := hS 24 (by rfl)
    have qN : Ke.S (.new _) w (T[11]?.getD undef) := hS 11 (by rfl)
    have eR : T[24]?.getD undef = _ := qR
    obtain ⟨b1, hNb, eN, hb⟩ := qN
    have KN := Lib.hid (kp_new K0.out hB0 hNb hb)
    have hbE : E < b1 := Nat.lt_of_lt_of_le (K0.out.lt 1 rfl) hNb
    obtain ⟨G, hG⟩ : ∃ G : Nat → Value, ∀ t, T[t]?.getD undef = G t := ⟨_, fun _ => rfl⟩
    have e := Py.tmps_lit T 86 hsz
    simp only [hG] at e
    have e' : T = #[G 0, G 1, G 2, G 3, G 4, G 5, G 6, G 7, G 8, G 9, G 10, G 11, G 12, G 13, G 14, G 15, G 16, G 17, G 18, G 19, G 20, G 21, G 22, G 23, G 24, G 25, G 26, G 27, G 28, G 29, G 30, G 31, G 32, G 33, G 34, G 35, G 36, G 37, G 38, G 39, G 40, G 41, G 42, G 43, G 44, G 45, G 46, G 47, G 48, G 49, G 50, G 51, G 52, G 53, G 54, G 55, G 56, G 57, G 58, G 59, G 60, G 61, G 62, G 63, G 64, G 65, G 66, G 67, G 68, G 69, G 70, G 71, G 72, G 73, G 74, G 75, G 76, G 77, G 78, G 79, G 80, G 81, G 82, G 83, G 84, G 85] := e.trans rfl
    rw [hG] at eR eN
    simp only [hG] at g0 g1 g2 g3 g4 g5 g10
    clear hold hS e hG hsz hb
    rw [e', eR, eN, g0, g1, g2, g3, g4, g5, g10]
    clear e' eR eN g0 g1 g2 g3 g4 g5 g10
    simp only [List.drop_succ_cons, List.drop_zero, Py.TailWp]
    obtain ⟨c0, c1, c2, c3, c4, c5, c6, c7⟩ := row8 (KN.out.at 2 rfl)
    obtain ⟨z0, z1, z2, z3, z4, z5, z6, z7, z8, z9, z10, z11, z12⟩ := row13 (KN.out.at 0 rfl)
    obtain ⟨f0, f1, f2, f3, f4, f5, f6, f7, f8, f9, f10, f11, f12⟩ := free13 (KN.out.at 0 rfl)
    obtain ⟨X1, hX1, K1⟩ : ∃ Y, (((((((((((((w.setCell ⟨b1, 0, none⟩ (.int .i64 o9)).setCell ⟨b1, 1, none⟩ (.int .i64 (k3 : Int))).setCell ⟨b1, 2, none⟩ (.int .i64 0)).setCell ⟨b1, 3, none⟩ (.string ⟨#[]⟩)).setCell ⟨b1, 4, none⟩ (.string fs)).setCell ⟨b1, 5, none⟩ (.bool false)).setCell ⟨b1, 6, none⟩ (.int .i64 0)).setCell ⟨b1, 7, none⟩ (.int .i64 0)).setCell ⟨b1, 8, none⟩ (.int .i64 0)).setCell ⟨b1, 9, none⟩ (.int .i64 0)).setCell ⟨b1, 10, none⟩ (.int .i64 0)).setCell ⟨b1, 11, none⟩ (.int .i64 0)).setCell ⟨b1, 12, none⟩ (.int .i64 0)) = Y ∧ Kp [(b1, .cells #[.int .i64 o9, .int .i64 (k3 : Int), .int .i64 0, .string ⟨#[]⟩, .string fs, .bool false, .int .i64 0, .int .i64 0, .int .i64 0, .int .i64 0, .int .i64 0, .int .i64 0, .int .i64 0] 81), (R, .cells #[.int .i64 0, .int .i64 0, .int .i64 0, .string ⟨#[]⟩, .string ⟨#[]⟩, .bool false, .int .i64 0, .int .i64 0, .int .i64 0, .int .i64 0, .int .i64 0, .int .i64 0, .int .i64 0] 81), (E, .cells #[.int .u8 (kd : Int), .int .u8 (st : Int), .int .u8 (fm : Int), .int .u8 (yr : Int), .int .u8 (dy : Int), .int .u8 (bz : Int), .int .i8 of, .int .i8 at'] 96)] [] W Y := ⟨_, rfl, kp_era (.int .i64 o9) (.int .i64 (k3 : Int)) (.int .i64 0) (.string ⟨#[]⟩) (.string fs) (.bool false) (.int .i64 0) (.int .i64 0) (.int .i64 0) (.int .i64 0) (.int .i64 0) (.int .i64 0) (.int .i64 0) KN.out⟩
    replace K1 := Lib.hid K1
    go_simp
    clear c0 c1 c2 c3 c4 c5 c6 c7 z0 z1 z2 z3 z4 z5 z6 z7 z8 z9 z10 z11 z12 f0 f1 f2 f3 f4 f5 f6 f7 f8 f9 f10 f11 f12 KN K0
    go_upto_region 2 with fail
    try rw [hX1]
    clear hX1
    go_cut [30] from 25 to 30 (fun v30 wx => (∃ q : Bool, q = eQ first k3 ∧ v30 = .bool q) ∧ Kp [(b1, .cells #[.int .i64 o9, .int .i64 (k3 : Int), .int .i64 0, .string ⟨#[]⟩, .string fs, .bool false, .int .i64 0, .int .i64 0, .int .i64 0, .int .i64 0, .int .i64 0, .int .i64 0, .int .i64 0] 81), (R, .cells #[.int .i64 0, .int .i64 0, .int .i64 0, .string ⟨#[]⟩, .string ⟨#[]⟩, .bool false, .int .i64 0, .int .i64 0, .int .i64 0, .int .i64 0, .int .i64 0, .int .i64 0, .int .i64 0] 81), (E, .cells #[.int .u8 (kd : Int), .int .u8 (st : Int), .int .u8 (fm : Int), .int .u8 (yr : Int), .int .u8 (dy : Int), .int .u8 (bz : Int), .int .i8 of, .int .i8 at'] 96)] [] W wx)
    case first =>
      obtain ⟨c0, c1, c2, c3, c4, c5, c6, c7⟩ := row8 (K1.out.at 2 rfl)
      obtain ⟨z0, z1, z2, z3, z4, z5, z6, z7, z8, z9, z10, z11, z12⟩ := row13 (K1.out.at 0 rfl)
      obtain ⟨f0, f1, f2, f3, f4, f5, f6, f7, f8, f9, f10, f11, f12⟩ := free13 (K1.out.at 0 rfl)
      have h2 : k3 = 2 ∨ ¬ (k3 : Int) = 2 := by omega
      rcases h2 with rfl | h2
      · cases first
        · go_wp2_with fail
          go_meet
          exact ⟨⟨_, rfl, rfl⟩, K1.out⟩
        · go_wp2_with fail
          go_meet
          exact ⟨⟨_, rfl, rfl⟩, K1.out⟩
      · cases first
        · go_wp2_with fail
          go_meet
          exact ⟨⟨_, by have h3 : ¬ k3 = 2 := (by omega); simp [eQ, h3] <;> exact h2, rfl⟩, K1.out⟩
        · go_wp2_with fail
          go_meet
          exact ⟨⟨_, by have h3 : ¬ k3 = 2 := (by omega); simp [eQ, h3] <;> exact h2, rfl⟩, K1.out⟩
    case rest =>
      obtain ⟨⟨q, hq, rfl⟩, hk⟩ := hcut
      have HQ := Lib.hid hq
      clear hq
      have K2 := Lib.hid hk
      clear hk K1
      go_upto_if 30 with fail
      go_cut [31] from 30 to 31 (fun _ wx => ∃ k : Nat, k < 3 ∧ k = eK q k3 ∧ Kp [(b1, .cells #[.int .i64 o9, .int .i64 (k : Int), .int .i64 0, .string ⟨#[]⟩, .string fs, .bool false, .int .i64 0, .int .i64 0, .int .i64 0, .int .i64 0, .int .i64 0, .int .i64 0, .int .i64 0] 81), (R, .cells #[.int .i64 0, .int .i64 0, .int .i64 0, .string ⟨#[]⟩, .string ⟨#[]⟩, .bool false, .int .i64 0, .int .i64 0, .int .i64 0, .int .i64 0, .int .i64 0, .int .i64 0, .int .i64 0] 81), (E, .cells #[.int .u8 (kd : Int), .int .u8 (st : Int), .int .u8 (fm : Int), .int .u8 (yr : Int), .int .u8 (dy : Int), .int .u8 (bz : Int), .int .i8 of, .int .i8 at'] 96)] [] W wx)
      case first =>
        obtain ⟨c0, c1, c2, c3, c4, c5, c6, c7⟩ := row8 (K2.out.at 2 rfl)
        obtain ⟨z0, z1, z2, z3, z4, z5, z6, z7, z8, z9, z10, z11, z12⟩ := row13 (K2.out.at 0 rfl)
        obtain ⟨f0, f1, f2, f3, f4, f5, f6, f7, f8, f9, f10, f11, f12⟩ := free13 (K2.out.at 0 rfl)
        cases q
        · go_wp2_with fail
          go_meet
          exact ⟨k3, hk3L, rfl, K2.out⟩
        · go_wp2_with fail
          go_meet
          have s0 : Kp [(b1, .cells #[.int .i64 o9, .int .i64 ((0 : Nat) : Int), .int .i64 0, .string ⟨#[]⟩, .string fs, .bool false, .int .i64 0, .int .i64 0, .int .i64 0, .int .i64 0, .int .i64 0, .int .i64 0, .int .i64 0] 81), (R, .cells #[.int .i64 0, .int .i64 0, .int .i64 0, .string ⟨#[]⟩, .string ⟨#[]⟩, .bool false, .int .i64 0, .int .i64 0, .int .i64 0, .int .i64 0, .int .i64 0, .int .i64 0, .int .i64 0] 81), (E, .cells #[.int .u8 (kd : Int), .int .u8 (st : Int), .int .u8 (fm : Int), .int .u8 (yr : Int), .int .u8 (dy : Int), .int .u8 (bz : Int), .int .i8 of, .int .i8 at'] 96)] [] W _ := K2.out.set 0 rfl 1 (.int .i64 0) rfl
          exact ⟨0, by omega, rfl, s0⟩
      case rest =>
        obtain ⟨k, hk3', hkE, hk⟩ := hcut
        have HK3 := Lib.hid hkE
        clear hkE
        have K3 := Lib.hid hk
        clear hk K2
        obtain ⟨c0, c1, c2, c3, c4, c5, c6, c7⟩ := row8 (K3.out.at 2 rfl)
        obtain ⟨z0, z1, z2, z3, z4, z5, z6, z7, z8, z9, z10, z11, z12⟩ := row13 (K3.out.at 0 rfl)
        obtain ⟨f0, f1, f2, f3, f4, f5, f6, f7, f8, f9, f10, f11, f12⟩ := free13 (K3.out.at 0 rfl)
        go_upto_block 0 with fail
        go_cut [34] from 34 to 52 (fun _ wx => ∃ (k' : Nat) (sv : Int) (s0 : ByteArray), (k' = k ∧ sv = eS k p18 ∧ s0 = eN k sj) ∧ Kp [(b1, .cells #[.int .i64 o9, .int .i64 (k' : Int), .int .i64 sv, .string s0, .string fs, .bool false, .int .i64 0, .int .i64 0, .int .i64 0, .int .i64 0, .int .i64 0, .int .i64 0, .int .i64 0] 81), (R, .cells #[.int .i64 0, .int .i64 0, .int .i64 0, .string ⟨#[]⟩, .string ⟨#[]⟩, .bool false, .int .i64 0, .int .i64 0, .int .i64 0, .int .i64 0, .int .i64 0, .int .i64 0, .int .i64 0] 81), (E, .cells #[.int .u8 (kd : Int), .int .u8 (st : Int), .int .u8 (fm : Int), .int .u8 (yr : Int), .int .u8 (dy : Int), .int .u8 (bz : Int), .int .i8 of, .int .i8 at'] 96)] [] W wx)
        case first =>
          have h3 : k = 0 ∨ k = 1 ∨ k = 2 := by omega
          rcases h3 with rfl | rfl | rfl
          · go_wp2_with fail
            go_meet
            exact ⟨0, 0, _, ⟨rfl, rfl, rfl⟩, K3.out⟩
          · go_wp2_with fail
            go_meet
            have s0 : Kp [(b1, .cells #[.int .i64 o9, .int .i64 ((1 : Nat) : Int), .int .i64 p18, .string ⟨#[]⟩, .string fs, .bool false, .int .i64 0, .int .i64 0, .int .i64 0, .int .i64 0, .int .i64 0, .int .i64 0, .int .i64 0] 81), (R, .cells #[.int .i64 0, .int .i64 0, .int .i64 0, .string ⟨#[]⟩, .string ⟨#[]⟩, .bool false, .int .i64 0, .int .i64 0, .int .i64 0, .int .i64 0, .int .i64 0, .int .i64 0, .int .i64 0] 81), (E, .cells #[.int .u8 (kd : Int), .int .u8 (st : Int), .int .u8 (fm : Int), .int .u8 (yr : Int), .int .u8 (dy : Int), .int .u8 (bz : Int), .int .i8 of, .int .i8 at'] 96)] [] W _ := K3.out.set 0 rfl 2 (.int .i64 p18) rfl
            exact ⟨1, p18, _, ⟨rfl, rfl, rfl⟩, s0⟩
          · go_wp2_with fail
            go_at_call 44
            refine (CI.out _ (by have := K3.out.below; exact this)).mono ?_
            rintro e X4 ⟨rfl, hb⟩
            have K4 := Lib.hid (K3.out.keep hb)
            clear hb c0 c1 c2 c3 c4 c5 c6 c7 z0 z1 z2 z3 z4 z5 z6 z7 z8 z9 z10 z11 z12 f0 f1 f2 f3 f4 f5 f6 f7 f8 f9 f10 f11 f12
            obtain ⟨c0, c1, c2, c3, c4, c5, c6, c7⟩ := row8 (K4.out.at 2 rfl)
            obtain ⟨z0, z1, z2, z3, z4, z5, z6, z7, z8, z9, z10, z11, z12⟩ := row13 (K4.out.at 0 rfl)
            obtain ⟨f0, f1, f2, f3, f4, f5, f6, f7, f8, f9, f10, f11, f12⟩ := free13 (K4.out.at 0 rfl)
            go_wp2_with fail
            go_meet
            have s0 : Kp [(b1, .cells #[.int .i64 o9, .int .i64 ((2 : Nat) : Int), .int .i64 0, .string (⟨#[82]⟩ ++ sj), .string fs, .bool false, .int .i64 0, .int .i64 0, .int .i64 0, .int .i64 0, .int .i64 0, .int .i64 0, .int .i64 0] 81), (R, .cells #[.int .i64 0, .int .i64 0, .int .i64 0, .string ⟨#[]⟩, .string ⟨#[]⟩, .bool false, .int .i64 0, .int .i64 0, .int .i64 0, .int .i64 0, .int .i64 0, .int .i64 0, .int .i64 0] 81), (E, .cells #[.int .u8 (kd : Int), .int .u8 (st : Int), .int .u8 (fm : Int), .int .u8 (yr : Int), .int .u8 (dy : Int), .int .u8 (bz : Int), .int .i8 of, .int .i8 at'] 96)] [] W _ := K4.out.set 0 rfl 3 (.string (⟨#[82]⟩ ++ sj)) rfl
            exact ⟨2, 0, _, ⟨rfl, rfl, rfl⟩, s0⟩
        case rest =>
          obtain ⟨k', sv, s0, hke, hk⟩ := hcut
          have HK4 := Lib.hid hke
          clear hke
          have K4 := Lib.hid hk
          clear hk K3 c0 c1 c2 c3 c4 c5 c6 c7 z0 z1 z2 z3 z4 z5 z6 z7 z8 z9 z10 z11 z12 f0 f1 f2 f3 f4 f5 f6 f7 f8 f9 f10 f11 f12
          go_upto_if 53 with fail
          go_cut [54] from 53 to 84 (fun _ wx => ∃ (b0 : Bool) (j0 j1 j2 j3 j4 j5 j6 : Int), (b0 = last ∧ j0 = eB last year ∧ j1 = eB last 1 ∧ j2 = eB last (eD dy 3 1) ∧ j3 = eB last (eD dy (d7 : Int) 0) ∧ j4 = eB last (eD dy 8 dd) ∧ j5 = eB last q9 ∧ j6 = eB last (b3 : Int)) ∧ Kp [(b1, .cells #[.int .i64 o9, .int .i64 (k' : Int), .int .i64 sv, .string s0, .string fs, .bool b0, .int .i64 j0, .int .i64 j1, .int .i64 j2, .int .i64 j3, .int .i64 j4, .int .i64 j5, .int .i64 j6] 81), (R, .cells #[.int .i64 0, .int .i64 0, .int .i64 0, .string ⟨#[]⟩, .string ⟨#[]⟩, .bool false, .int .i64 0, .int .i64 0, .int .i64 0, .int .i64 0, .int .i64 0, .int .i64 0, .int .i64 0] 81), (E, .cells #[.int .u8 (kd : Int), .int .u8 (st : Int), .int .u8 (fm : Int), .int .u8 (yr : Int), .int .u8 (dy : Int), .int .u8 (bz : Int), .int .i8 of, .int .i8 at'] 96)] [] W wx)
          case first =>
            cases last
            · go_wp2_with fail
              go_meet
              exact ⟨false, 0, 0, 0, 0, 0, 0, 0, ⟨rfl, rfl, rfl, rfl, rfl, rfl, rfl, rfl⟩, K4.out⟩
            · 
              obtain ⟨c0, c1, c2, c3, c4, c5, c6, c7⟩ := row8 (K4.out.at 2 rfl)
              obtain ⟨z0, z1, z2, z3, z4, z5, z6, z7, z8, z9, z10, z11, z12⟩ := row13 (K4.out.at 0 rfl)
              obtain ⟨f0, f1, f2, f3, f4, f5, f6, f7, f8, f9, f10, f11, f12⟩ := free13 (K4.out.at 0 rfl)
              go_wp2_with fail
              go_at_call 67
              refine (until23_any _ _ _ _).mono ?_
              rintro e X5 ⟨rfl, hb⟩
              have K5 := Lib.hid (K4.out.keep hb)
              clear hb c0 c1 c2 c3 c4 c5 c6 c7 z0 z1 z2 z3 z4 z5 z6 z7 z8 z9 z10 z11 z12 f0 f1 f2 f3 f4 f5 f6 f7 f8 f9 f10 f11 f12
              obtain ⟨c0, c1, c2, c3, c4, c5, c6, c7⟩ := row8 (K5.out.at 2 rfl)
              obtain ⟨z0, z1, z2, z3, z4, z5, z6, z7, z8, z9, z10, z11, z12⟩ := row13 (K5.out.at 0 rfl)
              obtain ⟨f0, f1, f2, f3, f4, f5, f6, f7, f8, f9, f10, f11, f12⟩ := free13 (K5.out.at 0 rfl)
              obtain ⟨X6, hX6, K6⟩ : ∃ Y, ((((((((X5.setCell ⟨b1, 5, none⟩ (.bool true)).setCell ⟨b1, 6, none⟩ (.int .i64 year)).setCell ⟨b1, 7, none⟩ (.int .i64 1)).setCell ⟨b1, 8, none⟩ (.int .i64 1)).setCell ⟨b1, 9, none⟩ (.int .i64 0)).setCell ⟨b1, 10, none⟩ (.int .i64 dd)).setCell ⟨b1, 11, none⟩ (.int .i64 0)).setCell ⟨b1, 12, none⟩ (.int .i64 0)) = Y ∧ Kp [(b1, .cells #[.int .i64 o9, .int .i64 (k' : Int), .int .i64 sv, .string s0, .string fs, .bool true, .int .i64 year, .int .i64 1, .int .i64 1, .int .i64 0, .int .i64 dd, .int .i64 0, .int .i64 0] 81), (R, .cells #[.int .i64 0, .int .i64 0, .int .i64 0, .string ⟨#[]⟩, .string ⟨#[]⟩, .bool false, .int .i64 0, .int .i64 0, .int .i64 0, .int .i64 0, .int .i64 0, .int .i64 0, .int .i64 0] 81), (E, .cells #[.int .u8 (kd : Int), .int .u8 (st : Int), .int .u8 (fm : Int), .int .u8 (yr : Int), .int .u8 (dy : Int), .int .u8 (bz : Int), .int .i8 of, .int .i8 at'] 96)] [] W Y := by
                have sk0 : Kp [(b1, .cells #[.int .i64 o9, .int .i64 (k' : Int), .int .i64 sv, .string s0, .string fs, .bool true, .int .i64 0, .int .i64 0, .int .i64 0, .int .i64 0, .int .i64 0, .int .i64 0, .int .i64 0] 81), (R, .cells #[.int .i64 0, .int .i64 0, .int .i64 0, .string ⟨#[]⟩, .string ⟨#[]⟩, .bool false, .int .i64 0, .int .i64 0, .int .i64 0, .int .i64 0, .int .i64 0, .int .i64 0, .int .i64 0] 81), (E, .cells #[.int .u8 (kd : Int), .int .u8 (st : Int), .int .u8 (fm : Int), .int .u8 (yr : Int), .int .u8 (dy : Int), .int .u8 (bz : Int), .int .i8 of, .int .i8 at'] 96)] [] W _ := K5.out.set 0 rfl 5 (.bool true) rfl
                have sk1 : Kp [(b1, .cells #[.int .i64 o9, .int .i64 (k' : Int), .int .i64 sv, .string s0, .string fs, .bool true, .int .i64 year, .int .i64 0, .int .i64 0, .int .i64 0, .int .i64 0, .int .i64 0, .int .i64 0] 81), (R, .cells #[.int .i64 0, .int .i64 0, .int .i64 0, .string ⟨#[]⟩, .string ⟨#[]⟩, .bool false, .int .i64 0, .int .i64 0, .int .i64 0, .int .i64 0, .int .i64 0, .int .i64 0, .int .i64 0] 81), (E, .cells #[.int .u8 (kd : Int), .int .u8 (st : Int), .int .u8 (fm : Int), .int .u8 (yr : Int), .int .u8 (dy : Int), .int .u8 (bz : Int), .int .i8 of, .int .i8 at'] 96)] [] W _ := sk0.set 0 rfl 6 (.int .i64 year) rfl
                have sk2 : Kp [(b1, .cells #[.int .i64 o9, .int .i64 (k' : Int), .int .i64 sv, .string s0, .string fs, .bool true, .int .i64 year, .int .i64 1, .int .i64 0, .int .i64 0, .int .i64 0, .int .i64 0, .int .i64 0] 81), (R, .cells #[.int .i64 0, .int .i64 0, .int .i64 0, .string ⟨#[]⟩, .string ⟨#[]⟩, .bool false, .int .i64 0, .int .i64 0, .int .i64 0, .int .i64 0, .int .i64 0, .int .i64 0, .int .i64 0] 81), (E, .cells #[.int .u8 (kd : Int), .int .u8 (st : Int), .int .u8 (fm : Int), .int .u8 (yr : Int), .int .u8 (dy : Int), .int .u8 (bz : Int), .int .i8 of, .int .i8 at'] 96)] [] W _ := sk1.set 0 rfl 7 (.int .i64 1) rfl
                have sk3 : Kp [(b1, .cells #[.int .i64 o9, .int .i64 (k' : Int), .int .i64 sv, .string s0, .string fs, .bool true, .int .i64 year, .int .i64 1, .int .i64 1, .int .i64 0, .int .i64 0, .int .i64 0, .int .i64 0] 81), (R, .cells #[.int .i64 0, .int .i64 0, .int .i64 0, .string ⟨#[]⟩, .string ⟨#[]⟩, .bool false, .int .i64 0, .int .i64 0, .int .i64 0, .int .i64 0, .int .i64 0, .int .i64 0, .int .i64 0] 81), (E, .cells #[.int .u8 (kd : Int), .int .u8 (st : Int), .int .u8 (fm : Int), .int .u8 (yr : Int), .int .u8 (dy : Int), .int .u8 (bz : Int), .int .i8 of, .int .i8 at'] 96)] [] W _ := sk2.set 0 rfl 8 (.int .i64 1) rfl
                have sk4 : Kp [(b1, .cells #[.int .i64 o9, .int .i64 (k' : Int), .int .i64 sv, .string s0, .string fs, .bool true, .int .i64 year, .int .i64 1, .int .i64 1, .int .i64 0, .int .i64 0, .int .i64 0, .int .i64 0] 81), (R, .cells #[.int .i64 0, .int .i64 0, .int .i64 0, .string ⟨#[]⟩, .string ⟨#[]⟩, .bool false, .int .i64 0, .int .i64 0, .int .i64 0, .int .i64 0, .int .i64 0, .int .i64 0, .int .i64 0] 81), (E, .cells #[.int .u8 (kd : Int), .int .u8 (st : Int), .int .u8 (fm : Int), .int .u8 (yr : Int), .int .u8 (dy : Int), .int .u8 (bz : Int), .int .i8 of, .int .i8 at'] 96)] [] W _ := sk3.set 0 rfl 9 (.int .i64 0) rfl
                have sk5 : Kp [(b1, .cells #[.int .i64 o9, .int .i64 (k' : Int), .int .i64 sv, .string s0, .string fs, .bool true, .int .i64 year, .int .i64 1, .int .i64 1, .int .i64 0, .int .i64 dd, .int .i64 0, .int .i64 0] 81), (R, .cells #[.int .i64 0, .int .i64 0, .int .i64 0, .string ⟨#[]⟩, .string ⟨#[]⟩, .bool false, .int .i64 0, .int .i64 0, .int .i64 0, .int .i64 0, .int .i64 0, .int .i64 0, .int .i64 0] 81), (E, .cells #[.int .u8 (kd : Int), .int .u8 (st : Int), .int .u8 (fm : Int), .int .u8 (yr : Int), .int .u8 (dy : Int), .int .u8 (bz : Int), .int .i8 of, .int .i8 at'] 96)] [] W _ := sk4.set 0 rfl 10 (.int .i64 dd) rfl
                have sk6 : Kp [(b1, .cells #[.int .i64 o9, .int .i64 (k' : Int), .int .i64 sv, .string s0, .string fs, .bool true, .int .i64 year, .int .i64 1, .int .i64 1, .int .i64 0, .int .i64 dd, .int .i64 0, .int .i64 0] 81), (R, .cells #[.int .i64 0, .int .i64 0, .int .i64 0, .string ⟨#[]⟩, .string ⟨#[]⟩, .bool false, .int .i64 0, .int .i64 0, .int .i64 0, .int .i64 0, .int .i64 0, .int .i64 0, .int .i64 0] 81), (E, .cells #[.int .u8 (kd : Int), .int .u8 (st : Int), .int .u8 (fm : Int), .int .u8 (yr : Int), .int .u8 (dy : Int), .int .u8 (bz : Int), .int .i8 of, .int .i8 at'] 96)] [] W _ := sk5.set 0 rfl 11 (.int .i64 0) rfl
                have sk7 : Kp [(b1, .cells #[.int .i64 o9, .int .i64 (k' : Int), .int .i64 sv, .string s0, .string fs, .bool true, .int .i64 year, .int .i64 1, .int .i64 1, .int .i64 0, .int .i64 dd, .int .i64 0, .int .i64 0] 81), (R, .cells #[.int .i64 0, .int .i64 0, .int .i64 0, .string ⟨#[]⟩, .string ⟨#[]⟩, .bool false, .int .i64 0, .int .i64 0, .int .i64 0, .int .i64 0, .int .i64 0, .int .i64 0, .int .i64 0] 81), (E, .cells #[.int .u8 (kd : Int), .int .u8 (st : Int), .int .u8 (fm : Int), .int .u8 (yr : Int), .int .u8 (dy : Int), .int .u8 (bz : Int), .int .i8 of, .int .i8 at'] 96)] [] W _ := sk6.set 0 rfl 12 (.int .i64 0) rfl
                exact ⟨_, rfl, sk7⟩
              replace K6 := Lib.hid K6
              go_upto_region 11 with fail
              try rw [hX6]
              clear hX6 K4 K5 c0 c1 c2 c3 c4 c5 c6 c7 z0 z1 z2 z3 z4 z5 z6 z7 z8 z9 z10 z11 z12 f0 f1 f2 f3 f4 f5 f6 f7 f8 f9 f10 f11 f12
              obtain ⟨c0, c1, c2, c3, c4, c5, c6, c7⟩ := row8 (K6.out.at 2 rfl)
              obtain ⟨z0, z1, z2, z3, z4, z5, z6, z7, z8, z9, z10, z11, z12⟩ := row13 (K6.out.at 0 rfl)
              obtain ⟨f0, f1, f2, f3, f4, f5, f6, f7, f8, f9, f10, f11, f12⟩ := free13 (K6.out.at 0 rfl)
              go_upto_if 64 with fail
              go_cut [65] from 64 to 71 (fun _ wx => ∃ q2 q3 q4 : Int, (q2 = eD dy 3 1 ∧ q3 = eD dy (d7 : Int) 0 ∧ q4 = eD dy 8 dd) ∧ Kp [(b1, .cells #[.int .i64 o9, .int .i64 (k' : Int), .int .i64 sv, .string s0, .string fs, .bool true, .int .i64 year, .int .i64 1, .int .i64 q2, .int .i64 q3, .int .i64 q4, .int .i64 0, .int .i64 0] 81), (R, .cells #[.int .i64 0, .int .i64 0, .int .i64 0, .string ⟨#[]⟩, .string ⟨#[]⟩, .bool false, .int .i64 0, .int .i64 0, .int .i64 0, .int .i64 0, .int .i64 0, .int .i64 0, .int .i64 0] 81), (E, .cells #[.int .u8 (kd : Int), .int .u8 (st : Int), .int .u8 (fm : Int), .int .u8 (yr : Int), .int .u8 (dy : Int), .int .u8 (bz : Int), .int .i8 of, .int .i8 at'] 96)] [] W wx)
              case first =>
                have h2 : (200 : Int) ≤ (dy : Int) ∨ ¬ (200 : Int) ≤ (dy : Int) := by omega
                rcases h2 with h2 | h2
                · go_wp2_with fail
                  go_meet
                  have sk0 : Kp [(b1, .cells #[.int .i64 o9, .int .i64 (k' : Int), .int .i64 sv, .string s0, .string fs, .bool true, .int .i64 year, .int .i64 1, .int .i64 3, .int .i64 0, .int .i64 dd, .int .i64 0, .int .i64 0] 81), (R, .cells #[.int .i64 0, .int .i64 0, .int .i64 0, .string ⟨#[]⟩, .string ⟨#[]⟩, .bool false, .int .i64 0, .int .i64 0, .int .i64 0, .int .i64 0, .int .i64 0, .int .i64 0, .int .i64 0] 81), (E, .cells #[.int .u8 (kd : Int), .int .u8 (st : Int), .int .u8 (fm : Int), .int .u8 (yr : Int), .int .u8 (dy : Int), .int .u8 (bz : Int), .int .i8 of, .int .i8 at'] 96)] [] W _ := K6.out.set 0 rfl 8 (.int .i64 3) rfl
                  have sk1 : Kp [(b1, .cells #[.int .i64 o9, .int .i64 (k' : Int), .int .i64 sv, .string s0, .string fs, .bool true, .int .i64 year, .int .i64 1, .int .i64 3, .int .i64 (d7 : Int), .int .i64 dd, .int .i64 0, .int .i64 0] 81), (R, .cells #[.int .i64 0, .int .i64 0, .int .i64 0, .string ⟨#[]⟩, .string ⟨#[]⟩, .bool false, .int .i64 0, .int .i64 0, .int .i64 0, .int .i64 0, .int .i64 0, .int .i64 0, .int .i64 0] 81), (E, .cells #[.int .u8 (kd : Int), .int .u8 (st : Int), .int .u8 (fm : Int), .int .u8 (yr : Int), .int .u8 (dy : Int), .int .u8 (bz : Int), .int .i8 of, .int .i8 at'] 96)] [] W _ := sk0.set 0 rfl 9 (.int .i64 (d7 : Int)) rfl
                  have sk2 : Kp [(b1, .cells #[.int .i64 o9, .int .i64 (k' : Int), .int .i64 sv, .string s0, .string fs, .bool true, .int .i64 year, .int .i64 1, .int .i64 3, .int .i64 (d7 : Int), .int .i64 8, .int .i64 0, .int .i64 0] 81), (R, .cells #[.int .i64 0, .int .i64 0, .int .i64 0, .string ⟨#[]⟩, .string ⟨#[]⟩, .bool false, .int .i64 0, .int .i64 0, .int .i64 0, .int .i64 0, .int .i64 0, .int .i64 0, .int .i64 0] 81), (E, .cells #[.int .u8 (kd : Int), .int .u8 (st : Int), .int .u8 (fm : Int), .int .u8 (yr : Int), .int .u8 (dy : Int), .int .u8 (bz : Int), .int .i8 of, .int .i8 at'] 96)] [] W _ := sk1.set 0 rfl 10 (.int .i64 8) rfl
                  exact ⟨3, (d7 : Int), 8, by have h3 : 200 ≤ dy := (by omega); simp [eD, h3], sk2⟩
                · go_wp2_with fail
                  go_meet
                  exact ⟨1, 0, dd, by have h3 : ¬ 200 ≤ dy := (by omega); simp [eD, h3], K6.out⟩
              case rest =>
                clear c0 c1 c2 c3 c4 c5 c6 c7 z0 z1 z2 z3 z4 z5 z6 z7 z8 z9 z10 z11 z12 f0 f1 f2 f3 f4 f5 f6 f7 f8 f9 f10 f11 f12
                obtain ⟨q2, q3, q4, hq2, hk⟩ := hcut
                have HQ2 := Lib.hid hq2
                clear hq2
                have K7 := Lib.hid hk
                clear hk K6
                obtain ⟨c0, c1, c2, c3, c4, c5, c6, c7⟩ := row8 (K7.out.at 2 rfl)
                obtain ⟨z0, z1, z2, z3, z4, z5, z6, z7, z8, z9, z10, z11, z12⟩ := row13 (K7.out.at 0 rfl)
                obtain ⟨f0, f1, f2, f3, f4, f5, f6, f7, f8, f9, f10, f11, f12⟩ := free13 (K7.out.at 0 rfl)
                go_wp2_with fail
                go_meet
                have sk0 : Kp [(b1, .cells #[.int .i64 o9, .int .i64 (k' : Int), .int .i64 sv, .string s0, .string fs, .bool true, .int .i64 year, .int .i64 1, .int .i64 q2, .int .i64 q3, .int .i64 q4, .int .i64 q9, .int .i64 0] 81), (R, .cells #[.int .i64 0, .int .i64 0, .int .i64 0, .string ⟨#[]⟩, .string ⟨#[]⟩, .bool false, .int .i64 0, .int .i64 0, .int .i64 0, .int .i64 0, .int .i64 0, .int .i64 0, .int .i64 0] 81), (E, .cells #[.int .u8 (kd : Int), .int .u8 (st : Int), .int .u8 (fm : Int), .int .u8 (yr : Int), .int .u8 (dy : Int), .int .u8 (bz : Int), .int .i8 of, .int .i8 at'] 96)] [] W _ := K7.out.set 0 rfl 11 (.int .i64 q9) rfl
                have sk1 : Kp [(b1, .cells #[.int .i64 o9, .int .i64 (k' : Int), .int .i64 sv, .string s0, .string fs, .bool true, .int .i64 year, .int .i64 1, .int .i64 q2, .int .i64 q3, .int .i64 q4, .int .i64 q9, .int .i64 (b3 : Int)] 81), (R, .cells #[.int .i64 0, .int .i64 0, .int .i64 0, .string ⟨#[]⟩, .string ⟨#[]⟩, .bool false, .int .i64 0, .int .i64 0, .int .i64 0, .int .i64 0, .int .i64 0, .int .i64 0, .int .i64 0] 81), (E, .cells #[.int .u8 (kd : Int), .int .u8 (st : Int), .int .u8 (fm : Int), .int .u8 (yr : Int), .int .u8 (dy : Int), .int .u8 (bz : Int), .int .i8 of, .int .i8 at'] 96)] [] W _ := sk0.set 0 rfl 12 (.int .i64 (b3 : Int)) rfl
                exact ⟨_, _, _, _, _, _, _, _, by obtain ⟨r1, r2, r3⟩ := HQ2.out; simp [eB, r1, r2, r3], sk1⟩
          case rest =>
            obtain ⟨b0, j0, j1, j2, j3, j4, j5, j6, hj, hk⟩ := hcut
            have HJ := Lib.hid hj
            clear hj
            have K8 := Lib.hid hk
            clear hk K4
            obtain ⟨z0, z1, z2, z3, z4, z5, z6, z7, z8, z9, z10, z11, z12⟩ := row13 (K8.out.at 0 rfl)
            obtain ⟨y0, y1, y2, y3, y4, y5, y6, y7, y8, y9, y10, y11, y12⟩ := row13 (K8.out.at 1 rfl)
            obtain ⟨f0, f1, f2, f3, f4, f5, f6, f7, f8, f9, f10, f11, f12⟩ := free13 (K8.out.at 1 rfl)
            have KR : Kp [(R, .cells #[.int .i64 0, .int .i64 0, .int .i64 0, .string ⟨#[]⟩, .string ⟨#[]⟩, .bool false, .int .i64 0, .int .i64 0, .int .i64 0, .int .i64 0, .int .i64 0, .int .i64 0, .int .i64 0] 81)] [] W wc := K8.out.pick (.cons _ (.cons_cons _ (.cons _ .slnil)))
            have KF := kp_era (.int .i64 o9) (.int .i64 (k' : Int)) (.int .i64 sv) (.string s0) (.string fs) (.bool b0) (.int .i64 j0) (.int .i64 j1) (.int .i64 j2) (.int .i64 j3) (.int .i64 j4) (.int .i64 j5) (.int .i64 j6) KR
            obtain ⟨w0, w1, w2, w3, w4, w5, w6, w7, w8, w9, w10, w11, w12⟩ := row13 (KF.at 0 rfl)
            have KB := Lib.hid KF.below
            clear KR KF
            go_wp2_with fail
            exact bodyPost_ret (v := .agg #[.int .i64 o9, .int .i64 (k' : Int), .int .i64 sv, .string s0, .string fs, .bool b0, .int .i64 j0, .int .i64 j1, .int .i64 j2, .int .i64 j3, .int .i64 j4, .int .i64 j5, .int .i64 j6]) (by simp [results, Tryd.results45, go_sem, w0, w1, w2, w3, w4, w5, w6, w7, w8, w9, w10, w11, w12]) rfl ⟨by
              obtain ⟨r1, r2, r3⟩ := HK4.out
              obtain ⟨t0, t1, t2, t3, t4, t5, t6, t7⟩ := HJ.out
              rw [t0, t1, t2, t3, t4, t5, t6, t7, r1, r2, r3, HK3.out, HQ.out]
              rfl, KB.out⟩
end Go.Proofs.YtnffecoohkanhaaDoor.Px
