/- A strings.Builder among blocks, slices and maps that a call owns. strings.Builder.WriteString of a builder that may have been read. The two functions inside pool.Abbrs: which strings cannot stand in a pool, and how a string is put into it. A range over a function, as steps. The iterator of slices.Values at strings: what it yields. slices.AppendSeq and slices.Collect over slices.Values, at strings. -/
import Derived.Test.YtkpmmabdpeobaaaGreatDoorSU33
import Derived.Test.YtkpmmabdpeobaaaGreatDoorSU14
import Derived.Test.YtkpmmabdpeobaaaGreatDoorSU16
import Derived.Test.YtkpmmabdpeobaaaGreatDoorSU20
import Derived.Test.YtkpmmabdpeobaaaGreatDoorSU22
import Derived.Lib.OthersKept
import Derived.Test.YtkpmmabdpeobaaaGreatDoorSU32
import Derived.Lib.IndexAny
import Derived.RangeFuncNested
import Derived.RangeFuncCalls
import Derived.RangeFuncLeaves
import Derived.RangeFuncFrom
import Derived.Shelf.Abstract
import Derived.Shelf.RegionOpen
import Derived.WalkKit
import Derived.OwnWalkIn
import Derived.TacticsInMore
import Derived.LoopNIn
import Derived.LoopIn
import Derived.Test.YtkpmmabdpeobaaaGreatDoorRows
import Derived.RangeFuncBox
namespace Go.Proofs.YtkpmmabdpeobaaaGreatDoor.Px
open Go.RowKit
theorem own_cells_at {X : World} {B : Nat} {e : TypeId} {sz n g : Nat} {v : Value} {xs : List Value} (h : X.ownsRow B e sz v n xs) (hg : v.ownBlock = some g) : ∃ cur, X.heap[g]? = some (.cells cur e (0, 0)) := by
 rcases h.2 with ⟨rfl, _⟩ | ⟨g', cap, cur, rfl, _, hgb, _⟩
 · cases hg
 · obtain rfl : g' = g := by simpa [Value.ownBlock] using hg
   exact ⟨cur, hgb⟩
theorem Km.set {L : List (Nat × Obj)} {R : List Rw} {M : List Mp} {w X : World} (h : Km L R M w X) (k : Nat) {b : Nat} {cs : Array Value} {T : TypeId} (hk : L[k]? = some (b, .cells cs T (0, 0))) (i : Nat) (u : Value) {cs' : Array Value} (he : cs.setIfInBounds i u = cs') :
 Km (L.set k (b, .cells cs' T (0, 0))) R M w (X.setCell ⟨b, i, none⟩ u) := by
 have hg : X.grownBy (X.setCell ⟨b, i, none⟩ u) (some b) := ⟨rfl, rfl, rfl, by simp [World.setCell], fun j _ hj => heap_setCell_other _ _ _ _ (fun e => hj (by rw [e]))⟩
 refine ⟨h.kp.set k hk i u he, fun m hm => (h.map m hm).kept hg (fun e => h.offL m hm _ (List.mem_of_getElem? hk) (Option.some.inj e).symm), h.own, fun m hm p hp => ?_, h.offR, h.offM⟩
 rcases List.mem_or_eq_of_mem_set hp with hp | rfl
 · exact h.offL m hm p hp
 · exact h.offL m hm (b, .cells cs T (0, 0)) (List.mem_of_getElem? hk)
theorem Km.adopt {L : List (Nat × Obj)} {R R0 : List Rw} {M : List Mp} {w X Z : World} (h : Km L R0 M w X) (k : Kp [] R X Z) : Km L (R ++ R0) M w Z := by
 refine ⟨h.kp.adopt k, fun m hm => (h.map m hm).kept (grown_below k.below) (by simp), h.own, h.offL, fun m hm r hr => ?_, h.offM⟩
 rcases List.mem_append.1 hr with hr | hr
 · intro e
   have h1 := ((k.own r hr).lt _ e).1
   have h2 := (h.map m hm).lt
   omega
 · exact h.offR m hm r hr
theorem Km.less {L : List (Nat × Obj)} {R S : List Rw} {M : List Mp} {w X : World} (h : Km L R M w X) (hs : S.Sublist R) : Km L S M w X :=
 ⟨h.kp.less hs, h.map, h.own, h.offL, fun m hm r hr => h.offR m hm r (hs.subset hr), h.offM⟩
theorem Km.perm {L : List (Nat × Obj)} {R S : List Rw} {M : List Mp} {w X : World} (h : Km L R M w X) (hp : S.Perm R) : Km L S M w X :=
 ⟨h.kp.perm hp, h.map, h.own, h.offL, fun m hm r hr => h.offR m hm r (hp.subset hr), h.offM⟩
theorem Km.pick {L L' : List (Nat × Obj)} {R : List Rw} {M : List Mp} {w X : World} (h : Km L R M w X) (hs : L'.Sublist L) : Km L' R M w X :=
 ⟨h.kp.pick hs, h.map, h.own, fun m hm p hp => h.offL m hm p (hs.subset hp), h.offR, h.offM⟩
def BuF (B b : Nat) (l : List UInt8) (w : World) : Prop := Lib.IsBuilderF 131 5 B b (Lib.byteCells l) w
theorem BuF.block {B b : Nat} {l : List UInt8} {w : World} (h : BuF B b l w) : B ≤ b ∧ ∃ p v, w.heap[b]? = some (.cells #[p, v] 131 (0, 0)) ∧ w.ownsRowF B 5 1 v (Lib.byteCells l).length (Lib.byteCells l) ∧ v.ownBlock ≠ some b := by
 rcases h with ⟨h1, v, h2⟩ | ⟨h1, v, h2⟩
 · exact ⟨h1, _, v, h2⟩
 · exact ⟨h1, _, v, h2⟩
theorem BuF.kept {B b : Nat} {l : List UInt8} {X Z : World} {row : Option Nat} (h : BuF B b l X) (hg : X.grownBy Z row)
 (hr : ∀ g, row = some g → ∀ c t fz, X.heap[g]? = some (.cells c t fz) → t ≠ 5 ∧ t ≠ 131) : BuF B b l Z := by
 have key : ∀ p, Lib.BuilderAtF 131 5 B b p (Lib.byteCells l) X → Lib.BuilderAtF 131 5 B b p (Lib.byteCells l) Z := by
  rintro p ⟨h1, v, hb, ho, hne⟩
  refine ⟨h1, v, (hg.block b (lt_of_block hb) (fun e => (hr b e.symm _ _ _ hb).2 rfl)).trans hb, ho.kept hg ?_, hne⟩
  cases hv : v.ownBlock with
  | none => exact .inl rfl
  | some g =>
    refine .inr fun e => ?_
    obtain ⟨c, fz, hc⟩ := Lib.ownsRowF_kind ho g hv
    exact (hr g e.symm _ _ _ hc).1 rfl
 exact Or.elim h (fun x => .inl (key _ x)) (fun x => .inr (key _ x))
structure Kq (b : Nat) (l : List UInt8) (L : List (Nat × Obj)) (R : List Rw) (M : List Mp) (w X : World) : Prop where
 km : Km L R M w X
 bu : BuF w.heap.size b l X
 offb : ∀ p ∈ L, p.1 ≠ b
 offL : ∀ p ∈ L, ∀ c fz, p.2 ≠ .cells c 5 fz
 offR : ∀ r ∈ R, r.e ≠ 5 ∧ r.e ≠ 131
theorem Kq.below {b : Nat} {l : List UInt8} {L : List (Nat × Obj)} {R : List Rw} {M : List Mp} {w X : World} (h : Kq b l L R M w X) : Below w.heap.size w X := h.km.below
theorem Kq.step {b : Nat} {l l' : List UInt8} {L : List (Nat × Obj)} {R : List Rw} {M : List Mp} {w X Z : World} (h : Kq b l L R M w X) (hbu : BuF w.heap.size b l' Z) (hB : Below w.heap.size X Z) (hO : Lib.OthersKept 5 (some b) X Z) : Kq b l' L R M w Z := by
 obtain ⟨_, p0, v0, hb0, _, _⟩ := h.bu.block
 have hrow : ∀ r ∈ R, ∀ g, r.v.ownBlock = some g → Z.heap[g]? = X.heap[g]? := fun r hr g hg => by
  obtain ⟨cur, hc⟩ := own_cells_at (h.km.kp.own r hr) hg
  rw [hc]
  refine hO g _ hc (fun e => ?_) (fun c fz e => ?_)
  · obtain rfl := Option.some.inj e
    rw [hb0] at hc
    have := Option.some.inj hc
    injection this with _ h2 _
    exact (h.offR r hr).2 h2.symm
  · injection e with _ h2 _
    exact (h.offR r hr).1 h2
 refine ⟨⟨⟨⟨h.below.trans hB, fun k c o hk => hO c o (h.km.kp.at k hk) (fun e => h.offb _ (List.mem_of_getElem? hk) (Option.some.inj e)) (h.offL _ (List.mem_of_getElem? hk)), h.km.kp.known.own, h.km.kp.known.desc⟩, fun r hr => ?_, h.km.kp.offL, h.km.kp.offR⟩, fun m hm => ?_, h.km.own, h.km.offL, h.km.offR, h.km.offM⟩, hbu, h.offb, h.offL, h.offR⟩
 · have ho := h.km.kp.own r hr
   refine ⟨ho.1, ?_⟩
   rcases ho.2 with hn | ⟨g, cap, cur, hv, hbg, hg, rest⟩
   · exact .inl hn
   · exact .inr ⟨g, cap, cur, hv, hbg, (hrow r hr g (by rw [hv]; rfl)).trans hg, rest⟩
 · obtain ⟨es, clock, hb, Ft, hs, hD⟩ := h.km.map m hm
   exact ⟨es, clock, hO m.b _ hb (fun e => by obtain e := Option.some.inj e; rw [e, hb0] at hb; cases hb) (fun c fz e => by cases e), Ft, hs, hD⟩
theorem Kq.keep {b : Nat} {l : List UInt8} {L : List (Nat × Obj)} {R : List Rw} {M : List Mp} {w X Z : World} (h : Kq b l L R M w X) (hB : Below X.heap.size X Z) : Kq b l L R M w Z :=
 ⟨h.km.keep hB, h.bu.kept (grown_below hB) (fun g e => by cases e), h.offb, h.offL, h.offR⟩
theorem Kq.adopt {b : Nat} {l : List UInt8} {L : List (Nat × Obj)} {R R0 : List Rw} {M : List Mp} {w X Z : World} (h : Kq b l L R0 M w X) (k : Kp [] R X Z) (hR : ∀ r ∈ R, r.e ≠ 5 ∧ r.e ≠ 131) : Kq b l L (R ++ R0) M w Z :=
 ⟨h.km.adopt k, h.bu.kept (grown_below k.below) (fun g e => by cases e), h.offb, h.offL, fun r hr => by
  rcases List.mem_append.1 hr with hr | hr
  · exact hR r hr
  · exact h.offR r hr⟩
theorem Kq.turn {b : Nat} {l : List UInt8} {L : List (Nat × Obj)} {R : List Rw} {M : List Mp} {m : Mp} {w X Z : World} {n' : Nat} {D' : DataW Unit} (h : Kq b l L R (m :: M) w X) (hg : X.grownBy Z (some m.b)) (ho : Z.ownsMap Tryz.prog m.k (plainElem Tryz.prog m.e) m.b n' D') : Kq b l L R (⟨m.b, m.k, m.e, n', D'⟩ :: M) w Z :=
 ⟨h.km.turn hg ho, h.bu.kept hg (fun g e c t fz hc => by
  obtain rfl := Option.some.inj e
  obtain ⟨es, clock, hb, _⟩ := h.km.map m (List.mem_cons_self ..)
  rw [hb] at hc
  cases hc), h.offb, h.offL, h.offR⟩
theorem Kq.append {b : Nat} {l : List UInt8} {L : List (Nat × Obj)} {R : List Rw} {M : List Mp} {r : Rw} {w X Z : World} {v' : Value} {n' : Nat} {xs' : List Value} (h : Kq b l L (r :: R) M w X) (ho : Z.ownsRow w.heap.size r.e r.sz v' n' xs') (hg : X.grownBy Z r.v.ownBlock)
 (hat : v'.ownBlock = r.v.ownBlock ∨ v'.ownBlock = some X.heap.size) : Kq b l L (⟨v', r.e, r.sz, n', xs'⟩ :: R) M w Z :=
 ⟨h.km.append ho hg hat, h.bu.kept hg (fun g e c t fz hc => by
  obtain ⟨cur, hc2⟩ := own_cells_at (h.km.kp.own r (List.mem_cons_self ..)) e
  rw [hc2] at hc
  have := Option.some.inj hc
  injection this with _ h2 _
  rw [← h2]
  exact h.offR r (List.mem_cons_self ..)), h.offb, h.offL, fun s hs => by
  rcases List.mem_cons.1 hs with rfl | hs
  · exact h.offR r (List.mem_cons_self ..)
  · exact h.offR s (List.mem_cons_of_mem _ hs)⟩
theorem Kq.alloc {b : Nat} {l : List UInt8} {L : List (Nat × Obj)} {R : List Rw} {M : List Mp} {w X : World} (h : Kq b l L R M w X) (o : Obj) (ho : ∀ c fz, o ≠ .cells c 5 fz) : Kq b l ((X.heap.size, o) :: L) R M w (X.alloc o) :=
 ⟨h.km.alloc o, h.bu.kept (World.grownBy_alloc X o none) (fun g e => by cases e), fun p hp => by
  rcases List.mem_cons.1 hp with rfl | hp
  · obtain ⟨_, _, _, hb0, _⟩ := h.bu.block
    exact Nat.ne_of_gt (lt_of_block hb0)
  · exact h.offb p hp, fun p hp => by
  rcases List.mem_cons.1 hp with rfl | hp
  · exact ho
  · exact h.offL p hp, h.offR⟩
theorem Kq.allocAt {b : Nat} {l : List UInt8} {L : List (Nat × Obj)} {R : List Rw} {M : List Mp} {w X : World} (h : Kq b l L R M w X) (k : Nat) (hk : X.heap.size = k) (o : Obj) (ho : ∀ c fz, o ≠ .cells c 5 fz) : Kq b l ((k, o) :: L) R M w (X.alloc o) := by
 subst hk; exact h.alloc o ho
theorem Kq.drop {b : Nat} {l : List UInt8} {p : Nat × Obj} {L : List (Nat × Obj)} {R : List Rw} {M : List Mp} {w X : World} (h : Kq b l (p :: L) R M w X) : Kq b l L R M w X :=
 ⟨h.km.drop, h.bu, fun q hq => h.offb q (List.mem_cons_of_mem _ hq), fun q hq => h.offL q (List.mem_cons_of_mem _ hq), h.offR⟩
theorem Kq.fresh {b : Nat} {l : List UInt8} {L : List (Nat × Obj)} {R : List Rw} {M : List Mp} {w X : World} (h : Kq b l L R M w X) (e : TypeId) (sz : Nat) (he : e ≠ 5 ∧ e ≠ 131) : Kq b l L (⟨.slice none 0 0, e, sz, 0, []⟩ :: R) M w X :=
 ⟨h.km.fresh e sz, h.bu, h.offb, h.offL, fun r hr => by
  rcases List.mem_cons.1 hr with rfl | hr
  · exact he
  · exact h.offR r hr⟩
theorem Kq.less {b : Nat} {l : List UInt8} {L : List (Nat × Obj)} {R S : List Rw} {M : List Mp} {w X : World} (h : Kq b l L R M w X) (hs : S.Sublist R) : Kq b l L S M w X :=
 ⟨h.km.less hs, h.bu, h.offb, h.offL, fun r hr => h.offR r (hs.subset hr)⟩
theorem Kq.perm {b : Nat} {l : List UInt8} {L : List (Nat × Obj)} {R S : List Rw} {M : List Mp} {w X : World} (h : Kq b l L R M w X) (hp : S.Perm R) : Kq b l L S M w X :=
 ⟨h.km.perm hp, h.bu, h.offb, h.offL, fun r hr => h.offR r (hp.subset hr)⟩
end Go.Proofs.YtkpmmabdpeobaaaGreatDoor.Px
namespace Go.Proofs.YtkpmmabdpeobaaaGreatDoor.Px
open Go.RowKit
theorem copyCheck_F {B b : Nat} {l : List UInt8} {w : World} (h : BuF B b l w) :
 Calls Tryz.prog 126 #[.pointer (some ⟨b, 0, none⟩)] w fun e w' => e = .returned (.tuple #[]) ∧ Lib.BuilderAtF 131 5 B b (.pointer (some ⟨b, 0, none⟩)) (Lib.byteCells l) w' ∧ Below B w w' ∧ Lib.OthersKept 5 (some b) w w' := by
 rcases h with h | h
 · refine (Lx.copyCheck_fresh b w h.cell0 h.shape h.frozen0).mono ?_
   rintro e w' ⟨rfl, rfl⟩
   exact ⟨rfl, h.used _, (Below.refl B w).setCell (p := ⟨b, 0, none⟩) h.1 _, (Lib.OthersKept.refl _ _ w).setCell ⟨b, 0, none⟩ rfl _⟩
 · refine (Lx.copyCheck_used b w h.cell0).mono ?_
   rintro e w' ⟨rfl, rfl⟩
   exact ⟨rfl, h, Below.refl B _, Lib.OthersKept.refl _ _ _⟩
set_option maxHeartbeats 2000000 in
set_option maxRecDepth 100000 in
theorem writeString_F {B b : Nat} {l : List UInt8} (s : List UInt8) {w : World} (h : BuF B b l w) (hlen : l.length + s.length ≤ 1000000000000) (hBw : B ≤ w.heap.size) :
 Calls Tryz.prog 81 #[.pointer (some ⟨b, 0, none⟩), .string (bs s)] w fun e w' => (∃ u, e = .returned (.tuple #[u, .nilIface])) ∧ BuF B b (l ++ s) w' ∧ Below B w w' ∧ Lib.OthersKept 5 (some b) w w' := by
 obtain ⟨i0, hi, hz0, hz1, hz2⟩ := info_parts Lx.infoByte
 have C := Lib.hid (copyCheck_F h)
 obtain ⟨S, hS⟩ : ∃ S, bs s = S := ⟨_, rfl⟩
 have hsz : S.size = s.length := by rw [← hS]; rfl
 have HS := Lib.hid hS
 obtain ⟨C0, hC0⟩ : ∃ C, Lib.byteCells l = C := ⟨_, rfl⟩
 have hbl : C0.length = l.length := by rw [← hC0]; exact Lib.byteCells_length l
 have HE := Lib.hid (show C0 ++ Lib.strCells S = Lib.byteCells (l ++ s) by
  rw [← hS, ← hC0]
  simp [Lib.byteCells, Lib.strCells, bs])
 have hcl : C0.length + S.size ≤ 1000000000000 := by omega
 rw [hS]
 rw [hC0] at C
 clear hS h hC0 hsz hbl
 go_enter Tryz.func81, Tryz.ntmps81
 go_wp2_with (go_at_call 126; refine C.out.mono ?_)
 rintro e w1 ⟨rfl, h1, hb1, hk1⟩
 obtain ⟨hB, v, hbk, hown, hne⟩ := h1
 have hk1' := Lib.hid hk1
 clear hk1
 have c0 : w1.cell? ⟨b, 0, none⟩ = some (.pointer (some ⟨b, 0, none⟩)) := by rw [Lib.cell_of_heap hbk]; rfl
 have c1 : w1.cell? ⟨b, 1, none⟩ = some v := by rw [Lib.cell_of_heap hbk]; rfl
 go_wp2_with (at_builtin; refine Lib.wpList_append_own_stringF _ rfl _ _ 32 9 rfl B 5 i0 Tryz.underlying32 Tryz.underlying9 hi hz0 hz1 hz2 _ _ _ rfl hown S rfl ?c3 ?c4 ?c5 ?_)
 case c3 => unfold maxLen; omega
 case c4 => omega
 case c5 => have := hb1.size; omega
 intro v' w2 hown' hgrow _
 have hlt : b < w1.heap.size := lt_of_block hbk
 have hb2 : w2.heap[b]? = some (.cells #[.pointer (some ⟨b, 0, none⟩), v] 131 (0, 0)) := by
  rw [hgrow.block b hlt (fun e => hne e.symm)]
  exact hbk
 have d0 : w2.cell? ⟨b, 0, none⟩ = some (.pointer (some ⟨b, 0, none⟩)) := by rw [Lib.cell_of_heap hb2]; rfl
 have d1 : w2.cell? ⟨b, 1, none⟩ = some v := by rw [Lib.cell_of_heap hb2]; rfl
 have f1 : w2.frozen? ⟨b, 1, none⟩ = false := Lib.frozen_of_heap hb2 1
 obtain ⟨ao, n', cap, rfl⟩ : ∃ ao n' cap, v' = .slice ao n' cap := by
  rcases hown'.2 with ⟨hv, _⟩ | ⟨g, cap, cur, fz, hv, _⟩
  · exact ⟨_, _, _, hv⟩
  · exact ⟨_, _, _, hv⟩
 go_wp2
 go_ret2
 refine ⟨⟨_, rfl⟩, ?_, ?_, (hk1'.out.grown hgrow (Lib.ownsRowF_kind hown)).setCell ⟨b, 1, none⟩ rfl _⟩
 · right
   rw [← HE.out]
   exact Lib.BuilderAtF.put hB hb2 (bs' := C0 ++ Lib.strCells S) (by simpa [Lib.strCells_length] using hown') Lx.neB5
 · exact (hb1.grown hgrow (by have := hb1.size; omega) (fun k hk => (hown.lt k hk).1)).setCell (p := ⟨b, 1, none⟩) hB _
end Go.Proofs.YtkpmmabdpeobaaaGreatDoor.Px
namespace Go.Proofs.YtkpmmabdpeobaaaGreatDoor.Px
open Go.RowKit
open Po
set_option maxHeartbeats 2000000 in
theorem pred_any (s : List UInt8) (w : World) : Calls Tryz.prog 74 #[.string (bs s)] w fun e w' => e = .returned (.bool (badB s)) ∧ w = w' := by
 have C := Lib.hid (Tryz.strings_Contains_one (bs s) 0 w)
 have HP := Lib.hid (show (s.isEmpty || decide (0 ≤ Lib.indexByte (bs s).data.toList 0)) = badB s by unfold badB; rw [Lib.contains_iff_indexByte]; rfl)
 cases s with
 | nil =>
   obtain ⟨S, hS⟩ : ∃ S, bs ([] : List UInt8) = S := ⟨_, rfl⟩
   have hs0 : S = ⟨#[]⟩ := hS.symm
   subst hs0
   clear C
   go_enter Tryz.func74, Tryz.ntmps74
   go_wp2_with fail
   go_ret
   exact ⟨rfl, rfl⟩
 | cons x r =>
   have hne : (bs (x :: r)).toList.isEmpty = false := by
    show (ByteArray.mk (x :: r).toArray).toList.isEmpty = false
    rw [ByteArray.toList_mk]
    rfl
   have hp := HP.out
   rw [List.isEmpty_cons, Bool.false_or] at hp
   rw [hp] at C
   obtain ⟨S, hS⟩ : ∃ S, bs (x :: r) = S := ⟨_, rfl⟩
   rw [hS] at hne C
   rw [hS]
   obtain ⟨q, hq⟩ : ∃ q, badB (x :: r) = q := ⟨_, rfl⟩
   rw [hq] at C
   rw [hq]
   clear HP hp hS hq
   go_enter Tryz.func74, Tryz.ntmps74
   go_wp2_with (go_at_call 75; refine C.out.mono ?_; rintro e w1 ⟨rfl, rfl⟩)
   go_ret
   refine ⟨?_, rfl⟩
   simp
def placeS (g : Lit → Option (DataW Unit)) (k : Lit) (i : Int) : Lit → Option (DataW Unit) := fun x => if x.sameKey k = true then some (.lit (.int .i64 i)) else g x
def Pst (L : List (Nat × Obj)) (R : List Rw) (W : World) (b m q : Nat) (pool : List UInt8) (c : Nat) (g : Lit → Option (DataW Unit)) (X : World) : Prop :=
 ∃ n D, n ≤ c ∧ Kq b pool ((q, .cells #[.map (some m)] 132 (0, 0)) :: L) R [⟨m, 9, 3, n, D⟩] W X ∧ FnOf D g
theorem bs_w (s : List UInt8) : bs s ++ ⟨#[0]⟩ = bs (w s) := rfl
set_option maxHeartbeats 8000000 in
set_option maxRecDepth 100000 in
theorem put_any {L : List (Nat × Obj)} {R : List Rw} {W X : World} {b m q c : Nat} {pool s : List UInt8} {g : Lit → Option (DataW Unit)} (mx : Int) (h : Pst L R W b m q pool c g X) (hform : Po.Form pool) (h0 : (0 : UInt8) ∉ s) (hl : s.length ≤ 1000000) (hpl : pool.length ≤ 255) (hc : c ≤ 1000000)
 (hm : W.cell? ⟨1, 0, none⟩ = some (.int .i64 mx)) :
 Calls Tryz.prog 77 #[.string (bs s), .pointer (some ⟨b, 0, none⟩), .pointer (some ⟨q, 0, none⟩)] X fun e w' => e = .returned (.bool (decide ((Po.step pool s).length ≤ 255))) ∧
  Pst L R W b m q (Po.step pool s) (c + 1) (placeS g (keyS s) (Lib.index (Po.step pool s) (w s))) w' := by
 obtain ⟨n, D, hn, hK, hD⟩ := h
 have hblk : 1 < W.heap.size := block_lt_of_cell hm
 have HM := Lib.hid (fun (Y : World) (hB : Below W.heap.size W Y) => (hB.cell (p := ⟨1, 0, none⟩) hblk).trans hm)
 have CS := Lib.hid (fun (Y : World) h hB => Tryz.Builder_String_any_k W.heap.size b pool Y h hB)
 have HK := Lib.hid hK
 have HD := Lib.hid hD
 have hfit := Lib.hid (keyS_is (l := s) (by unfold maxLen; omega))
 have CI := Lib.hid (fun (Y : World) h => Tryz.strings_Index (bs pool) (bs s ++ ⟨#[0]⟩) mx Y (by show pool.length < _; omega) h)
 have CL1 := Lib.hid (fun (Y : World) h => Tryz.Builder_Len_f W.heap.size b (Lib.byteCells pool) Y h)
 have CL2 := Lib.hid (fun (Y : World) h => Tryz.Builder_Len_f W.heap.size b (Lib.byteCells (Po.step pool s)) Y h)
 rw [Lib.byteCells_length] at CL1 CL2
 have hnm : n < maxLen := by unfold maxLen; omega
 obtain ⟨S, hS⟩ : ∃ S, bs s = S := ⟨_, rfl⟩
 have hcat : ¬ 9223372036854775807 < S.size + 1 := by rw [← hS]; show ¬ _ < s.length + 1; omega
 obtain ⟨Pb, hPb⟩ : ∃ Pb, bs pool = Pb := ⟨_, rfl⟩
 have CS' := Lib.hid (show ∀ (Y : World) (h : BuF W.heap.size b pool Y) (hB : W.heap.size ≤ Y.heap.size), Calls Tryz.prog 79 #[.pointer (some ⟨b, 0, none⟩)] Y fun e w' => e = .returned (.string Pb) ∧ (BuF W.heap.size b pool w' ∧ Below W.heap.size Y w' ∧ Lib.OthersKept 5 (some b) Y w') by rw [← hPb]; exact CS.out)
 obtain ⟨I, hI⟩ : ∃ I, Lib.index pool (w s) = I := ⟨_, rfl⟩
 have hI2 : Lib.index (bs pool).data.toList (bs s ++ ⟨#[0]⟩).data.toList = I := hI
 rw [hI2] at CI
 rw [hPb] at CI
 rw [hS] at CI hfit
 have hIl : I ≤ 1000 := by
  rcases index_cases pool (w s) with ⟨h1, _⟩ | ⟨j, h1, h2, _⟩
  · omega
  · omega
 clear hm hK hD CS hPb hI2
 by_cases hidx : I < 0
 · have CW := Lib.hid (fun (Y : World) (h : BuF W.heap.size b pool Y) hB => writeString_F (w s) h (by rw [w_len]; omega) hB)
   rw [← bs_w, hS] at CW
   have hst : pool ++ w s = Po.step pool s := by unfold Po.step; rw [if_pos (by omega)]
   have hat : Lib.index (Po.step pool s) (w s) = (pool.length : Int) := by
    have := index_new (q := []) hform h0 (by omega)
    rw [List.append_nil] at this
    rw [← hst]
    exact this
   rw [hst] at CW
   have hwf : (Lit.int .i64 (pool.length : Int)).wf = true := wf_64 (by omega)
   have hval := Lib.hid (plainElem_int (H := Unit) (P := Tryz.prog) (q := .i64) Tryz.underlying3 hwf)
   rw [hat]
   obtain ⟨np, hnp⟩ : ∃ k, (Po.step pool s).length = k := ⟨_, rfl⟩
   have hnp2 : np ≤ 3000000 := by rw [← hnp, ← hst, List.length_append, w_len]; omega
   obtain ⟨N0, hN0⟩ : ∃ k, pool.length = k := ⟨_, rfl⟩
   rw [hnp] at CL2 ⊢
   rw [hN0] at CL1 hval ⊢ hwf hpl
   rw [hS]
   clear hI hst hat hform h0 hS hnp hN0
   go_enter Tryz.func77, Tryz.ntmps77
   go_wp2_with fail
   refine (CS'.out X HK.out.bu HK.out.below.size).mono ?_
   rintro e w1 ⟨rfl, h1, h2, h3⟩
   have K1 := Lib.hid (HK.out.step h1 h2 h3)
   have hm1 := HM.out _ K1.out.below
   clear h1 h2 h3
   go_wp2_with fail
   refine (CI.out w1 hm1).mono ?_
   rintro e w2 ⟨rfl, rfl⟩
   go_wp2_with fail
   refine (CL1.out _ K1.out.bu).mono ?_
   rintro e w2 ⟨rfl, rfl⟩
   go_wp2_with fail
   refine (CW.out _ K1.out.bu K1.out.below.size).mono ?_
   rintro e w2 ⟨⟨u, rfl⟩, h1, h2, h3⟩
   have K2 := Lib.hid (K1.out.step h1 h2 h3)
   obtain ⟨u3, hu3, ou3, gu3⟩ := (K2.out.km.map _ (List.mem_cons_self ..)).update str_keyed Tryz.underlying132 hnm hfit.out hval.out
   have K3 := Lib.hid (K2.out.turn gu3 ou3)
   have hq := cells_at (K2.out.km.kp.at 0 rfl) 0
   clear h1 h2 h3 ou3 gu3
   go_wp2_with fail
   refine (CL2.out _ K3.out.bu).mono ?_
   rintro e w4 ⟨rfl, rfl⟩
   go_wp2_with fail
   go_ret
   refine ⟨?_, n + 1, _, by omega, K3.out, HD.out.put (k := keyS s) trivial _⟩
   show Ending.returned (.bool (decide ((np : Int) ≤ 255))) = _
   rw [show decide ((np : Int) ≤ 255) = decide (np ≤ 255) by rw [decide_eq_decide]; omega]
 · have hst : Po.step pool s = pool := by unfold Po.step; rw [if_neg (by omega)]
   rw [hst] at CL2 ⊢
   rw [hI]
   have hwf : (Lit.int .i64 I).wf = true := wf_64 (by omega)
   have hval := Lib.hid (plainElem_int (H := Unit) (P := Tryz.prog) (q := .i64) Tryz.underlying3 hwf)
   obtain ⟨N0, hN0⟩ : ∃ k, pool.length = k := ⟨_, rfl⟩
   rw [hN0] at CL1 CL2 hpl ⊢
   rw [hS]
   clear hI hst hform h0 hN0 hS
   go_enter Tryz.func77, Tryz.ntmps77
   go_wp2_with fail
   refine (CS'.out X HK.out.bu HK.out.below.size).mono ?_
   rintro e w1 ⟨rfl, h1, h2, h3⟩
   have K1 := Lib.hid (HK.out.step h1 h2 h3)
   have hm1 := HM.out _ K1.out.below
   clear h1 h2 h3
   go_wp2_with fail
   refine (CI.out w1 hm1).mono ?_
   rintro e w2 ⟨rfl, rfl⟩
   obtain ⟨u3, hu3, ou3, gu3⟩ := (K1.out.km.map _ (List.mem_cons_self ..)).update str_keyed Tryz.underlying132 hnm hfit.out hval.out
   have K3 := Lib.hid (K1.out.turn gu3 ou3)
   have hq := cells_at (K1.out.km.kp.at 0 rfl) 0
   clear ou3 gu3
   go_wp2_with fail
   refine (CL2.out _ K3.out.bu).mono ?_
   rintro e w4 ⟨rfl, rfl⟩
   go_wp2_with fail
   go_ret
   refine ⟨?_, n + 1, _, by omega, K3.out, HD.out.put (k := keyS s) trivial _⟩
   show Ending.returned (.bool (decide ((N0 : Int) ≤ 255))) = _
   rw [show decide ((N0 : Int) ≤ 255) = decide (N0 ≤ 255) by rw [decide_eq_decide]; omega]
end Go.Proofs.YtkpmmabdpeobaaaGreatDoor.Px
namespace Go.Proofs.YtkpmmabdpeobaaaGreatDoor
open Go.RowKit Go.Shelf
def SeqSteps {α : Type} (F : Fence) (n : Nat) (P : Program) (g : Nat) (lb : Array Value) (encs : α → Array Value) (Kp St : World → World → Prop) (S Sp : List α → Prop) (N : Nat) (w : World) : Prop :=
 ∀ (l : Nat) (J Jx : List α → World → Prop) (W : World), Below w.heap.size w W → AbidesFrom W.heap.size J → AbidesFrom W.heap.size Jx →
  (∀ s A B, J s A → St A B → J s B) → (∀ s A B, Jx s A → St A B → Jx s B) →
  (∀ pre x W1, J pre W1 → pre.length < N → YieldAt F (n - 1) P l (encs x) W1 fun e W' =>
   (e = .returned (.bool true) ∧ J (pre ++ [x]) W' ∧ Kp W1 W') ∨ (e = .returned (.bool false) ∧ Jx (pre ++ [x]) W')) →
  J [] W →
  CallsIn F n P g (#[.func (.yield l) #[] #[]] ++ lb) W fun e W' => (∃ v, e = .returned v) ∧ ((∃ xs, S xs ∧ J xs W') ∨ (∃ pre, Sp pre ∧ Jx pre W'))
theorem rangeFunc_steps {F : Fence} {n : Nat} {P : Program} {α : Type} {g : Operand} {ps : Array Tmp} {assign body : Code} {Q : Exit → Act → World → Prop} {a : Act} {w : World}
 (hro : F.round = none) (h1 : 1 ≤ n) {gf : Nat} {lb : Array Value} (hg : a.eval g = .func (.func gf) #[] lb) (hFg : F.fn gf) (eg : ∀ args w, (callFunc gf args).run P w = .ok (.enter gf args) w)
 {encs : α → Array Value} {Kp St : World → World → Prop} {S Sp : List α → Prop} {N : Nat} {w0 : World} (hseq : SeqSteps F (n - 1) P gf lb encs Kp St S Sp N w0)
 (hSt : ∀ A B k, St A B → w.heap.size ≤ k → B.heap[k]? = A.heap[k]?)
 (hKt : ∀ {A B C : World}, Kp A B → Kp B C → Kp A C) (hKb : ∀ (W : World) (l : Nat) (o o' : Obj), w.heap.size ≤ l → W.heap[l]? = some o → o.isCells = false → o.isWalk = false → Kp W (W.putObj l o')) (hb0 : Below w0.heap.size w0 w) (hps : ∀ x, (encs x).size = ps.size)
 (I : List α → World → Prop) (Ix : Code → List α → World → Prop) (hI : OwnFrom w.heap.size I) (hIx : ∀ c, OwnFrom w.heap.size (Ix c))
 (hIs : ∀ s A B, I s A → St A B → I s B) (hIxs : ∀ c s A B, Ix c s A → St A B → Ix c s B) (h0 : I [] w) (a₁ : α → Act)
 (hassign : ∀ (l : Nat) (x : α) (W : World) (K : Act → World → Prop), K (a₁ x) W →
  assign.wpIn (F.inRound l) (n - 1 - 1) P (Exit.then K (fun _ _ _ => False)) { tmps := (ps.zip (encs x)).foldl (fun t (p, v) => t.setIfInBounds p v) a.tmps, defers := [] } W)
 (hbody : ∀ (l : Nat) (pre : List α) (x : α) (W : World), I pre W → pre.length < N → body.wpIn (F.inRound l) (n - 1 - 1) P (ownPostK Kp I Ix (pre ++ [x]) W) (a₁ x) W)
 (hdone : ∀ (D : Nat) (xs : List α) (W : World), w.heap.size ≤ D → S xs → I xs W → W.heap[D]? = some (.deferred (some [])) → Q .normal { a with defers := { target := .collected D, args := #[] } :: a.defers } W)
 (hstop : ∀ (D : Nat) (c : Code) (pre : List α) (W : World), w.heap.size ≤ D → Sp pre → Ix c pre W → W.heap[D]? = some (.deferred (some [])) → c.wpIn F n P Q { a with defers := { target := .collected D, args := #[] } :: a.defers } W) :
 (Code.rangeFunc g ps assign body).wpIn F n P Q a w := by
 refine wpIn_rangeFunc fun fn hfn => ?_
 rw [hro]
 let R : LoopState → Option Code → Loop := fun st pe => { state := st, pending := pe, fn, tmps := a.tmps, params := ps, assign, body, defers := w.heap.size }
 have hR : ∀ st pe, R st pe = { state := st, pending := pe, fn, tmps := a.tmps, params := ps, assign, body, defers := w.heap.size } := fun _ _ => rfl
 have hRs : ∀ st pe st', { R st pe with state := st' } = R st' pe := fun _ _ _ => rfl
 obtain ⟨W1, hW1⟩ : ∃ W1, (w.alloc (.deferred (some []))).alloc (.loop (R .ready none)) = W1 := ⟨_, rfl⟩
 have hz1 : W1.heap.size = w.heap.size + 2 := by rw [← hW1]; simp
 have hL1 : W1.heap[w.heap.size + 1]? = some (.loop (R .ready none)) := by rw [← hW1]; exact heap_alloc2_new w _ _
 have hK1 : W1.heap[w.heap.size]? = some (.deferred (some [])) := by rw [← hW1]; exact heap_alloc2_old w _ _
 refine ⟨w.heap.size + 1, [{ target := .collected w.heap.size, args := #[] }], W1, { target := .fn (.func gf) lb, args := #[.func (.yield (w.heap.size + 1)) #[] #[]] }, W1, gf,
  #[.func (.yield (w.heap.size + 1)) #[] #[]] ++ lb, W1, by rw [← hW1]; exact run_enterLoop_outer _ _ _ _ _, by simp only [resolve, hg]; simp [go_sem], ?_, by simp [invoke, go_sem, eg], fun _ => h1, ?_⟩
 · intro f' hf'
   simp [Target.leads] at hf'
   subst hf'
   exact hFg
 -- what is kept beside the caller's own word: the loop's record and the block of the deferred calls
 let Jn : List α → World → Prop := fun pre W => I pre W ∧ W.heap[w.heap.size + 1]? = some (.loop (R .ready none)) ∧ W.heap[w.heap.size]? = some (.deferred (some []))
 let Jd : List α → World → Prop := fun pre W => ∃ c, Ix c pre W ∧ W.heap[w.heap.size + 1]? = some (.loop (R .done (some c))) ∧ W.heap[w.heap.size]? = some (.deferred (some []))
 have walks : ∀ {A : World} {row : Option Nat}, (∀ r, row = some r → W1.heap.size ≤ r ∧ ∃ o : Obj, A.heap[r]? = some o ∧ o.isWalk = true) → (∀ r, row = some r → w.heap.size ≤ r ∧ ∃ o : Obj, A.heap[r]? = some o ∧ o.isCells = false) :=
  fun hr r e => by
   obtain ⟨hB, o, ho, hw⟩ := hr r e
   exact ⟨by omega, o, ho, Obj.not_cells_of_walk hw⟩
 have round : ∀ pre x W, Jn pre W → pre.length < N → YieldAt F (n - 1 - 1) P (w.heap.size + 1) (encs x) W fun e W' =>
  (e = .returned (.bool true) ∧ Jn (pre ++ [x]) W' ∧ Kp W W') ∨ (e = .returned (.bool false) ∧ Jd (pre ++ [x]) W') := by
  rintro pre x W ⟨hi, hl, hk⟩ hlen
  have hlt : w.heap.size + 1 < W.heap.size := (Array.getElem?_eq_some_iff.1 hl).1
  have hy := run_yield (P := P) (args := encs x) hl (by rw [hR]; exact hps x)
  rw [hR] at hy
  refine ⟨fn, _, assign, body, hy, roundIn_of_wpIn hfn (hassign _ x W _ ⟨_, run_beginRound hl (by rw [hR]), ?_⟩)⟩
  obtain ⟨V, hV⟩ : ∃ V, W.putObj (w.heap.size + 1) (.loop { R .ready none with state := .busy }) = V := ⟨_, rfl⟩
  have hVl : V.heap[w.heap.size + 1]? = some (.loop (R .busy none)) := by rw [← hV]; exact World.putObj_heap_same hlt
  have hVk : V.heap[w.heap.size]? = some (.deferred (some [])) := by rw [← hV]; exact (World.putObj_heap_other (by omega)).trans hk
  have hVi : I pre V := by rw [← hV]; exact hI.putObj _ hi (by omega) hl rfl
  have hVw : Kp W V := by rw [← hV]; exact hKb _ _ _ _ (by omega) hl rfl rfl
  rw [hV]
  refine wpIn_mono (hbody _ pre x _ hVi hlen) ?_
  have fin : ∀ (jump : Option Code) (X : World), KeepsOthers V X → ∀ (Ij : World → Prop), Ij X → (∀ o', Ij X → Ij (X.putObj (w.heap.size + 1) o')) →
   (Instr.endRound (w.heap.size + 1) jump).run P X = .ok (.bool jump.isNone) (X.putObj (w.heap.size + 1) (.loop (R (if jump.isNone then .ready else .done) jump))) ∧
   X.heap[w.heap.size + 1]? = some (.loop (R .busy none)) ∧ Ij (X.putObj (w.heap.size + 1) (.loop (R (if jump.isNone then .ready else .done) jump))) ∧
   (X.putObj (w.heap.size + 1) (.loop (R (if jump.isNone then .ready else .done) jump))).heap[w.heap.size + 1]? = some (.loop (R (if jump.isNone then .ready else .done) jump)) ∧
   (X.putObj (w.heap.size + 1) (.loop (R (if jump.isNone then .ready else .done) jump))).heap[w.heap.size]? = some (.deferred (some [])) := fun jump X hkX Ij hj hjo => by
   have hXl := hkX.same _ _ hVl rfl
   exact ⟨run_endRound (P := P) jump hXl, hXl, hjo _ hj, World.putObj_heap_same (Array.getElem?_eq_some_iff.1 hXl).1, (World.putObj_heap_other (by omega)).trans (hkX.same _ _ hVk rfl)⟩
  have own : ∀ (c : Code) (X : World), KeepsOthers V X → ∀ o', Ix c (pre ++ [x]) X → Ix c (pre ++ [x]) (X.putObj (w.heap.size + 1) o') :=
   fun c X hkX o' h => (hIx c).putObj _ h (by omega) (hkX.same _ _ hVl rfl) rfl
  rintro e a3 X hp
  cases e with
  | normal =>
    obtain ⟨hkX, hwX, hiX⟩ := hp
    obtain ⟨hr, hXl, hi', hl', hk'⟩ := fin none X hkX (I (pre ++ [x])) hiX (fun o' h => hI.putObj _ h (by omega) (hkX.same _ _ hVl rfl) rfl)
    exact ⟨_, _, hr, .inl ⟨rfl, ⟨hi', hl', hk'⟩, hKt (hKt hVw hwX) (hKb _ _ _ _ (by omega) hXl rfl rfl)⟩⟩
  | ret =>
    obtain ⟨hr, _, hi', hl', hk'⟩ := fin (some .ret) X hp.1 (Ix .ret (pre ++ [x])) hp.2 (fun o' h => own _ X hp.1 o' h)
    exact ⟨_, _, hr, .inr ⟨rfl, .ret, hi', hl', hk'⟩⟩
  | exit id =>
    obtain ⟨hr, _, hi', hl', hk'⟩ := fin (some (.exit id)) X hp.1 (Ix (.exit id) (pre ++ [x])) hp.2 (fun o' h => own _ X hp.1 o' h)
    exact ⟨_, _, hr, .inr ⟨rfl, .exit id, hi', hl', hk'⟩⟩
  | goto t =>
    obtain ⟨hr, _, hi', hl', hk'⟩ := fin (some (.goto t)) X hp.1 (Ix (.goto t) (pre ++ [x])) hp.2 (fun o' h => own _ X hp.1 o' h)
    exact ⟨_, _, hr, .inr ⟨rfl, .goto t, hi', hl', hk'⟩⟩
  | panic ch => exact hp.elim
  | outgrown => exact hp.elim
 have hb1 : Below w0.heap.size w0 W1 := by rw [← hW1]; exact hb0.trans ((((Below.refl _ w).alloc (Nat.le_refl _) _).alloc (by simp) _).mono hb0.size)
 have hI1 : I [] W1 := by rw [← hW1]; exact hI.alloc _ (hI.alloc _ h0)
 refine (hseq (w.heap.size + 1) Jn Jd W1 hb1
  (fun s A B row hs hg' hr => ⟨hI s A B row hs.1 hg' (walks hr), (grownBy_keeps hg' (fun r e => (hr r e).2) hs.2.1 rfl).trans hs.2.1, (grownBy_keeps hg' (fun r e => (hr r e).2) hs.2.2 rfl).trans hs.2.2⟩)
  (fun s A B row hs hg' hr => by
   obtain ⟨c, hc, hl, hk⟩ := hs
   exact ⟨c, hIx c s A B row hc hg' (walks hr), (grownBy_keeps hg' (fun r e => (hr r e).2) hl rfl).trans hl, (grownBy_keeps hg' (fun r e => (hr r e).2) hk rfl).trans hk⟩)
  (fun s A B hs hst => ⟨hIs s A B hs.1 hst, (hSt A B _ hst (by omega)).trans hs.2.1, (hSt A B _ hst (by omega)).trans hs.2.2⟩)
  (fun s A B hs hst => by
   obtain ⟨c, hc, hl, hk⟩ := hs
   exact ⟨c, hIxs c s A B hc hst, (hSt A B _ hst (by omega)).trans hl, (hSt A B _ hst (by omega)).trans hk⟩)
  round ⟨hI1, hL1, hK1⟩).mono ?_
 rintro e X ⟨⟨v, rfl⟩, (⟨xs, hS, hi, hl, hk⟩ | ⟨pre, hSp, c, hi, hl, hk⟩)⟩
 · exact ⟨none, _, run_endLoop (P := P) hl (by rw [hR]; simp), hdone _ xs _ (Nat.le_refl _) hS (hI.putObj _ hi (by omega) hl rfl) ((World.putObj_heap_other (by omega)).trans hk)⟩
 · exact ⟨some c, _, run_endLoop (P := P) hl (by rw [hR]; simp), hstop _ c pre _ (Nat.le_refl _) hSp ((hIx c).putObj _ hi (by omega) hl rfl) ((World.putObj_heap_other (by omega)).trans hk)⟩
end Go.Proofs.YtkpmmabdpeobaaaGreatDoor
namespace Go.Proofs.YtkpmmabdpeobaaaGreatDoor.Px
open Go.RowKit Go.Shelf
def KeptB (w A B : World) : Prop := ∀ k, k < w.heap.size → B.heap[k]? = A.heap[k]?
set_option maxHeartbeats 4000000 in
set_option maxRecDepth 100000 in
theorem values_steps (n : Nat) (hn : 1 ≤ n) (D : List (List UInt8)) (Bs : Nat) (v : Value) (w : World) (hBs : w.heap[Bs]? = some (.cells #[v] 74 (0, 0))) (hV : StrV w v D) (hD : D.length ≤ 1000000) :
 SeqSteps Fence.wide n Tryz.prog 129 #[.pointer (some ⟨Bs, 0, none⟩)] (fun x : List UInt8 => #[.string (bs x)]) (KeptB w) (fun A B => A = B) (fun xs => xs = D) (fun _ => True) D.length w := by
 intro l J Jx W hW hJ hJx hSJ hSJx hY h0
 have hlt : Bs < w.heap.size := (Array.getElem?_eq_some_iff.1 hBs).1
 obtain ⟨a, c, rfl, hc1, hc2⟩ := hV.slice
 have hall := fun h0 => hV.all h0
 obtain ⟨N, hN⟩ : ∃ n, D.length = n := ⟨_, rfl⟩
 rw [hN] at hall hY hD
 rw [hN] at hBs
 have HK0 := Lib.hid (show KeptB w w W from fun k hk => hW.block k hk)
 have hcell : ∀ X : World, KeptB w w X → X.cell? ⟨Bs, 0, none⟩ = some (.slice a N c) := fun X h => by simp only [World.cell?, h Bs hlt, hBs]; rfl
 have c0 := hcell W HK0.out
 have HA := Lib.hid hall
 have HY := Lib.hid hY
 have HN := Lib.hid hN
 have HSJ := Lib.hid hSJ
 have H0 := Lib.hid h0
 clear hBs hV hall hcell hY hSJ hSJx h0 hJ hJx hW hN hlt
 refine callsIn_of_wp Tryz.func129 rfl trivial ?_ rfl
 simp only [Tryz.ntmps129, List.size_toArray, List.length_cons, List.length_nil, Nat.reduceAdd, Nat.reduceSub, Array.replicate_succ, Array.replicate_zero, List.push_toArray, List.append_toArray, List.nil_append, List.cons_append]
 gi_wp2
 gi_loopw [4, 7] (fun _ v7 wr => ∃ i : Nat, i ≤ N ∧ v7 = .int .i64 (i : Int) ∧ J (D.take i) wr ∧ KeptB w w wr) (fun _ v7 _ => N - (intOf v7).toNat)
 case atStart => exact ⟨0, by omega, rfl, H0.out, HK0.out⟩
 case round =>
  obtain ⟨i, hi, rfl, hJi, hk⟩ := hrel
  have HK := Lib.hid hk
  have HJ := Lib.hid hJi
  clear hk hJi HK0 H0
  by_cases hlt : i < N
  · have j1 : (i : Int) < (N : Int) := by omega
    obtain ⟨b, o, c', e1, _, _, hb, hcell⟩ := HA.out (by omega)
    simp only [Value.slice.injEq] at e1
    obtain ⟨rfl, _, rfl⟩ := e1
    obtain ⟨x, hx⟩ : ∃ x, D[i]? = some x := ⟨_, List.getElem?_eq_getElem (by rw [HN.out]; exact hlt)⟩
    have k0 : wr.cell? ⟨b, o + i, none⟩ = some (.string (bs x)) := by
     rw [← hcell i x hx]
     simp only [World.cell?, HK.out b hb]
    have ht : D.take (i + 1) = D.take i ++ [x] := by rw [List.take_add_one, hx]; rfl
    have hib : i ≤ 1000000 := by omega
    obtain ⟨fn, tmps, assign, body, hy, hR⟩ := HY.out (D.take i) x wr HJ.out (by rw [List.length_take]; have := HN.out; omega)
    have HT := Lib.hid ht
    clear hcell hx hb ht
    gi_wp2
    refine hR.mono ?_
    rintro e W3 (⟨rfl, hJ3, hk3⟩ | ⟨rfl, hJx3⟩)
    · gi_wp2
      go_roundw
      case rel =>
       refine ⟨i + 1, by omega, by go_num, by rw [HT.out]; exact hJ3, fun k hk => (hk3 k hk).trans (HK.out k hk)⟩
      case measure => simp [intOf]; omega
    · gi_wp2
      first
       | (go_end0; exact ⟨⟨_, rfl⟩, .inr ⟨_, trivial, hJx3⟩⟩)
       | (refine bodyPost_ret (results_none rfl _ _ _) rfl ?_; exact ⟨⟨_, rfl⟩, .inr ⟨_, trivial, hJx3⟩⟩)
  · obtain rfl : i = N := by omega
    have hlst : D.take i = D := List.take_of_length_le (by rw [HN.out]; exact Nat.le_refl _)
    have hj := HJ.out
    rw [hlst] at hj
    gi_wp2
    go_end0
    exact ⟨⟨_, rfl⟩, .inl ⟨D, rfl, hj⟩⟩
end Go.Proofs.YtkpmmabdpeobaaaGreatDoor.Px
namespace Go.Proofs.YtkpmmabdpeobaaaGreatDoor.Px
open Go.RowKit Go.Shelf
attribute [local go_sem] Oper.semAt_some
theorem Kp.one {r : Rw} {w X : World} (hB : Below w.heap.size w X) (ho : X.ownsRow w.heap.size r.e r.sz r.v r.n r.xs) : Kp [] [r] w X :=
 ⟨Known.nil hB, fun s hs => by rw [List.mem_singleton.1 hs]; exact ho, fun s _ g _ p hp => (by cases hp), List.pairwise_singleton _ _⟩
def Coll (w : World) (pre : List (List UInt8)) (W : World) : Prop := (∃ v, Boxed W w.heap.size 74 v ∧ W.ownsRow w.heap.size 9 1 v pre.length (pre.map sv) ∧ True) ∧ Below w.heap.size w W
theorem Coll.own (w : World) (B : Nat) (hB : w.heap.size ≤ B) : OwnFrom B (Coll w) :=
 OwnFrom.and ((holdsRow_own w.heap.size w.heap.size 74 9 1 (fun pre : List (List UInt8) => pre.length) (fun pre => pre.map sv) (fun _ _ => True)).from B) (ownFrom_below (Nat.le_refl _) hB)
set_option maxHeartbeats 4000000 in
set_option maxRecDepth 100000 in
theorem appendSeq_any (D : List (List UInt8)) (Bs : Nat) (v : Value) (w : World) (hBs : w.heap[Bs]? = some (.cells #[v] 74 (0, 0))) (hV : StrV w v D) (hD : D.length ≤ 1000000) :
 Calls Tryz.prog 164 #[.slice none 0 0, .func (.func 129) #[] #[.pointer (some ⟨Bs, 0, none⟩)]] w fun e w' => ∃ tv, e = .returned tv ∧ Kp [] [⟨tv, 9, 1, D.length, D.map sv⟩] w w' := by
 obtain ⟨i0, hi, hz0, hz1, hz2⟩ := info_parts' infoS
 have hseq := values_steps 4 (by omega) D Bs v w hBs hV hD
 have HD := Lib.hid hD
 clear hBs hV hD
 refine (callsIn_wide (n := 5)).1 ?_
 refine callsIn_of_wp_marks Tryz.func164 rfl trivial ?_ rfl
 simp only [Tryz.ntmps164, List.size_toArray, List.length_cons, List.length_nil, Nat.reduceAdd, Nat.reduceSub, Array.replicate_succ, Array.replicate_zero, List.push_toArray, List.append_toArray, List.nil_append, List.cons_append]
 gi_wp2
 generalize hW0 : World.alloc w _ = W0
 have hz : W0.heap.size = w.heap.size + 1 := by rw [← hW0]; simp
 have hb0 : Below w.heap.size w W0 := by rw [← hW0]; exact (Below.refl _ w).alloc (Nat.le_refl _) _
 have hx0 : Boxed W0 w.heap.size 74 (.slice none 0 0) := by rw [← hW0]; exact Boxed.new _ _ _
 have h00 : Coll w [] W0 := ⟨⟨_, hx0, ⟨rfl, .inl ⟨rfl, rfl⟩⟩, trivial⟩, hb0⟩
 clear hW0 hx0
 refine rangeFunc_steps rfl (by omega) (gf := 129) (lb := #[.pointer (some ⟨Bs, 0, none⟩)]) rfl trivial (enters_of Tryz.func129 (by kernel_rfl) rfl)
  hseq (fun A B k hst _ => by rw [hst]) (fun h k x hx => (k x hx).trans (h x hx))
  (fun W l o o' hl _ _ _ x hx => World.putObj_heap_other (by omega))
  hb0 (fun _ => rfl)
  (Coll w) (fun _ _ _ => False) (Coll.own w _ (by omega)) (fun c s W W' row h _ _ => h.elim)
  (fun pre A B h hst => by rw [← hst]; exact h) (fun c pre A B h _ => h.elim) h00
  (fun x => { tmps := #[.slice none 0 0, .func (.func 129) #[] #[.pointer (some ⟨Bs, 0, none⟩)], .pointer (some ⟨w.heap.size, 0, none⟩), undef, .slice none 0 0, .string (bs x), .func (.func 129) #[] #[.pointer (some ⟨Bs, 0, none⟩)], .string (bs x), undef, undef, undef, undef, undef], defers := [] }) ?assign ?body ?done ?stop
 case assign =>
  intro l x W K hK
  gi_wp2
  exact hK
 case body =>
  rintro l pre x W ⟨⟨v, hv, hrow, -⟩, hB⟩ hlen
  have hcl := hv.cell
  have hfr := hv.frozen
  have hne : 74 ≠ 9 := by decide
  have hs : w.heap.size ≤ W.heap.size := hB.size
  have hpl := HD.out
  have HV := Lib.hid hv
  have HR := Lib.hid hrow
  have HB := Lib.hid hB
  obtain ⟨sx, hsx⟩ : ∃ s, bs x = s := ⟨_, rfl⟩
  have HX := Lib.hid hsx
  rw [hsx]
  clear hseq hv hrow hB hsx
  gi_wp2_with (first
   | (gi_at_builtin; refine wpListIn_append_own _ rfl _ _ 74 rfl w.heap.size 9 i0 (.string ⟨#[]⟩) 1 16 Tryz.underlying74 hi hz0 hz1 hz2 rfl (by decide) v pre.length _ rfl (HR.out.alloc _) ⟨W.heap.size, 0, none⟩ 1 1 [.string sx] rfl rfl ?_ ?_ ?_ ?_ ?_ ?_; (exact fun j u hu => World.news_of_block (heap_new W _) j u hu); (simp [Value.oneCell']); (unfold maxLen; omega); (omega); (simp; omega); intro v' w1 hown hgrow _; obtain ⟨g', cap', rfl⟩ := ownsRow_succ hown; have HA := Lib.hid (HV.out.appended hne HR.out hs (Nat.le_refl _) hown hgrow); have ka := HA.out.1.cell; have kb := HA.out.1.frozen; clear hown hgrow)
   | gi_in)
  obtain ⟨-, q2, q3, q4, q5⟩ := HA.out
  refine ⟨q4, fun k hk => q5.block k hk, ⟨⟨_, q2, ?_, trivial⟩, HB.out.trans q5⟩⟩
  rw [svs_snoc, List.length_append, HX.out]
  exact q3
 case done =>
  rintro Dd ys W hDd hys ⟨⟨v, hv, hrow, -⟩, hB⟩ hK
  obtain rfl : ys = D := hys
  have hcl := hv.cell
  gi_wp2
  refine ⟨by simp, .inl ⟨_, _, rfl, run_takeDeferred hK, ?_⟩⟩
  refine ⟨_, results_tmp rfl _ _ _, v, rfl, ?_⟩
  refine Kp.one (hB.trans (belowK_b (w := w) (Nat.le_refl _) W Dd _ _ (by omega) hK rfl rfl)) (ownsRow_putObj hrow _ hK rfl)
 case stop =>
  rintro Dd c pre W hDd hpre h hK
  exact h.elim
set_option maxHeartbeats 2000000 in
theorem collect_any (D : List (List UInt8)) (Bs : Nat) (v : Value) (w : World) (hBs : w.heap[Bs]? = some (.cells #[v] 74 (0, 0))) (hV : StrV w v D) (hD : D.length ≤ 1000000) :
 Calls Tryz.prog 127 #[.func (.func 129) #[] #[.pointer (some ⟨Bs, 0, none⟩)]] w fun e w' => ∃ tv, e = .returned tv ∧ Kp [] [⟨tv, 9, 1, D.length, D.map sv⟩] w w' := by
 have C := Lib.hid (appendSeq_any D Bs v w hBs hV hD)
 clear hBs hV hD
 go_enter Tryz.func127, Tryz.ntmps127
 go_wp2_with (go_at_call 164; refine C.out.mono ?_; rintro e w1 ⟨tv, rfl, hk⟩)
 go_ret
 exact ⟨tv, rfl, hk⟩
set_option maxHeartbeats 2000000 in
theorem values_any (a : Option Addr) (n c : Nat) (w : World) : Calls Tryz.prog 83 #[.slice a n c] w fun e w' =>
 e = .returned (.func (.func 129) #[] #[.pointer (some ⟨w.heap.size, 0, none⟩)]) ∧ w.alloc (.cells #[.slice a n c] 74) = w' := by
 go_enter Tryz.func83, Tryz.ntmps83
 go_wp2
 go_ret
 exact ⟨rfl, rfl⟩
end Go.Proofs.YtkpmmabdpeobaaaGreatDoor.Px
