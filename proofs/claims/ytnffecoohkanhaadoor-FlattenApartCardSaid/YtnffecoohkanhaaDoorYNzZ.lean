/- name.Zone: which strings are names of zones. -/
import Derived.Test.YtnffecoohkanhaaDoorM3
import Derived.Laws.EntriesVeiled
namespace Go.Proofs.YtnffecoohkanhaaDoor
open Go.RowKit Go.Shelf
attribute [local go_sem] Oper.semAt_some

/-- below B, but for the block x, the world is as it was -/
structure BelowBut (x B : Nat) (w w' : World) : Prop where
  os : w'.os = w.os
  tape : w'.tape = w.tape
  output : w'.output = w.output
  size : w.heap.size ≤ w'.heap.size
  block : ∀ k, k < B → k ≠ x → w'.heap[k]? = w.heap[k]?
theorem BelowBut.refl (x B : Nat) (w : World) : BelowBut x B w w := ⟨rfl, rfl, rfl, Nat.le_refl _, fun _ _ _ => rfl⟩
theorem BelowBut.store {x B : Nat} {w A : World} (h : BelowBut x B w A) (v : Value) : BelowBut x B w (A.setCell ⟨x, 0, none⟩ v) :=
  ⟨h.os, h.tape, h.output, by simp [World.setCell]; exact h.size, fun k hk hx => (heap_setCell_other _ _ _ _ hx).trans (h.block k hk hx)⟩
theorem BelowBut.drewN {x B : Nat} {w A : World} (h : BelowBut x B w A) (n : Nat) : BelowBut x B w (A.drewN n) := ⟨h.os, h.tape, h.output, h.size, h.block⟩
theorem BelowBut.below {x B B' : Nat} {w A : World} (h : BelowBut x B w A) (hB : B' ≤ B) (hx : B' ≤ x) : Below B' w A :=
  ⟨h.os, h.tape, h.output, h.size, fun k hk => h.block k (by omega) (by omega)⟩
theorem BelowBut.own {β : Type} {x B : Nat} {w : World} (hB : B ≤ w.heap.size) : OwnFrom B (fun (_ : β) A => BelowBut x B w A) :=
  fun _ A A' row h hg hr => ⟨hg.os.trans h.os, hg.tape.trans h.tape, hg.output.trans h.output, Nat.le_trans h.size hg.size, fun k hk hx =>
    (hg.block k (by have := h.size; omega) (fun e => by have := (hr k e.symm).1; omega)).trans (h.block k hk hx)⟩
theorem BelowBut.cell {x B : Nat} {w A : World} (h : BelowBut x B w A) {b o : Nat} (hb : b < B) (hx : b ≠ x) : A.cell? ⟨b, o, none⟩ = w.cell? ⟨b, o, none⟩ := by
  simp only [World.cell?, h.block b hb hx]
theorem BelowBut.frozen {x B : Nat} {w A : World} (h : BelowBut x B w A) {b o : Nat} (hb : b < B) (hx : b ≠ x) : A.frozen? ⟨b, o, none⟩ = w.frozen? ⟨b, o, none⟩ := by
  simp only [World.frozen?, h.block b hb hx]

theorem splitSeq57 (s sep : ByteArray) (w : World) :
    Calls Tryd.prog 80 #[.string s, .string sep, .int .i64 0] w fun e w' =>
      e = .returned (.func (.func 92) #[] #[.pointer (some ⟨w.heap.size + 1, 0, none⟩), .pointer (some ⟨w.heap.size, 0, none⟩), .pointer (some ⟨w.heap.size + 2, 0, none⟩)]) ∧
      ((w.alloc (.cells #[.string s] 9)).alloc (.cells #[.string sep] 9)).alloc (.cells #[.int .i64 0] 3) = w' := by
  go_enter Tryd.func80, Tryd.ntmps80
  go_wp2
  go_ret
  exact ⟨rfl, rfl⟩
theorem splitSeq39 (s sep : ByteArray) (w : World) :
    Calls Tryd.prog 70 #[.string s, .string sep] w fun e w' =>
      e = .returned (.func (.func 92) #[] #[.pointer (some ⟨w.heap.size + 1, 0, none⟩), .pointer (some ⟨w.heap.size, 0, none⟩), .pointer (some ⟨w.heap.size + 2, 0, none⟩)]) ∧
      ((w.alloc (.cells #[.string s] 9)).alloc (.cells #[.string sep] 9)).alloc (.cells #[.int .i64 0] 3) = w' := by
  go_enter Tryd.func70, Tryd.ntmps70
  go_wp2_with (go_at_call 80; refine (splitSeq57 _ _ _).mono ?_; rintro e w' ⟨rfl, rfl⟩)
  go_ret
  exact ⟨rfl, rfl⟩

/-- the bytes of a part of a zone's name -/
def partP (n : Nat) : Bool := letB n || digB n || decide (n = 95) || decide (n = 45) || decide (n = 46) || decide (n = 43)
def partOk (l : List UInt8) : Bool := ofOk 1 14 partP l && !(l.headD 0 == 46) && !(l.headD 0 == 45)
def zoneOk (l : List UInt8) : Bool := decide (l.length ≤ 60) && (splitB 47 l).all partOk
theorem kind31 (n : Nat) : (bits BinOp.and IntKind.u8 (kindOf n) 31 == 0) = !(partP n) := by
  unfold kindOf partP
  have b1 : (bits BinOp.and IntKind.u8 1 31 == 0) = false := by kernel_rfl
  have b2 : (bits BinOp.and IntKind.u8 2 31 == 0) = false := by kernel_rfl
  have b4 : (bits BinOp.and IntKind.u8 4 31 == 0) = false := by kernel_rfl
  have b8 : (bits BinOp.and IntKind.u8 8 31 == 0) = false := by kernel_rfl
  have b16 : (bits BinOp.and IntKind.u8 16 31 == 0) = false := by kernel_rfl
  have b0 : (bits BinOp.and IntKind.u8 0 31 == 0) = true := by kernel_rfl
  cases letB n
  · cases digB n
    · by_cases h3 : n = 95
      · rw [h3]; exact b4
      · by_cases h4 : n = 45
        · rw [h4]; exact b8
        · by_cases h5 : n = 46
          · rw [h5]; exact b16
          · by_cases h6 : n = 43
            · rw [h6]; exact b16
            · simp only [h3, h4, h5, h6, decide_false, Bool.false_or, if_false, Bool.false_eq_true, b0, Bool.not_false]
    · exact b2
  · exact b1

theorem ofOk_pos {most : Int} {p : Nat → Bool} {x : ByteArray} (h : ofOk 1 most p x.data.toList = true) : 0 < x.size := by
  unfold ofOk at h
  simp only [Bool.and_eq_true, decide_eq_true_eq, len_eq] at h
  omega

theorem keepsOthers_drewN (W : World) (n : Nat) : KeepsOthers W (W.drewN n) := ⟨Nat.le_refl _, fun _ _ h _ => h⟩
theorem kept3_drewN (x y z : Nat) (W : World) (n : Nat) : Kept3 x y z W (W.drewN n) := ⟨rfl, rfl, rfl⟩
theorem not_good {s : ByteArray} {pre : List Piece} (r : List (List UInt8)) (h : lists pre ++ r = splitB 47 s.data.toList) (x : Piece) (hx : x ∈ pre) (hb : partOk x.1.data.toList = false ∨ 60 < s.size) : zoneOk s.data.toList = false := by
  unfold zoneOk
  rcases hb with hb | hb
  · have : (splitB 47 s.data.toList).all partOk = false := by
      rw [List.all_eq_false]
      refine ⟨x.1.data.toList, ?_, by simp [hb]⟩
      rw [← h]
      exact List.mem_append.2 (.inl (List.mem_map.2 ⟨x, hx, rfl⟩))
    rw [this, Bool.and_false]
  · rw [len_eq, decide_eq_false (by omega)]; rfl
theorem all_good {s : ByteArray} {xs : List Piece} (h : lists xs = splitB 47 s.data.toList) (hg : ∀ y ∈ xs, s.size ≤ 60 ∧ partOk y.1.data.toList = true) : zoneOk s.data.toList = true := by
  have hne : xs ≠ [] := fun e => splitB_ne 47 s.data.toList (by rw [← h, e]; rfl)
  obtain ⟨y, ys, rfl⟩ := List.exists_cons_of_ne_nil hne
  unfold zoneOk
  rw [len_eq, decide_eq_true (hg y (by simp)).1, Bool.true_and, List.all_eq_true]
  intro p hp
  rw [← h] at hp
  obtain ⟨z, hz, rfl⟩ := List.mem_map.1 hp
  exact (hg z hz).2
theorem closure_is (b : Bool) (least most mask : Int) (p : Nat → Bool) (hp : ∀ n, (bits BinOp.and IntKind.u8 (kindOf n) mask == 0) = !(p n)) (s : ByteArray) (hs : s.size ≤ maxLen)
    (a1 a2 a3 a4 : Nat) (w : World) (h1 : w.cell? ⟨a1, 0, none⟩ = some (.int .i64 least)) (h2 : w.cell? ⟨a2, 0, none⟩ = some (.int .i64 most))
    (h3 : ∀ n : Nat, n < 256 → w.cell? ⟨a3, n, none⟩ = some (.int .u8 (kindOf n))) (h4 : w.cell? ⟨a4, 0, none⟩ = some (.int .u8 mask)) (hb : ofOk least most p s.data.toList = b) :
    Calls Tryd.prog 79 #[.string s, .pointer (some ⟨a1, 0, none⟩), .pointer (some ⟨a2, 0, none⟩), .pointer (some ⟨a3, 0, none⟩), .pointer (some ⟨a4, 0, none⟩)] w fun e w' =>
      e = .returned (.bool b) ∧ ∃ n, w.drewN n = w' := by
  have h := closure_any least most mask p hp s hs a1 a2 a3 a4 w h1 h2 h3 h4
  rw [hb] at h
  exact h
theorem ofOk_len {least most : Int} {p : Nat → Bool} {x : ByteArray} (h : ofOk least most p x.data.toList = true) : (x.size : Int) ≤ most := by
  unfold ofOk at h
  simp only [Bool.and_eq_true, decide_eq_true_eq, len_eq] at h
  omega
theorem head0 {x : ByteArray} (h : 0 < x.size) : x.data.toList.headD 0 = x[0] := by
  obtain ⟨⟨l⟩⟩ := x
  cases l with
  | nil => simp [ByteArray.size] at h
  | cons a r => rfl
theorem u8_of_toNat {a : UInt8} {k : UInt8} : (a == k) = (a.toNat == k.toNat) := by
  rw [Bool.eq_iff_iff, beq_iff_eq, beq_iff_eq, UInt8.toNat_inj]

set_option maxHeartbeats 2000000 in
theorem zone_any (s : ByteArray) (hs : s.size ≤ maxLen) (w : World) :
    Calls Tryd.prog 50 #[.string s] w fun e w' => e = .returned (.bool (zoneOk s.data.toList)) ∧ Below w.heap.size w w' := by
  refine (callsIn_wide (n := 5)).1 ?_
  refine callsIn_of_wp_marks Tryd.func50 rfl trivial ?_ rfl
  simp only [Tryd.ntmps50, List.size_toArray, List.length_cons, List.length_nil, Nat.reduceAdd, Nat.reduceSub, Array.replicate_succ, Array.replicate_zero, List.push_toArray, List.append_toArray, List.nil_append, List.cons_append]
  gi_wp2_with (first | (refine ⟨trivial, ?_⟩; gi_at_call 69; refine (callsIn_wide.2 (of_any 1 14 31 _)).mono ?_; rintro e w1 ⟨v, rfl, ⟨a1, a2, a3, a4, rfl, c1, c2, c3, c4⟩, hb⟩; have C3 := Lib.hid c3; clear c3; have hz : w.heap.size + 1 < w1.heap.size := (by have := hb.size; simp at this; omega); have hz0 : w.heap.size < w1.heap.size := (by omega); have e1 : w1.cell? ⟨w.heap.size, 0, none⟩ = some (.string s) := (hb.cell (p := ⟨w.heap.size, 0, none⟩) (by simp; omega)).trans (by go_simp); have e2 : w1.cell? ⟨w.heap.size + 1, 0, none⟩ = some (.bool false) := (hb.cell (p := ⟨w.heap.size + 1, 0, none⟩) (by simp)).trans (by go_simp); have e3 : w1.frozen? ⟨w.heap.size + 1, 0, none⟩ = false := (hb.frozen (p := ⟨w.heap.size + 1, 0, none⟩) (by simp)).trans (by go_simp)) | (refine ⟨trivial, ?_⟩; gi_at_call 70; refine (callsIn_wide.2 (splitSeq39 _ _ _)).mono ?_; rintro e w' ⟨rfl, rfl⟩))
  have k1 := block_lt_of_cell c1
  have k2 := block_lt_of_cell c2
  have k3 := block_lt_of_cell (C3.out 0 (by omega))
  have k4 := block_lt_of_cell c4
  simp only at k1 k2 k3 k4
  have hBw : Below w.heap.size w w1 := (((Below.refl _ w).alloc (Nat.le_refl _) _).alloc (by simp) _).trans (hb.mono (by simp; omega))
  generalize hW0 : World.alloc (World.alloc (World.alloc (World.alloc w1 _) _) _) _ = W0
  have hzW : W0.heap.size = w1.heap.size + 4 := by rw [← hW0]; simp
  have hBW : Below w.heap.size w W0 := by
    rw [← hW0]
    exact (((hBw.alloc (by omega) _).alloc (by simp; omega) _).alloc (by simp; omega) _).alloc (by simp; omega) _
  have keep : ∀ k : Nat, k < w1.heap.size → ∀ o : Nat, W0.cell? ⟨k, o, none⟩ = w1.cell? ⟨k, o, none⟩ := by
    intro k hk o
    rw [← hW0, World.cell?_alloc_past _ _ _ (by first | omega | (simp; omega)), World.cell?_alloc_past _ _ _ (by first | omega | (simp; omega)), World.cell?_alloc_past _ _ _ (by first | omega | (simp; omega)), World.cell?_alloc_past _ _ _ (by first | omega | (simp; omega))]
  have f1 : W0.cell? ⟨w.heap.size, 0, none⟩ = some (.string s) := (keep _ hz0 0).trans e1
  have f2 : W0.cell? ⟨w.heap.size + 1, 0, none⟩ = some (.bool false) := (keep _ hz 0).trans e2
  have f3 : W0.frozen? ⟨w.heap.size + 1, 0, none⟩ = false := by
    rw [← hW0, World.frozen?_alloc_past _ _ _ (by first | omega | (simp; omega)), World.frozen?_alloc_past _ _ _ (by first | omega | (simp; omega)), World.frozen?_alloc_past _ _ _ (by first | omega | (simp; omega)), World.frozen?_alloc_past _ _ _ (by first | omega | (simp; omega))]
    exact e3
  have f4 : W0.cell? ⟨w1.heap.size, 0, none⟩ = some (.func (.func 79) #[] #[.pointer (some ⟨a1, 0, none⟩), .pointer (some ⟨a2, 0, none⟩), .pointer (some ⟨a3, 0, none⟩), .pointer (some ⟨a4, 0, none⟩)]) := by
    rw [← hW0, World.cell?_alloc_past _ _ _ (by first | omega | (simp; omega)), World.cell?_alloc_past _ _ _ (by first | omega | (simp; omega)), World.cell?_alloc_past _ _ _ (by first | omega | simp), World.cell?_alloc_at _ _ _ _ rfl]
    rfl
  have d1 := (keep _ k1 0).trans c1
  have d2 := (keep _ k2 0).trans c2
  have d4 := (keep _ k4 0).trans c4
  have D3 : Hid (∀ n : Nat, n < 256 → W0.cell? ⟨a3, n, none⟩ = some (.int .u8 (kindOf n))) := fun n hn => (keep _ k3 n).trans (C3.out n hn)
  have h1 : W0.heap[w1.heap.size + 1]? = some (.cells #[.string s] 9) := by
    rw [← hW0, Below.heap_alloc _ _ _ (by simp), Below.heap_alloc _ _ _ (by simp), heap_alloc_at (by simp)]
  have h2 : W0.heap[w1.heap.size + 1 + 1]? = some (.cells #[.string ⟨#[47]⟩] 9) := by
    rw [← hW0, Below.heap_alloc _ _ _ (by simp), heap_alloc_at (by simp)]
  have h3 : W0.heap[w1.heap.size + 1 + 2]? = some (.cells #[.int .i64 0] 3) := by
    rw [← hW0, heap_alloc_at (by simp)]
  clear hW0 keep e1 e2 e3 c1 c2 c4 C3 hb hBw
  refine rangeFunc_steps rfl (by omega) (gf := 92) (lb := #[.pointer (some ⟨w1.heap.size + 1 + 1, 0, none⟩), .pointer (some ⟨w1.heap.size + 1, 0, none⟩), .pointer (some ⟨w1.heap.size + 1 + 2, 0, none⟩)]) rfl trivial (enters_of Tryd.func92 (by kernel_rfl) rfl)
    (splitSeq_steps 4 (by omega) (w1.heap.size + 1 + 1) (w1.heap.size + 1) (w1.heap.size + 1 + 2) (by omega) (by omega) 47 s hs W0 h2 h1 h3)
    (fun A B k hst hk => by obtain ⟨v, rfl⟩ := hst; exact heap_setCell_other _ _ _ _ (by simp; omega))
    (fun h k => ⟨k.1.trans h.1, k.2.1.trans h.2.1, k.2.2.trans h.2.2⟩)
    (fun W l o o' hl _ _ _ => ⟨World.putObj_heap_other (by omega), World.putObj_heap_other (by omega), World.putObj_heap_other (by omega)⟩)
    (Below.refl _ _) (fun _ => rfl)
    (fun pre W => (∀ y ∈ pre, s.size ≤ 60 ∧ partOk y.1.data.toList = true) ∧ BelowBut (w1.heap.size + 1) W0.heap.size W0 W)
    (fun c pre W => ((c = .ret ∧ ∃ y ∈ pre, partOk y.1.data.toList = false ∨ 60 < s.size) ∧ W.cell? ⟨w.heap.size + 1, 0, none⟩ = some (.bool false)) ∧ Below w.heap.size w W)
    (OwnFrom.and (ownFrom_pure _ (fun pre : List Piece => ∀ y ∈ pre, s.size ≤ 60 ∧ partOk y.1.data.toList = true)) (BelowBut.own (Nat.le_refl _)))
    (fun c => OwnFrom.and (Own.from (fun s A B row hs hg hr => ⟨hs.1, cell_kept hs.2 hg hr⟩) _) (ownFrom_below (Nat.le_refl _) (by omega)))
    (fun pre A B h hst => by obtain ⟨v, rfl⟩ := hst; exact ⟨h.1, h.2.store v⟩)
    (fun c pre A B h hst => by
      obtain ⟨v, rfl⟩ := hst
      exact ⟨⟨h.1.1, by rw [← h.1.2]; exact World.cell?_of_block (heap_setCell_other _ _ _ _ (by simp; omega))⟩, h.2.setCell (p := ⟨w1.heap.size + 1, 0, none⟩) (by simp; omega) v⟩)
    ⟨by simp, BelowBut.refl _ _ _⟩
    (fun x => { tmps := #[.string s, .pointer (some ⟨w.heap.size, 0, none⟩), .pointer (some ⟨w.heap.size + 1, 0, none⟩), .pointer (some ⟨w1.heap.size, 0, none⟩), .string x.1,
      .func (.func 79) #[] #[.pointer (some ⟨a1, 0, none⟩), .pointer (some ⟨a2, 0, none⟩), .pointer (some ⟨a3, 0, none⟩), .pointer (some ⟨a4, 0, none⟩)], .string s,
      .func (.func 92) #[] #[.pointer (some ⟨w1.heap.size + 1 + 1, 0, none⟩), .pointer (some ⟨w1.heap.size + 1, 0, none⟩), .pointer (some ⟨w1.heap.size + 1 + 2, 0, none⟩)], .string x.1,
      undef, undef, undef, undef, undef, undef, undef, undef, undef, undef, undef, undef, undef, undef, undef, undef, undef, undef, undef], defers := [] }) ?assign ?body ?done ?stop
  case assign =>
    intro l x W K hK
    gi_wp2
    exact hK
  case body =>
    rintro l pre ⟨x, hx⟩ W ⟨hp, hB⟩ _
    have b1 := (hB.cell (b := w.heap.size) (o := 0) (by omega) (by omega)).trans f1
    have b2 := (hB.cell (b := w.heap.size + 1) (o := 0) (by omega) (by omega)).trans f2
    have b3 := (hB.frozen (b := w.heap.size + 1) (o := 0) (by omega) (by omega)).trans f3
    have b4 := (hB.cell (b := w1.heap.size) (o := 0) (by omega) (by omega)).trans f4
    have q1 := (hB.cell (b := a1) (o := 0) (by omega) (by omega)).trans d1
    have q2 := (hB.cell (b := a2) (o := 0) (by omega) (by omega)).trans d2
    have q4 := (hB.cell (b := a4) (o := 0) (by omega) (by omega)).trans d4
    have Q3 : Hid (∀ n : Nat, n < 256 → W.cell? ⟨a3, n, none⟩ = some (.int .u8 (kindOf n))) := fun n hn => (hB.cell (b := a3) (o := n) (by omega) (by omega)).trans (D3.out n hn)
    have hbl : Below w.heap.size w W := hBW.trans (hB.below (by omega) (by omega))
    have hst : ∀ (V : World), W.setCell ⟨w.heap.size + 1, 0, none⟩ (.bool false) = V → KeepsOthers W V ∧ V.cell? ⟨w.heap.size + 1, 0, none⟩ = some (.bool false) ∧ Below w.heap.size W V := by
      rintro V rfl
      exact ⟨KeepsOthers.setCell _ _ _, World.cell?_setCell_same' _ _ _ (by rw [b2]; rfl), (Below.refl _ _).setCell (p := ⟨w.heap.size + 1, 0, none⟩) (by simp) _⟩
    have hst2 : ∀ (n : Nat) (V : World), (W.drewN n).setCell ⟨w.heap.size + 1, 0, none⟩ (.bool false) = V → KeepsOthers W V ∧ V.cell? ⟨w.heap.size + 1, 0, none⟩ = some (.bool false) ∧ Below w.heap.size W V := by
      rintro n V rfl
      exact ⟨(keepsOthers_drewN W n).trans (KeepsOthers.setCell _ _ _), World.cell?_setCell_same' _ _ _ (by rw [World.cell?_drewN, b2]; rfl), (below_drewN (Below.refl _ _) n).setCell (p := ⟨w.heap.size + 1, 0, none⟩) (by simp) _⟩
    have HS := Lib.hid (And.intro hst hst2)
    clear hst hst2
    by_cases h60 : 60 < s.size
    · gi_wp2
      all_goals (refine ⟨fun _ h => (by cases h), ?_⟩; gi_wp2)
      all_goals (obtain ⟨x1, x2, x3⟩ := HS.out.1 _ rfl; exact ⟨x1, ⟨⟨rfl, ⟨x, hx⟩, List.mem_append.2 (.inr (by simp)), .inr h60⟩, x2⟩, hbl.trans x3⟩)
    · have hle : s.size ≤ 60 := by omega
      have h60' : decide ((60 : Int) < (s.size : Int)) = false := by simp; omega
      clear h60
      cases hok : ofOk 1 14 partP x.data.toList
      · have hbad : partOk x.data.toList = false := by unfold partOk; rw [hok]; rfl
        have HK := Lib.hid hok
        have HX := Lib.hid hbad
        clear hok hbad
        gi_wp2_with (refine ⟨trivial, ?_⟩; gi_at_call 79; refine (CallsIn.inRound l (callsIn_wide.2 (closure_is false 1 14 31 partP kind31 x hx a1 a2 a3 a4 W q1 q2 Q3.out q4 HK.out))).mono ?_; rintro e w' ⟨rfl, nn, rfl⟩)
        all_goals (obtain ⟨x1, x2, x3⟩ := HS.out.2 nn _ rfl; exact ⟨x1, ⟨⟨rfl, ⟨x, hx⟩, List.mem_append.2 (.inr (by simp)), .inl HX.out⟩, x2⟩, hbl.trans x3⟩)
      · have hpos := ofOk_pos hok
        have hx0 : (0 : Int) < (x.size : Int) := by omega
        have hd := head0 hpos
        have HK := Lib.hid hok
        by_cases h46 : x[0].toNat = 46
        · have hbad : partOk x.data.toList = false := by unfold partOk; rw [hok, hd, u8_of_toNat, h46]; rfl
          have HX := Lib.hid hbad
          have h46' : ((x[0].toNat : Int) == 46) = true := by rw [h46]; rfl
          clear hok hbad hd h46
          gi_wp2_with (refine ⟨trivial, ?_⟩; gi_at_call 79; refine (CallsIn.inRound l (callsIn_wide.2 (closure_is true 1 14 31 partP kind31 x hx a1 a2 a3 a4 W q1 q2 Q3.out q4 HK.out))).mono ?_; rintro e w' ⟨rfl, nn, rfl⟩)
          all_goals (obtain ⟨x1, x2, x3⟩ := HS.out.2 nn _ rfl; exact ⟨x1, ⟨⟨rfl, ⟨x, hx⟩, List.mem_append.2 (.inr (by simp)), .inl HX.out⟩, x2⟩, hbl.trans x3⟩)
        · have h46' : ((x[0].toNat : Int) == 46) = false := by rw [beq_eq_false_iff_ne]; omega
          by_cases h45 : x[0].toNat = 45
          · have hbad : partOk x.data.toList = false := by unfold partOk; rw [hok, hd, u8_of_toNat, u8_of_toNat, h45]; rfl
            have HX := Lib.hid hbad
            have h45' : ((x[0].toNat : Int) == 45) = true := by rw [h45]; rfl
            clear hok hbad hd h45 h46
            gi_wp2_with (refine ⟨trivial, ?_⟩; gi_at_call 79; refine (CallsIn.inRound l (callsIn_wide.2 (closure_is true 1 14 31 partP kind31 x hx a1 a2 a3 a4 W q1 q2 Q3.out q4 HK.out))).mono ?_; rintro e w' ⟨rfl, nn, rfl⟩)
            all_goals (obtain ⟨x1, x2, x3⟩ := HS.out.2 nn _ rfl; exact ⟨x1, ⟨⟨rfl, ⟨x, hx⟩, List.mem_append.2 (.inr (by simp)), .inl HX.out⟩, x2⟩, hbl.trans x3⟩)
          · have h45' : ((x[0].toNat : Int) == 45) = false := by rw [beq_eq_false_iff_ne]; omega
            have hgood : partOk x.data.toList = true := by
              unfold partOk
              rw [hok, hd, u8_of_toNat, u8_of_toNat, beq_eq_false_iff_ne.2 (show x[0].toNat ≠ (46 : UInt8).toNat from h46), beq_eq_false_iff_ne.2 (show x[0].toNat ≠ (45 : UInt8).toNat from h45)]
              rfl
            have HX := Lib.hid hgood
            clear hok hgood hd h45 h46
            gi_wp2_with (refine ⟨trivial, ?_⟩; gi_at_call 79; refine (CallsIn.inRound l (callsIn_wide.2 (closure_is true 1 14 31 partP kind31 x hx a1 a2 a3 a4 W q1 q2 Q3.out q4 HK.out))).mono ?_; rintro e w' ⟨rfl, nn, rfl⟩)
            all_goals (exact ⟨keepsOthers_drewN W nn, kept3_drewN _ _ _ W nn, fun y hy => (List.mem_append.1 hy).elim (hp y) (fun e => by simp at e; subst e; exact ⟨by omega, HX.out⟩), hB.drewN nn⟩)
  case done =>
    rintro D ys W hD hys ⟨hg, hB⟩ hK
    have b2 := (hB.cell (b := w.heap.size + 1) (o := 0) (by omega) (by omega)).trans f2
    have b3 := (hB.frozen (b := w.heap.size + 1) (o := 0) (by omega) (by omega)).trans f3
    have hbl : Below w.heap.size w W := hBW.trans (hB.below (by omega) (by omega))
    gi_wp2
    have hK' := (KeepsOthers.setCell W ⟨w.heap.size + 1, 0, none⟩ (.bool true)).same D _ hK rfl
    refine ⟨by simp, .inl ⟨_, _, rfl, run_takeDeferred hK', ?_⟩⟩
    have hc5 := cell_kept (World.cell?_setCell_same' W ⟨w.heap.size + 1, 0, none⟩ (.bool true) (by rw [b2]; rfl)) (grownBy_putObj' _ D (.deferred none)) (fun r e => by cases e; exact ⟨_, hK', rfl⟩)
    refine ⟨.bool true, ?_, by rw [all_good hys hg], (hbl.setCell (p := ⟨w.heap.size + 1, 0, none⟩) (by simp) _).trans (belowK_b (w := w) (Nat.le_refl _) _ D _ _ (by omega) hK' rfl rfl)⟩
    simp [results, Tryd.f50, go_sem, hc5]
  case stop =>
    rintro D c pre W hD ⟨r, hpre⟩ ⟨⟨⟨rfl, y, hy, hbad⟩, hcr⟩, hB⟩ hK
    gi_wp2
    refine ⟨by simp, .inl ⟨_, _, rfl, run_takeDeferred hK, ?_⟩⟩
    have hc5 := cell_kept hcr (grownBy_putObj' _ D (.deferred none)) (fun r e => by cases e; exact ⟨_, hK, rfl⟩)
    refine ⟨.bool false, ?_, by rw [not_good r hpre y hy hbad], hB.trans (belowK_b (w := w) (Nat.le_refl _) W D _ _ (by omega) hK rfl rfl)⟩
    simp [results, Tryd.f50, go_sem, hc5]
end Go.Proofs.YtnffecoohkanhaaDoor
