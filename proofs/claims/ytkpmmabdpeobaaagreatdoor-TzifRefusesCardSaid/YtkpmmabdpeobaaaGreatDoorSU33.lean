/- Blocks whose contents are known, slices and maps that a call owns, kept over calls, new blocks, stores and appends. The different elements of a list and their indexes, plain, for whatever elements; as a map from keys says them. No program in sight. Stable sorting, plain: exchanges in rows, the split of two sorted rows, blocks. No program in sight. The library's stable sort at strings: exchanges of rows. The function pool.different at strings: the different strings of a list, and the indexes. slices.ContainsFunc at strings, for any predicate that leaves the world as it is. -/
import Derived.Test.YtkpmmabdpeobaaaGreatDoorSU14
import Derived.Test.YtkpmmabdpeobaaaGreatDoorSU4
import Derived.Test.YtkpmmabdpeobaaaGreatDoorSU5
import Derived.Test.YtkpmmabdpeobaaaGreatDoorSU7
import Derived.Test.YtkpmmabdpeobaaaGreatDoorSU20
import Derived.Test.YtkpmmabdpeobaaaGreatDoorSU23
import Derived.Test.YtkpmmabdpeobaaaGreatDoorProg
import Derived.WalkKit
import Derived.WalkSpells
import Derived.WalkLawsBesides
import Derived.Lib.Hide
import Derived.Deep.QuietTactic
import Derived.BigQuiet
import Derived.Outline
import Derived.OneCell
import Derived.Deep.AppendLies
import Derived.Maps.OwnSet
import Derived.Maps.RangeWalk
import Derived.Test.YtkpmmabdpeobaaaGreatDoorSU16
import Derived.Test.YtkpmmabdpeobaaaGreatDoorSU32
import Derived.Sort.Defs
import Derived.BigRegion
import Derived.Deep.Cut
import Derived.Deep.DeepCutAuto
import Derived.Deep.LoopGhost
import Derived.Shelf.RegionOpenPlain
import Derived.Laws.EntriesVeiled
namespace Go.Proofs.YtkpmmabdpeobaaaGreatDoor.Px
open Go.RowKit
theorem below_drewN {B : Nat} {a w : World} (h : Below B a w) (n : Nat) : Below B a (w.drewN n) := ⟨h.os, h.tape, h.output, h.size, h.block⟩
theorem take_set {cur : Array Value} {m i : Nat} {u : Value} : (cur.setIfInBounds i u).toList.take m = (cur.toList.take m).set i u := by
 rw [Array.toList_setIfInBounds, List.take_set]
theorem Kp.put {L : List (Nat × Obj)} {R : List Rw} {w X : World} {g n cap N sz : Nat} {e : TypeId} {xs : List Value} (h : Kp L (⟨.slice (some ⟨g, 0, none⟩) n cap, e, sz, N, xs⟩ :: R) w X) (h0 : 0 < N) (i : Nat) (u : Value) :
 Kp L (⟨.slice (some ⟨g, 0, none⟩) n cap, e, sz, N, xs.set i u⟩ :: R) w (X.setCell ⟨g, i, none⟩ u) := by
 obtain ⟨g', cap', cur, hv, hk, h1, h2, h3, h4⟩ := h.known_of h0
 simp only [Value.slice.injEq, Option.some.injEq, Addr.mk.injEq, and_true] at hv
 obtain ⟨rfl, rfl, rfl⟩ := hv
 have h5 := (hk.set 0 rfl i u rfl).own_block sz n cap h1 h2 (by rw [Array.size_setIfInBounds]; exact h3)
 rw [take_set, h4] at h5
 exact h5
theorem Kp.free {L : List (Nat × Obj)} {R : List Rw} {w X : World} {g n cap N sz : Nat} {e : TypeId} {xs : List Value} (h : Kp L (⟨.slice (some ⟨g, 0, none⟩) n cap, e, sz, N, xs⟩ :: R) w X) (h0 : 0 < N) (i : Nat) : X.frozen? ⟨g, i, none⟩ = false := by
 obtain ⟨g', cap', cur, hv, hk, h1, h2, h3, h4⟩ := h.known_of h0
 simp only [Value.slice.injEq, Option.some.injEq, Addr.mk.injEq, and_true] at hv
 obtain ⟨rfl, _, _⟩ := hv
 exact free_at (hk.at 0 rfl) i
end Go.Proofs.YtkpmmabdpeobaaaGreatDoor.Px
namespace Go.Proofs.YtkpmmabdpeobaaaGreatDoor.Px
open Go.RowKit
section
variable {α : Type}
theorem nodupA_snoc {ts : List α} {y : α} (h : ts.Nodup) (hy : y ∉ ts) : (ts ++ [y]).Nodup := by
 rw [List.nodup_append]
 exact ⟨h, by simp, fun x hx z hz => by
  rw [List.mem_singleton] at hz
  subst hz
  intro e
  exact hy (e ▸ hx)⟩
variable (key : α → Lit)
def idxA (out : List α) (x : Lit) : Option (DataW Unit) := out.zipIdx.foldl (fun o p => if x.sameKey (key p.1) = true then some (.lit (.int .i64 (p.2 : Int))) else o) none
theorem idxA_snoc (out : List α) (l : α) : idxA key (out ++ [l]) = fun x => if x.sameKey (key l) = true then some (.lit (.int .i64 (out.length : Int))) else idxA key out x := by
 funext x
 unfold idxA
 rw [List.zipIdx_append, List.foldl_append]
 simp
theorem snocA_ind {P : List α → Prop} (h0 : P []) (h1 : ∀ l x, P l → P (l ++ [x])) (l : List α) : P l := by
 have : ∀ (n : Nat) (l : List α), l.length = n → P l := by
  intro n
  induction n with
  | zero => intro l hl; rw [List.length_eq_zero_iff.1 hl]; exact h0
  | succ n ih =>
    intro l hl
    have hne : l ≠ [] := by intro e; rw [e] at hl; cases hl
    rw [← List.dropLast_concat_getLast hne]
    exact h1 _ _ (ih _ (by rw [List.length_dropLast]; omega))
 exact this _ l rfl
end
section
variable {α : Type} [DecidableEq α]
def posA (out : List α) (x : α) : Nat := out.idxOf x
def diffA (out : List α) : List α → List α × List Nat
 | [] => (out, [])
 | x :: r => if x ∈ out then ((diffA out r).1, posA out x :: (diffA out r).2) else ((diffA (out ++ [x]) r).1, out.length :: (diffA (out ++ [x]) r).2)
theorem diffA_snoc : ∀ (l ts : List α) (x : α), diffA ts (l ++ [x]) = if x ∈ (diffA ts l).1 then ((diffA ts l).1, (diffA ts l).2 ++ [posA (diffA ts l).1 x]) else ((diffA ts l).1 ++ [x], (diffA ts l).2 ++ [(diffA ts l).1.length])
 | [], ts, x => by by_cases h : x ∈ ts <;> simp [diffA, h]
 | y :: r, ts, x => by
   rw [List.cons_append]
   by_cases h : y ∈ ts
   · simp only [diffA, if_pos h]
     rw [diffA_snoc r ts x]
     by_cases h2 : x ∈ (diffA ts r).1
     · rw [if_pos h2, if_pos h2]; rfl
     · rw [if_neg h2, if_neg h2]; rfl
   · simp only [diffA, if_neg h]
     rw [diffA_snoc r _ x]
     by_cases h2 : x ∈ (diffA (ts ++ [y]) r).1
     · rw [if_pos h2, if_pos h2]; rfl
     · rw [if_neg h2, if_neg h2]; rfl
theorem diffA_len : ∀ (l ts : List α), (diffA ts l).2.length = l.length ∧ (diffA ts l).1.length ≤ ts.length + l.length
 | [], ts => ⟨rfl, Nat.le_refl _⟩
 | y :: r, ts => by
   by_cases h : y ∈ ts
   · obtain ⟨a, b⟩ := diffA_len r ts
     simp only [diffA, if_pos h, List.length_cons]
     omega
   · obtain ⟨a, b⟩ := diffA_len r (ts ++ [y])
     simp only [List.length_append, List.length_singleton] at b
     simp only [diffA, if_neg h, List.length_cons]
     omega
theorem diffA_nodup : ∀ (l ts : List α), ts.Nodup → (diffA ts l).1.Nodup
 | [], ts, h => h
 | y :: r, ts, h => by
   by_cases hy : y ∈ ts
   · simp only [diffA, if_pos hy]
     exact diffA_nodup r ts h
   · simp only [diffA, if_neg hy]
     exact diffA_nodup r _ (nodupA_snoc h hy)
theorem diffA_pre : ∀ (l ts : List α), ∃ us, (diffA ts l).1 = ts ++ us
 | [], ts => ⟨[], by simp [diffA]⟩
 | y :: r, ts => by
   by_cases hy : y ∈ ts
   · simp only [diffA, if_pos hy]
     exact diffA_pre r ts
   · simp only [diffA, if_neg hy]
     obtain ⟨us, h⟩ := diffA_pre r (ts ++ [y])
     exact ⟨y :: us, by rw [h]; simp⟩
theorem diffA_at : ∀ (l ts : List α) (i : Nat) (x : α), l[i]? = some x → ∃ j, (diffA ts l).2[i]? = some j ∧ (diffA ts l).1[j]? = some x
 | [], _, _, _, h => by simp at h
 | y :: r, ts, i, x, h => by
   by_cases hy : y ∈ ts
   · simp only [diffA, if_pos hy]
     cases i with
     | zero =>
       simp only [List.getElem?_cons_zero, Option.some.injEq] at h
       subst h
       refine ⟨posA ts y, rfl, ?_⟩
       obtain ⟨us, e⟩ := diffA_pre r ts
       have hl := List.idxOf_lt_length_of_mem hy
       unfold posA
       rw [e, List.getElem?_append_left hl, List.getElem?_eq_getElem hl, List.getElem_idxOf hl]
     | succ i => exact diffA_at r ts i x (by simpa using h)
   · simp only [diffA, if_neg hy]
     cases i with
     | zero =>
       simp only [List.getElem?_cons_zero, Option.some.injEq] at h
       subst h
       refine ⟨ts.length, rfl, ?_⟩
       obtain ⟨us, e⟩ := diffA_pre r (ts ++ [y])
       rw [e, List.append_assoc, List.getElem?_append_right (Nat.le_refl _), Nat.sub_self]
       rfl
     | succ i => exact diffA_at r (ts ++ [y]) i x (by simpa using h)
theorem idxA_at (key : α → Lit) (hk : ∀ a b : α, (key a).sameKey (key b) = true ↔ a = b) (l : α) (out : List α) (hn : out.Nodup) : idxA key out (key l) = if l ∈ out then some (.lit (.int .i64 (posA out l : Int))) else none := by
 revert hn
 refine snocA_ind (P := fun out => out.Nodup → idxA key out (key l) = if l ∈ out then some (.lit (.int .i64 (posA out l : Int))) else none) (fun _ => by simp [idxA]) (fun out y ih hn => ?_) out
 rw [List.nodup_append] at hn
 have hy : y ∉ out := fun hm => hn.2.2 y hm y (by simp) rfl
 have ih' := ih hn.1
 rw [idxA_snoc]
 dsimp only
 by_cases e : l = y
 · subst e
   unfold posA
   rw [if_pos ((hk l l).2 rfl), if_pos (by simp), List.idxOf_append, if_neg hy]
   simp
 · rw [if_neg (fun h => e ((hk l y).1 h)), ih']
   by_cases hm : l ∈ out
   · unfold posA
     rw [if_pos hm, if_pos (List.mem_append_left _ hm), List.idxOf_append, if_pos hm]
   · rw [if_neg hm, if_neg (by
       intro h
       rcases List.mem_append.1 h with h | h
       · exact hm h
       · rw [List.mem_singleton] at h
         exact e h)]
end
end Go.Proofs.YtkpmmabdpeobaaaGreatDoor.Px
namespace Go.Proofs.YtkpmmabdpeobaaaGreatDoor.St
open Go.Sort
section
variable {α : Type} {k : α → Int}
theorem le_take {l : List α} (h : l.Pairwise (fun x y => k x ≤ k y)) {s : Nat} {x : α} (hs : 0 < s) (hx : l[s - 1]? = some x) : ∀ z ∈ l.take s, k z ≤ k x := by
 intro z hz
 obtain ⟨i, hi, rfl⟩ := List.mem_iff_getElem.1 hz
 rw [List.length_take] at hi
 obtain ⟨hl, rfl⟩ := List.getElem?_eq_some_iff.1 hx
 rw [List.getElem_take]
 rcases Nat.lt_or_ge i (s - 1) with hlt | hge
 · exact (List.pairwise_iff_getElem.1 h) i (s - 1) (by omega) hl hlt
 · have : i = s - 1 := by omega
   subst this
   exact Int.le_refl _
theorem le_drop {l : List α} (h : l.Pairwise (fun x y => k x ≤ k y)) {s : Nat} {y : α} (hy : l[s]? = some y) : ∀ z ∈ l.drop s, k y ≤ k z := by
 intro z hz
 obtain ⟨i, hi, rfl⟩ := List.mem_iff_getElem.1 hz
 rw [List.length_drop] at hi
 obtain ⟨hl, rfl⟩ := List.getElem?_eq_some_iff.1 hy
 rw [List.getElem_drop]
 rcases Nat.eq_zero_or_pos i with rfl | hp
 · exact Int.le_refl _
 · exact (List.pairwise_iff_getElem.1 h) s (s + i) hl (by omega) (by omega)
theorem stb_first {x : α} {B : List α} {s : Nat} (hB : B.Pairwise (fun x y => k x ≤ k y)) (h1 : ∀ z ∈ B.take s, k z < k x) (h2 : ∀ z ∈ B.drop s, k x ≤ k z) : Stb k ([x] ++ B) (B.take s ++ x :: B.drop s) := by
 have := Stb.join (k := k) (A1 := []) (A2 := [x]) (B1 := B.take s) (B2 := B.drop s) (C1 := B.take s) (C2 := x :: B.drop s) (Stb.self (by simpa using hB.sublist (List.take_sublist ..)))
  (Stb.self (List.pairwise_cons.2 ⟨h2, hB.sublist (List.drop_sublist ..)⟩)) (fun x hx => by cases hx)
  (fun a ha b hb => by
   have := List.take_append_drop s B ▸ hB
   exact (List.pairwise_append.1 this).2.2 a ha b hb)
  (fun x hx => by cases hx) (fun b hb y hy => by rw [List.mem_singleton] at hy; subst hy; exact h1 b hb)
 simpa using this
theorem stb_last {y : α} {A : List α} {s : Nat} (hA : A.Pairwise (fun x y => k x ≤ k y)) (h1 : ∀ z ∈ A.take s, k z ≤ k y) (h2 : ∀ z ∈ A.drop s, k y < k z) : Stb k (A ++ [y]) (A.take s ++ y :: A.drop s) := by
 have hsp := List.pairwise_append.1 (List.take_append_drop s A ▸ hA)
 have := Stb.join (k := k) (A1 := A.take s) (A2 := A.drop s) (B1 := [y]) (B2 := []) (C1 := A.take s ++ [y]) (C2 := A.drop s)
  (Stb.self (List.pairwise_append.2 ⟨hsp.1, List.pairwise_singleton _ _, fun a ha b hb => by rw [List.mem_singleton] at hb; subst hb; exact h1 a ha⟩))
  (by rw [List.append_nil]; exact Stb.self hsp.2.1) (fun a ha b hb => hsp.2.2 a ha b hb) (fun _ _ _ hb => by cases hb) (fun _ _ _ hb => by cases hb)
  (fun b hb a ha => by rw [List.mem_singleton] at hb; subst hb; exact h2 a ha)
 simpa using this
theorem stb_split {A B C1 C2 : List α} {s e : Nat} (hA : A.Pairwise (fun x y => k x ≤ k y)) (hB : B.Pairwise (fun x y => k x ≤ k y))
 (h1 : s = 0 ∨ B.length ≤ e ∨ ∃ x y, A[s - 1]? = some x ∧ B[e]? = some y ∧ k x ≤ k y) (h2 : e = 0 ∨ A.length ≤ s ∨ ∃ x y, A[s]? = some x ∧ B[e - 1]? = some y ∧ k y < k x)
 (c1 : Stb k (A.take s ++ B.take e) C1) (c2 : Stb k (A.drop s ++ B.drop e) C2) : Stb k (A ++ B) (C1 ++ C2) := by
 have hsA := List.pairwise_append.1 (List.take_append_drop s A ▸ hA)
 have hsB := List.pairwise_append.1 (List.take_append_drop e B ▸ hB)
 have := Stb.join (k := k) c1 c2 hsA.2.2 hsB.2.2 (fun x hx y hy => by
  rcases h1 with rfl | h1 | ⟨u, v, hu, hv, huv⟩
  · simp at hx
  · rw [List.drop_eq_nil_of_le h1] at hy; cases hy
  · rcases Nat.eq_zero_or_pos s with rfl | hs
    · simp at hx
    · have q1 := le_take hA hs hu x hx
      have q2 := le_drop hB hv y hy
      omega) (fun x hx y hy => by
  rcases h2 with rfl | h2 | ⟨u, v, hu, hv, huv⟩
  · simp at hx
  · rw [List.drop_eq_nil_of_le h2] at hy; cases hy
  · rcases Nat.eq_zero_or_pos e with rfl | he
    · simp at hx
    · have q1 := le_take hB he hv x hx
      have q2 := le_drop hA hu y hy
      omega)
 rwa [List.take_append_drop, List.take_append_drop] at this
end
end Go.Proofs.YtkpmmabdpeobaaaGreatDoor.St
namespace Go.Proofs.YtkpmmabdpeobaaaGreatDoor.Px
open Go.RowKit
open St
def sv (s : List UInt8) : Value := .string (bs s)
def rowS (g n cap : Nat) (D : List (List UInt8)) : Rw := ⟨.slice (some ⟨g, 0, none⟩) n cap, 9, 1, n, D.map sv⟩
theorem rows_swap {P M Q : List (List UInt8)} {x y : List UInt8} {i j : Nat} (hi : P.length = i) (hj : P.length + 1 + M.length = j) :
 (((P ++ x :: (M ++ y :: Q)).map sv).set i (sv y)).set j (sv x) = (P ++ y :: (M ++ x :: Q)).map sv := by
 simp only [List.map_append, List.map_cons]
 rw [List.set_append_right _ _ (by rw [List.length_map]; omega), List.length_map, hi, Nat.sub_self, List.set_cons_zero, List.set_append_right _ _ (by rw [List.length_map]; omega), List.length_map, hi]
 rw [show j - i = M.length + 1 by omega, List.set_cons_succ, List.set_append_right _ _ (by rw [List.length_map]; exact Nat.le_refl _), List.length_map, Nat.sub_self, List.set_cons_zero]
theorem rows_at {P Q : List (List UInt8)} {x : List UInt8} {i : Nat} (hi : P.length = i) : ((P ++ x :: Q).map sv)[i]? = some (sv x) := by
 rw [List.map_append, List.getElem?_append_right (by rw [List.length_map]; omega), List.length_map, hi, Nat.sub_self]
 rfl
theorem Kp.swapS {L : List (Nat × Obj)} {R : List Rw} {W X : World} {g n cap : Nat} {P M Q : List (List UInt8)} {x y : List UInt8} {i j : Nat} (h : Kp L (rowS g n cap (P ++ x :: (M ++ y :: Q)) :: R) W X) (hn : 0 < n) (hi : P.length = i) (hj : P.length + 1 + M.length = j) :
 X.cell? ⟨g, i, none⟩ = some (sv x) ∧ X.cell? ⟨g, j, none⟩ = some (sv y) ∧ X.frozen? ⟨g, i, none⟩ = false ∧ X.frozen? ⟨g, j, none⟩ = false ∧ (X.setCell ⟨g, i, none⟩ (sv y)).cell? ⟨g, j, none⟩ = some (sv y) ∧
  Kp L (rowS g n cap (P ++ y :: (M ++ x :: Q)) :: R) W ((X.setCell ⟨g, i, none⟩ (sv y)).setCell ⟨g, j, none⟩ (sv x)) := by
 have e : P ++ x :: (M ++ y :: Q) = (P ++ x :: M) ++ y :: Q := by simp
 have h1 := h.put hn i (sv y)
 have h2 := h1.put hn j (sv x)
 have a1 := rows_at (x := x) (Q := M ++ y :: Q) hi
 have a2 : ((P ++ x :: (M ++ y :: Q)).map sv)[j]? = some (sv y) := by
  rw [e]
  exact rows_at (by rw [List.length_append, List.length_cons]; omega)
 refine ⟨own_cell (h.row 0 rfl) a1, own_cell (h.row 0 rfl) a2, h.free hn i, h.free hn j, own_cell (h1.row 0 rfl) ?_, ?_⟩
 · rw [List.getElem?_set_ne (by omega)]
   exact a2
 · rw [rows_swap hi hj] at h2
   exact h2
set_option maxHeartbeats 8000000 in
set_option maxRecDepth 100000 in
theorem swapRange_any (P X M Y Q : List (List UInt8)) (cv : Value) (g n cap a b c : Nat) (L : List (Nat × Obj)) (R : List Rw) (W w : World) (h : Kp L (rowS g n cap (P ++ X ++ M ++ Y ++ Q) :: R) W w)
 (ha : P.length = a) (hb : P.length + c + M.length = b) (hX : X.length = c) (hY : Y.length = c) (hn : (P ++ X ++ M ++ Y ++ Q).length = n) (hb' : n ≤ 4611686018427387904) :
 Calls Tryz.prog 233 #[.slice (some ⟨g, 0, none⟩) n cap, .int .i64 (a : Int), .int .i64 (b : Int), .int .i64 (c : Int), cv] w fun e w' => e = .returned (.tuple #[]) ∧ Kp L (rowS g n cap (P ++ Y ++ M ++ X ++ Q) :: R) W w' := by
 have HK := Lib.hid (show Kp L (rowS g n cap (P ++ (Y.take 0 ++ X.drop 0) ++ M ++ (X.take 0 ++ Y.drop 0) ++ Q) :: R) W w by simpa using h)
 have hl : P.length + c + M.length + c + Q.length = n := by rw [← hn]; simp only [List.length_append]; omega
 have HL := Lib.hid (And.intro ha (And.intro hb (And.intro hX (And.intro hY hl))))
 clear h ha hb hX hY hn hl
 go_enter Tryz.func233, Tryz.ntmps233
 go_wp2
 go_loopw [10] (fun v10 wr => ∃ i : Nat, i ≤ c ∧ v10 = .int .i64 i ∧ Kp L (rowS g n cap (P ++ (Y.take i ++ X.drop i) ++ M ++ (X.take i ++ Y.drop i) ++ Q) :: R) W wr) (fun v10 _ => c - (intOf v10).toNat)
 case atStart => exact ⟨0, by omega, rfl, HK.out⟩
 case round =>
  obtain ⟨i, hi, rfl, hK⟩ := hrel
  have HK2 := Lib.hid hK
  clear hK HK
  obtain ⟨ha, hb, hX, hY, hl⟩ := HL.out
  by_cases hlt : i < c
  · have h1 : X.drop i = X[i]'(by omega) :: X.drop (i + 1) := List.drop_eq_getElem_cons (by omega)
    have h2 : Y.drop i = Y[i]'(by omega) :: Y.drop (i + 1) := List.drop_eq_getElem_cons (by omega)
    have h3 : X.take (i + 1) = X.take i ++ [X[i]'(by omega)] := List.take_succ_eq_append_getElem (by omega)
    have h4 : Y.take (i + 1) = Y.take i ++ [Y[i]'(by omega)] := List.take_succ_eq_append_getElem (by omega)
    obtain ⟨x, hx⟩ : ∃ x, X[i]'(by omega) = x := ⟨_, rfl⟩
    obtain ⟨y, hy⟩ : ∃ y, Y[i]'(by omega) = y := ⟨_, rfl⟩
    rw [hx] at h1 h3
    rw [hy] at h2 h4
    have hd : P ++ (Y.take i ++ X.drop i) ++ M ++ (X.take i ++ Y.drop i) ++ Q = (P ++ Y.take i) ++ x :: ((X.drop (i + 1) ++ M ++ X.take i) ++ y :: (Y.drop (i + 1) ++ Q)) := by
     rw [h1, h2]; simp only [List.append_assoc, List.cons_append]
    have he : P ++ (Y.take (i + 1) ++ X.drop (i + 1)) ++ M ++ (X.take (i + 1) ++ Y.drop (i + 1)) ++ Q = (P ++ Y.take i) ++ y :: ((X.drop (i + 1) ++ M ++ X.take i) ++ x :: (Y.drop (i + 1) ++ Q)) := by
     rw [h3, h4]; simp only [List.append_assoc, List.cons_append, List.nil_append]
    obtain ⟨ai, hai⟩ : ∃ k, a + i = k := ⟨_, rfl⟩
    obtain ⟨bi, hbi⟩ : ∃ k, b + i = k := ⟨_, rfl⟩
    have hKi := HK2.out
    rw [hd] at hKi
    obtain ⟨c1, c2, f1, f2, c3, hK3⟩ := hKi.swapS (i := ai) (j := bi) (by omega) (by rw [List.length_append, List.length_take]; omega) (by simp only [List.length_append, List.length_take, List.length_drop]; omega)
    rw [← he] at hK3
    unfold sv at c1 c2 c3 hK3
    have K3 := Lib.hid hK3
    have j1 : (i : Int) < (c : Int) := by omega
    have w1 : IntKind.i64.wrap ((a : Int) + (i : Int)) = (ai : Int) := by rw [IntWalk.i64_in _ (by omega)]; omega
    have w2 : IntKind.i64.wrap ((b : Int) + (i : Int)) = (bi : Int) := by rw [IntWalk.i64_in _ (by omega)]; omega
    have b1 : (ai : Int) < (n : Int) := by omega
    have b2 : (bi : Int) < (n : Int) := by omega
    have hic : i ≤ 4611686018427387904 := by omega
    clear h1 h2 h3 h4 hx hy hd he hKi hK3 HK2 hX hY hl ha hb hai hbi
    obtain ⟨sx, hsx⟩ : ∃ s, bs x = s := ⟨_, rfl⟩
    obtain ⟨sy, hsy⟩ : ∃ s, bs y = s := ⟨_, rfl⟩
    rw [hsx] at c1
    rw [hsy] at c2 c3
    rw [hsx, hsy] at K3
    clear hsx hsy
    have mixed : Tryz.prog.follows Departure.mixedOrders = true := by kernel_rfl
    go_upto_region 3 with fail
    go_big_region_o
    go_wp2_with fail
    go_roundw
    case rel => exact ⟨i + 1, by omega, by go_num, K3.out.drew⟩
    case measure => simp [intOf]; omega
  · obtain rfl : i = c := by omega
    go_wp2
    go_end0
    have hf := HK2.out
    rw [List.take_of_length_le (by omega), List.take_of_length_le (by omega), List.drop_eq_nil_of_le (by omega), List.drop_eq_nil_of_le (by omega), List.append_nil, List.append_nil] at hf
    exact ⟨rfl, hf⟩
end Go.Proofs.YtkpmmabdpeobaaaGreatDoor.Px
namespace Go.Proofs.YtkpmmabdpeobaaaGreatDoor.Px
open Go.RowKit
open Go.Maps (Keyed)
def StrV (W : World) (v : Value) (L : List (List UInt8)) : Prop := SlV W v 1 L.length (L.map sv)
theorem StrV.keep {W W' : World} {v : Value} {L : List (List UInt8)} (h : StrV W v L) (hB : Below W.heap.size W W') : StrV W' v L := SlV.keep h hB
theorem StrV.slice {W : World} {v : Value} {L : List (List UInt8)} (h : StrV W v L) : ∃ a c, v = .slice a L.length c ∧ L.length ≤ c ∧ c ≤ maxLen := by
 obtain ⟨_, a, c, e, h1, h2, _⟩ := h
 exact ⟨a, c, e, h1, h2⟩
theorem StrV.all {W : World} {v : Value} {L : List (List UInt8)} (h : StrV W v L) (h0 : 0 < L.length) : ∃ b o c, v = .slice (some ⟨b, o, none⟩) L.length c ∧ L.length ≤ c ∧ c ≤ maxLen ∧ b < W.heap.size ∧
 ∀ (i : Nat) (x : List UInt8), L[i]? = some x → W.cell? ⟨b, o + i, none⟩ = some (.string (bs x)) := by
 obtain ⟨_, a, c, e, h1, h2, h3⟩ := h
 rcases h3 with h3 | ⟨b, o, ea, hb, hc⟩
 · omega
 · subst ea
   exact ⟨b, o, c, e, h1, h2, hb, fun i x hx => hc i _ (by rw [List.getElem?_map, hx]; rfl)⟩
theorem info_parts' {t : TypeId} {z : Value} {m b : Nat} (h : (Tryz.prog.info? t).map (fun i => (i.zero, i.size, i.bytes)) = some (some z, m, b)) : ∃ i, Tryz.prog.info? t = some i ∧ i.zero = some z ∧ i.size = m ∧ i.bytes = b := by
 cases e : Tryz.prog.info? t with
 | none => rw [e] at h; cases h
 | some i =>
   rw [e] at h
   simp only [Option.map_some, Option.some.injEq, Prod.mk.injEq] at h
   exact ⟨i, rfl, h.1, h.2.1, h.2.2⟩
theorem infoS : (Tryz.prog.info? 9).map (fun i => (i.zero, i.size, i.bytes)) = some (some (.string ⟨#[]⟩), 1, 16) := by kernel_rfl
theorem svs_snoc (l : List (List UInt8)) (x : List UInt8) : (l ++ [x]).map sv = l.map sv ++ [.string (bs x)] := by simp [sv]
def keyS (l : List UInt8) : Lit := .string l
theorem keyS_same (a b : List UInt8) : (keyS a).sameKey (keyS b) = true ↔ a = b := ⟨fun h => by have := WideAt.sameKey_eq h; unfold keyS at this; simpa using this, fun e => by rw [e]; exact WideAt.sameKey_self trivial⟩
theorem keyS_is {l : List UInt8} (h : l.length ≤ maxLen) : keyOf Tryz.prog 9 (.string (bs l)) = some (keyS l) := strKey_is (s := bs l) h
def dsR (v5 v6 : Value) (O : List (List UInt8)) (I : List Nat) : List Rw := [⟨v5, 9, 1, O.length, O.map sv⟩, ⟨v6, 3, 1, I.length, nInt I⟩]
def Ds (L : List (List UInt8)) (W : World) (i : Nat) (v5 v6 : Value) (X : World) : Prop :=
 ∃ n D, n ≤ i ∧ Km [] (dsR v5 v6 (diffA [] (L.take i)).1 (diffA [] (L.take i)).2) [⟨W.heap.size, 9, 3, n, D⟩] W X ∧ FnOf D (idxA keyS (diffA [] (L.take i)).1)
set_option maxHeartbeats 8000000 in
set_option maxRecDepth 100000 in
theorem diffS_any (L : List (List UInt8)) (v : Value) (W : World) (h : StrV W v L) (hf : ∀ l ∈ L, l.length ≤ maxLen) (hmax : L.length ≤ 1000000) :
 Calls Tryz.prog 76 #[v] W fun e w' => ∃ tv iv, e = .returned (.tuple #[tv, iv]) ∧ Kp [] (dsR tv iv (diffA [] L).1 (diffA [] L).2) W w' := by
 obtain ⟨a, c, rfl, hc1, hc2⟩ := h.slice
 have hall := fun h0 => h.all h0
 obtain ⟨n, hn⟩ : ∃ n, L.length = n := ⟨_, rfl⟩
 rw [hn] at hall hmax hc1 ⊢
 unfold maxLen at hc2
 have HA := Lib.hid hall
 have HN := Lib.hid hn
 have HF := Lib.hid hf
 have K0 := Lib.hid ((((Km.of (Kp.start W)).made 9 3).fresh 3 1).fresh 9 1)
 have T0 := Lib.hid (show Ds L W 0 (.slice none 0 0) (.slice none 0 0) _ from ⟨0, _, Nat.le_refl _, K0.out, FnOf.empty⟩)
 have hmm := fun (n : Int) (w : World) => run_makeMap_hint (P := Tryz.prog) Tryz.underlying132 n w
 obtain ⟨i0, hi, hz0, hz1, hz2⟩ := info_parts' infoS
 obtain ⟨j0, hj, hy0, hy1, hy2⟩ := info_parts' infoI
 clear h hall hn hf K0
 go_enter Tryz.func76, Tryz.ntmps76
 go_wp2_with fail
 go_loopw [5, 6, 8, 9, 10, 16] (fun v5 v6 _ _ _ i16 wr => ∃ i : Nat, i ≤ n ∧ i16 = .int .i64 i ∧ Ds L W i v5 v6 wr) (fun _ _ _ _ _ i16 _ => n - (intOf i16).toNat)
 case atStart => exact ⟨0, by omega, rfl, T0.out⟩
 case round =>
  obtain ⟨i, hi', rfl, hT⟩ := hrel
  obtain ⟨nm, D, hnm, hK, hD⟩ := hT
  obtain ⟨⟨O, I⟩, hO⟩ : ∃ p, diffA [] (L.take i) = p := ⟨_, rfl⟩
  rw [hO] at hK hD
  dsimp only [dsR] at hK hD
  obtain ⟨a5, c5, rfl⟩ : ∃ a c, u5 = .slice a O.length c := own_slice (hK.kp.row 0 rfl)
  have HK := Lib.hid hK
  have HD := Lib.hid hD
  have HO := Lib.hid hO
  have hlen := diffA_len (L.take i) []
  have hI : I.length = i := by
   rw [hO] at hlen
   rw [hlen.1, List.length_take, HN.out]
   omega
  have hOl : O.length ≤ i := by
   rw [hO] at hlen
   have := hlen.2
   rw [List.length_take, HN.out] at this
   simp at this
   omega
  clear hK hD hO hlen
  by_cases hlt : i < n
  · obtain ⟨b, o, c', e1, _, _, hb, hcell⟩ := HA.out (by omega)
    simp only [Value.slice.injEq] at e1
    obtain ⟨rfl, _, rfl⟩ := e1
    obtain ⟨l, hl⟩ : ∃ l, L[i]? = some l := ⟨_, List.getElem?_eq_getElem (by have := HN.out; omega)⟩
    have c0 := hcell i l hl
    have k0 := (HK.out.below.cell (p := ⟨b, o + i, none⟩) hb).trans c0
    have hbw : b < wr.heap.size := Nat.lt_of_lt_of_le hb HK.out.below.size
    have HFit := Lib.hid (HF.out l (List.mem_of_getElem? hl))
    have HLi := Lib.hid hl
    have hnO : O.Nodup := by
     have := diffA_nodup (L.take i) [] List.nodup_nil
     rw [HO.out] at this
     exact this
    have HS := Lib.hid (idxA_at keyS keyS_same l O hnO)
    have HL := Lib.hid (show diffA [] (L.take (i + 1)) = if l ∈ O then (O, I ++ [posA O l]) else (O ++ [l], I ++ [O.length]) by
     rw [List.take_add_one, HLi.out]
     show diffA [] (L.take i ++ [l]) = _
     rw [diffA_snoc, HO.out]
     dsimp only
     by_cases q : l ∈ O
     · rw [if_pos q, if_pos q]
     · rw [if_neg q, if_neg q])
    have hkey := Lib.hid (keyS_is HFit.out)
    clear c0 hl hcell hnO hmm
    obtain ⟨sl, hsl⟩ : ∃ s, bs l = s := ⟨_, rfl⟩
    rw [hsl] at k0 hkey
    have HSl := Lib.hid hsl
    clear hsl
    by_cases hm : l ∈ O
    · rw [if_pos hm] at HS HL
      obtain ⟨x, hx⟩ : ∃ x, posA O l = x := ⟨_, rfl⟩
      rw [hx] at HS HL
      have hS1 : (idxA keyS O (keyS l)).getD (.lit (.int .i64 0)) = .lit (.int .i64 (x : Int)) := by rw [HS.out]; rfl
      have hS2 : (idxA keyS O (keyS l)).isSome = true := by rw [HS.out]; rfl
      have HS1 := Lib.hid hS1
      have HS2 := Lib.hid hS2
      have K1 := Lib.hid (HK.out.swap.allocAt wr.heap.size rfl (.cells #[.int .i64 (x : Int)] 3))
      clear hS1 hS2 hm hx
      go_wp2_with (first
       | (at_lookup; refine wpList_look_ok_int _ rfl _ _ 132 rfl 9 3 .i64 str_keyed Tryz.underlying132 Tryz.underlying3 (zero_int _) W.heap.size nm D (idxA keyS O) HD.out rfl (HK.out.map _ (List.mem_cons_self ..)) _ (keyS l) rfl hkey.out (x : Int) HS1.out true HS2.out ?_)
       | (at_builtin; refine wpList_append_own_at _ rfl (.tmp 37) (.tmp 39) 45 rfl W.heap.size 3 j0 (.int .i64 0) 1 8 Tryz.underlying45 hj hy0 hy1 hy2 rfl (by decide) _ I.length _ rfl (K1.out.kp.row 0 rfl) ⟨wr.heap.size, 0, none⟩ 1 1 [.int .i64 (x : Int)] rfl rfl ?c1 ?c2 ?c3 ?c4 ?c5 ?_; (case c1 => exact World.news_of_block (K1.out.kp.at 0 rfl)); (case c2 => simp [Value.oneCell']); (case c3 => unfold maxLen; omega); (case c4 => omega); (case c5 => exact K1.out.below.size); intro v' w1 hown hgrow _ hat; have K2 := Lib.hid (K1.out.append hown hgrow hat).drop.swap; clear hown hgrow hat)
       | go_in)
      go_roundw
      case rel =>
       refine ⟨i + 1, by omega, by go_num, ?_⟩
       unfold Ds
       rw [HL.out]
       refine ⟨nm, D, by omega, ?_, HD.out⟩
       dsimp only [dsR]
       rw [nInt_snoc, List.length_append]
       exact K2.out
      case measure => simp [intOf]; omega
    · rw [if_neg hm] at HS HL
      have hS1 : (idxA keyS O (keyS l)).getD (.lit (.int .i64 0)) = .lit (.int .i64 0) := by rw [HS.out]; rfl
      have hS2 : (idxA keyS O (keyS l)).isSome = false := by rw [HS.out]; rfl
      have HS1 := Lib.hid hS1
      have HS2 := Lib.hid hS2
      clear hS1 hS2 hm
      have hwf : (Lit.int .i64 (O.length : Int)).wf = true := wf_64 (by omega)
      have hnml : nm < maxLen := by unfold maxLen; omega
      have hval := Lib.hid (plainElem_int (H := Unit) (P := Tryz.prog) (q := .i64) Tryz.underlying3 hwf)
      have KE := Lib.hid (HK.out.allocAt wr.heap.size rfl (.cells #[.string sl] 9))
      go_wp2_with (first
       | (at_lookup; refine wpList_look_ok_int _ rfl _ _ 132 rfl 9 3 .i64 str_keyed Tryz.underlying132 Tryz.underlying3 (zero_int _) W.heap.size nm D (idxA keyS O) HD.out rfl (HK.out.map _ (List.mem_cons_self ..)) _ (keyS l) rfl hkey.out 0 HS1.out false HS2.out ?_)
       | (at_builtin; refine wpList_append_own_at _ rfl (.tmp 33) (.tmp 35) 74 rfl W.heap.size 9 i0 (.string ⟨#[]⟩) 1 16 Tryz.underlying74 hi hz0 hz1 hz2 rfl (by decide) _ O.length _ rfl (KE.out.kp.row 0 rfl) ⟨wr.heap.size, 0, none⟩ 1 1 [.string sl] rfl rfl ?c1 ?c2 ?c3 ?c4 ?c5 ?_; (case c1 => exact World.news_of_block (KE.out.kp.at 0 rfl)); (case c2 => simp [Value.oneCell']); (case c3 => unfold maxLen; omega); (case c4 => omega); (case c5 => exact KE.out.below.size); intro v' w1 hown hgrow _ hat; have K1 := Lib.hid (KE.out.append hown hgrow hat).drop; obtain ⟨u3, hu3, ou3, gu3⟩ := (K1.out.map _ (List.mem_cons_self ..)).update str_keyed Tryz.underlying132 hnml hkey.out hval.out; have KF := Lib.hid (K1.out.turn gu3 ou3); have K9 := Lib.hid (KF.out.swap.alloc (.cells #[.int .i64 (O.length : Int)] 3)); clear hown hgrow hat ou3 gu3)
       | (at_builtin; refine wpList_append_own_at _ rfl (.tmp 37) (.tmp 39) 45 rfl W.heap.size 3 j0 (.int .i64 0) 1 8 Tryz.underlying45 hj hy0 hy1 hy2 rfl (by decide) _ I.length _ rfl (K9.out.kp.row 0 rfl) _ 1 1 [.int .i64 (O.length : Int)] rfl rfl ?c1 ?c2 ?c3 ?c4 ?c5 ?_; (case c1 => exact World.news_of_block (K9.out.kp.at 0 rfl)); (case c2 => simp [Value.oneCell']); (case c3 => unfold maxLen; omega); (case c4 => omega); (case c5 => exact K9.out.below.size); intro v' w1 hown hgrow _ hat; have K2 := Lib.hid (K9.out.append hown hgrow hat).drop.swap; clear hown hgrow hat)
       | go_in)
      go_roundw
      case rel =>
       refine ⟨i + 1, by omega, by go_num, ?_⟩
       unfold Ds
       rw [HL.out]
       refine ⟨nm + 1, D.put (keyS l) (.lit (.int .i64 (O.length : Int))), by omega, ?_, ?_⟩
       · dsimp only [dsR]
         rw [nInt_snoc, svs_snoc, List.length_append, List.length_append, HSl.out]
         exact K2.out
       · rw [idxA_snoc]
         exact HD.out.put (k := keyS l) trivial _
      case measure => simp [intOf]; omega
  · obtain rfl : i = n := by omega
    have hLt : L.take i = L := List.take_of_length_le (by have := HN.out; omega)
    have hE : diffA [] L = (O, I) := by rw [← HO.out, hLt]
    have HE := Lib.hid hE
    clear hLt hE hmm
    go_wp2_with fail
    refine bodyPost_ret (v := .tuple #[.slice a5 O.length c5, u6]) (by simp [results, Tryz.results76, go_sem]) rfl ⟨_, _, rfl, ?_⟩
    rw [HE.out]
    exact HK.out.kp
end Go.Proofs.YtkpmmabdpeobaaaGreatDoor.Px
namespace Go.Proofs.YtkpmmabdpeobaaaGreatDoor.Px
open Go.RowKit
set_option maxHeartbeats 4000000 in
set_option maxRecDepth 100000 in
theorem indexFunc_any (k : Nat) (lb : Array Value) (f : List UInt8 → Bool) (L : List (List UInt8)) (v : Value) (W : World) (hV : StrV W v L) (ent : ∀ args w, (callFunc k args).run Tryz.prog w = .ok (.enter k args) w)
 (hf : ∀ l ∈ L, Calls Tryz.prog k (#[.string (bs l)] ++ lb) W fun e w' => e = .returned (.bool (f l)) ∧ W = w') (hmax : L.length ≤ 1000000) :
 Calls Tryz.prog 124 #[v, .func (.func k) #[] lb] W fun e w' => ∃ r : Int, e = .returned (.int .i64 r) ∧ decide (0 ≤ r) = L.any f ∧ W = w' := by
 obtain ⟨a, c, rfl, hc1, hc2⟩ := hV.slice
 have hall := fun h0 => hV.all h0
 obtain ⟨n, hn⟩ : ∃ n, L.length = n := ⟨_, rfl⟩
 rw [hn] at hall hmax hc1 ⊢
 unfold maxLen at hc2
 have HA := Lib.hid hall
 have HN := Lib.hid hn
 have HF := Lib.hid hf
 clear hV hall hn hf
 go_enter Tryz.func124, Tryz.ntmps124
 go_wp2_with fail
 go_loopw [5, 8] (fun _ v8 wr => ∃ i : Nat, i ≤ n ∧ v8 = .int .i64 (i : Int) ∧ (L.take i).any f = false ∧ W = wr) (fun _ v8 _ => n - (intOf v8).toNat)
 case atStart => exact ⟨0, by omega, rfl, rfl, rfl⟩
 case round =>
  obtain ⟨i, hi, rfl, hno, rfl⟩ := hrel
  have HNO := Lib.hid hno
  clear hno
  by_cases hlt : i < n
  · obtain ⟨b, o, c', e1, _, _, hb, hcell⟩ := HA.out (by omega)
    simp only [Value.slice.injEq] at e1
    obtain ⟨rfl, _, rfl⟩ := e1
    obtain ⟨x, hx⟩ : ∃ x, L[i]? = some x := ⟨_, List.getElem?_eq_getElem (by rw [HN.out]; exact hlt)⟩
    have k0 := hcell i x hx
    have C := Lib.hid (HF.out x (List.mem_of_getElem? hx))
    have ht := Lib.hid (show (L.take (i + 1)).any f = f x by rw [List.take_add_one, hx, List.any_append, HNO.out]; simp)
    have hgo := Lib.hid (show f x = true → L.any f = true from fun e => List.any_eq_true.2 ⟨x, List.mem_of_getElem? hx, e⟩)
    clear hcell hx
    obtain ⟨q, hq⟩ : ∃ q, f x = q := ⟨_, rfl⟩
    rw [hq] at C ht hgo
    clear hq
    cases q
    · go_wp2_with fail
      refine C.out.mono ?_
      rintro e w1 ⟨rfl, rfl⟩
      go_wp2_with fail
      go_roundw
      case rel => exact ⟨i + 1, by omega, by go_num, ht.out, (by first | trivial | rfl)⟩
      case measure => simp [intOf]; omega
    · go_wp2_with fail
      refine C.out.mono ?_
      rintro e w1 ⟨rfl, rfl⟩
      go_wp2_with fail
      refine bodyPost_ret (v := .int .i64 i) (by simp [results, Tryz.results124, go_sem]) rfl ⟨i, rfl, ?_, rfl⟩
      rw [hgo.out (by first | trivial | rfl)]
      simp
  · obtain rfl : i = n := by omega
    have hLt : L.take i = L := List.take_of_length_le (by have := HN.out; omega)
    have hno := HNO.out
    rw [hLt] at hno
    have HNO' := Lib.hid hno
    clear hLt hno
    go_wp2_with fail
    refine bodyPost_ret (v := .int .i64 (-1)) (by simp [results, Tryz.results124, go_sem]) rfl ⟨-1, rfl, ?_, rfl⟩
    rw [HNO'.out]
    rfl
set_option maxHeartbeats 2000000 in
theorem containsFunc_any (k : Nat) (lb : Array Value) (f : List UInt8 → Bool) (L : List (List UInt8)) (v : Value) (W : World) (hV : StrV W v L) (ent : ∀ args w, (callFunc k args).run Tryz.prog w = .ok (.enter k args) w)
 (hf : ∀ l ∈ L, Calls Tryz.prog k (#[.string (bs l)] ++ lb) W fun e w' => e = .returned (.bool (f l)) ∧ W = w') (hmax : L.length ≤ 1000000) :
 Calls Tryz.prog 73 #[v, .func (.func k) #[] lb] W fun e w' => e = .returned (.bool (L.any f)) ∧ W = w' := by
 have C := Lib.hid (indexFunc_any k lb f L v W hV ent hf hmax)
 obtain ⟨a, c, rfl, _, _⟩ := hV.slice
 clear hV hf
 go_enter Tryz.func73, Tryz.ntmps73
 go_wp2_with (go_at_call 124; refine C.out.mono ?_; rintro e w1 ⟨r, rfl, hr, rfl⟩; have HR := Lib.hid hr; clear hr)
 go_ret
 exact ⟨by rw [HR.out]; rfl, rfl⟩
end Go.Proofs.YtkpmmabdpeobaaaGreatDoor.Px
