/- Tables of changes, plain: which types and transitions are right, the table of some changes, indexes of instants; the program's way and the document's are the same. No program in sight. Tables of changes, plain: the table of changes that increase is right but for its footer; a right table is the table of its own changes. No program in sight. Blocks whose contents are known, kept over calls, new blocks and stores. Slices that a call owns (they grow by append), kept beside blocks whose contents are known, over calls, new blocks, stores and appends. Maps that a call makes, kept beside blocks whose contents are known and slices that the call owns. Maps that a call owns, read as functions on keys: what a look-up gives, what a store leaves; keys that are local times. Slices in memory whose elements have several cells, that read as lists. Tables that are handed to a law, opened; tables in memory. -/
import Derived.Test.YtkpmmabdpeobaaaGreatDoorSU5
import Derived.Test.YtkpmmabdpeobaaaGreatDoorSU7
import Derived.Test.YtkpmmabdpeobaaaGreatDoorSU4
import Derived.Deep.AppendLies
import Derived.Maps.OwnSet
import Derived.Maps.RangeWalk
import Derived.Maps.OwnOps
import Derived.Maps.Views
import Derived.DeepKeys4
import Derived.Test.YtkpmmabdpeobaaaGreatDoorSU13
import Derived.Lib.SmallJoins
import Derived.Deep.Slices
import Derived.Deep.Fields
import Derived.ChangeSame
namespace Go.Proofs.YtkpmmabdpeobaaaGreatDoor.Tb
open Px
structure Lc where
 off : Int
 dst : Bool
 abbr : ByteArray
 deriving DecidableEq
def Lc.val (l : Lc) : Value := .agg #[.int .i64 l.off, .bool l.dst, .string l.abbr]
def Lc.zero : Lc := ⟨0, false, bs []⟩
structure Tr where
 at' : Int
 ty : Int
 deriving DecidableEq
def Tr.val (x : Tr) : Value := .agg #[.int .i64 x.at', .int .i64 x.ty]
structure Tab where
 types : List Lc
 trans : List Tr
 foot : List UInt8
def lcE (l : Lc) : Int := if l.off < -54000 ∨ 54000 < l.off then 3 else if nameOk l.abbr.data.toList = false then 15 else 0
def typesGo (pre : List Lc) (n : Nat) : List Lc → Int
 | [] => if 255 < n then 7 else 0
 | l :: r => if lcE l ≠ 0 then lcE l else if l ∈ pre then 10 else typesGo (pre ++ [l]) (if pre.any (fun p => decide (p.abbr = l.abbr)) = true then n else n + l.abbr.size + 1) r
def typesE (ts : List Lc) : Int := if ts.length = 0 then 4 else if 254 < ts.length then 7 else typesGo [] 0 ts
def behindQ (last : Option Int) (t : Int) : Bool := match last with | some y => decide (t ≤ y) | none => false
def transGo (n : Int) (before most : Int) (last : Option Int) : List Tr → Int
 | [] => if most + 1 ≠ n then 4 else 0
 | x :: r => if x.at' < -36028797018963968 ∨ 36028797018963968 < x.at' then 3 else if behindQ last x.at' = true then 12
     else if x.ty < 0 ∨ n ≤ x.ty ∨ x.ty = before then 2 else if most + 1 < x.ty then 12 else transGo n x.ty (max most x.ty) (some x.at') r
def transE (x : Tab) : Int := transGo x.types.length 0 0 none x.trans
def Tab.last (x : Tab) : Tr := x.trans.getLast?.getD ⟨0, 0⟩
def atL (p : Pos) (t : Int) : Lc × Int :=
 if p.ok = false then (⟨0, false, ⟨#[]⟩⟩, 2)
 else if t < -36028797018963968 ∨ 36028797018963968 < t then (⟨0, false, ⟨#[]⟩⟩, 3)
 else if p.dst.toList.isEmpty = true then (⟨p.stdOff, false, p.std⟩, 0)
 else (if (lastP p t).2 = true then ⟨p.dstOff, true, p.dst⟩ else ⟨p.stdOff, false, p.std⟩, 0)
theorem at_is (p : Pos) (t : Int) : atP p t = ((atL p t).1.val, (atL p t).2) := by
 unfold atP atL
 split
 · rfl
 · split
   · rfl
   · split
     · rfl
     · cases (lastP p t).2 <;> rfl
def footE (x : Tab) : Int := if (finG rfF x.foot).2 ≠ 0 then (finG rfF x.foot).2
 else if atL (finG rfF x.foot).1 x.last.at' = (x.types.getD x.last.ty.toNat Lc.zero, 0) then 0 else 16
def checkE (x : Tab) : Int := if typesE x.types ≠ 0 then typesE x.types else if transE x ≠ 0 then transE x else footE x
structure TransOk (n : Int) (before most : Int) (last : Option Int) (l : List Tr) : Prop where
 rng : ∀ x ∈ l, -36028797018963968 ≤ x.at' ∧ x.at' ≤ 36028797018963968
 ty : ∀ x ∈ l, 0 ≤ x.ty ∧ x.ty < n
 inc : l.Pairwise (fun a b => a.at' < b.at')
 behind : ∀ y, last = some y → ∀ x ∈ l, y < x.at'
theorem transGo_ok {n : Int} : ∀ (l : List Tr) (before most : Int) (last : Option Int), transGo n before most last l = 0 → TransOk n before most last l
 | [], _, _, _, _ => ⟨(fun x hx => by cases hx), (fun x hx => by cases hx), List.Pairwise.nil, (fun _ _ x hx => by cases hx)⟩
 | x :: r, before, most, last, h => by
   unfold transGo at h
   by_cases h1 : x.at' < -36028797018963968 ∨ 36028797018963968 < x.at'
   · rw [if_pos h1] at h; cases h
   rw [if_neg h1] at h
   by_cases h2 : behindQ last x.at' = true
   · rw [if_pos h2] at h; cases h
   rw [if_neg h2] at h
   by_cases h3 : x.ty < 0 ∨ n ≤ x.ty ∨ x.ty = before
   · rw [if_pos h3] at h; cases h
   rw [if_neg h3] at h
   by_cases h4 : most + 1 < x.ty
   · rw [if_pos h4] at h; cases h
   rw [if_neg h4] at h
   have ih := transGo_ok r _ _ _ h
   refine ⟨fun y hy => ?_, fun y hy => ?_, List.pairwise_cons.2 ⟨fun y hy => ih.behind _ rfl y hy, ih.inc⟩, fun y hl z hz => ?_⟩
   · rcases List.mem_cons.1 hy with rfl | hy
     · omega
     · exact ih.rng y hy
   · rcases List.mem_cons.1 hy with rfl | hy
     · omega
     · exact ih.ty y hy
   · subst hl
     have hyx : y < x.at' := by
      have : ¬ x.at' ≤ y := by unfold behindQ at h2; simpa using h2
      omega
     rcases List.mem_cons.1 hz with rfl | hz
     · exact hyx
     · have := ih.behind _ rfl z hz
       omega
def diffGo (out : List Lc) : List Lc → List Lc × List Nat
 | [] => (out, [])
 | x :: r => if x ∈ out then ((diffGo out r).1, out.idxOf x :: (diffGo out r).2) else ((diffGo (out ++ [x]) r).1, out.length :: (diffGo (out ++ [x]) r).2)
def ofGo (ts : List Lc) (xs : List Tr) (before : Lc) : List (Int × Lc) → List Lc × List Tr
 | [] => (ts, xs)
 | (t, l) :: r => if l = before then ofGo ts xs before r else if l ∈ ts then ofGo ts (xs ++ [⟨t, ts.idxOf l⟩]) l r else ofGo (ts ++ [l]) (xs ++ [⟨t, ts.length⟩]) l r
def transOf (prev : Nat) : List Int → List Nat → List Tr
 | t :: at', k :: ks => if k = prev then transOf k at' ks else ⟨t, k⟩ :: transOf k at' ks
 | _, _ => []
theorem idxOf_inj {l : List Lc} {x y : Lc} (hx : x ∈ l) (hy : y ∈ l) (h : l.idxOf x = l.idxOf y) : x = y := by
 have h1 := List.idxOf_lt_length_of_mem hx
 have h2 := List.idxOf_lt_length_of_mem hy
 have e1 : l[l.idxOf x] = x := List.getElem_idxOf h1
 have e2 : l[l.idxOf y] = y := List.getElem_idxOf h2
 rw [← e1, ← e2]
 congr 1
theorem of_two : ∀ (at' : List Int) (l : List Lc) (ts : List Lc) (xs : List Tr) (b : Lc), at'.length = l.length → b ∈ ts →
 ofGo ts xs b (at'.zip l) = ((diffGo ts l).1, xs ++ transOf (ts.idxOf b) at' (diffGo ts l).2)
 | [], [], ts, xs, b, _, _ => by simp [ofGo, diffGo, transOf]
 | [], _ :: _, _, _, _, h, _ => by simp at h
 | _ :: _, [], _, _, _, h, _ => by simp at h
 | t :: at', x :: r, ts, xs, b, h, hb => by
   have hl : at'.length = r.length := by simpa using h
   rw [List.zip_cons_cons]
   unfold ofGo diffGo
   by_cases h1 : x = b
   · subst h1
     rw [if_pos rfl, if_pos hb]
     rw [of_two at' r ts xs x hl hb]
     simp [transOf]
   · rw [if_neg h1]
     by_cases h2 : x ∈ ts
     · rw [if_pos h2, if_pos h2, of_two at' r ts _ x hl h2]
       have hne : ts.idxOf x ≠ ts.idxOf b := fun e => h1 (idxOf_inj h2 hb e)
       simp [transOf, hne]
     · rw [if_neg h2, if_neg h2, of_two at' r (ts ++ [x]) _ x hl (by simp)]
       have e1 : (ts ++ [x]).idxOf x = ts.length := by rw [List.idxOf_append, if_neg h2]; simp
       have hlt := List.idxOf_lt_length_of_mem hb
       rw [e1]
       have hne : ts.length ≠ ts.idxOf b := by omega
       simp [transOf, hne]
end Go.Proofs.YtkpmmabdpeobaaaGreatDoor.Tb
namespace Go.Proofs.YtkpmmabdpeobaaaGreatDoor.Tb
open Px
def Incr (last : Option Int) : List (Int × Lc) → Prop
 | [] => True
 | (t, _) :: r => -36028797018963968 ≤ t ∧ t ≤ 36028797018963968 ∧ (∀ y, last = some y → y < t) ∧ Incr (some t) r
theorem Incr.weak {y : Int} {t : Int} (h : y < t) : ∀ {c : List (Int × Lc)}, Incr (some t) c → Incr (some y) c
 | [], _ => trivial
 | (u, _) :: r, ⟨h1, h2, h3, h4⟩ => ⟨h1, h2, fun z e => by cases e; have := h3 t rfl; omega, h4⟩
theorem Incr.none {last : Option Int} : ∀ {c : List (Int × Lc)}, Incr last c → Incr none c
 | [], _ => trivial
 | (u, _) :: r, ⟨h1, h2, _, h4⟩ => ⟨h1, h2, fun z e => (by cases e), h4⟩
theorem behind_no {last : Option Int} {t : Int} (h : ∀ y, last = some y → y < t) : behindQ last t = false := by
 unfold behindQ
 cases last with
 | none => rfl
 | some y => have := h y rfl; simpa using this
structure OfOk (ts : List Lc) (b : Lc) (last : Option Int) (c : List (Int × Lc)) (ts' : List Lc) (ys : List Tr) : Prop where
 nodup : ts'.Nodup
 pre : ts <+: ts'
 sub : ∀ x ∈ ts', x ∈ ts ∨ ∃ t, (t, x) ∈ c
 ok : transGo ts'.length (ts.idxOf b) (ts.length - 1) last ys = 0
theorem of_ok : ∀ (c : List (Int × Lc)) (ts : List Lc) (xs : List Tr) (b : Lc) (last : Option Int), ts.Nodup → b ∈ ts → Incr last c →
 ∃ ys, (ofGo ts xs b c).2 = xs ++ ys ∧ OfOk ts b last c (ofGo ts xs b c).1 ys
 | [], ts, xs, b, last, hn, hb, _ => by
   refine ⟨[], by simp [ofGo], hn, List.prefix_refl _, fun x hx => .inl hx, ?_⟩
   have := List.length_pos_of_mem hb
   unfold transGo
   rw [if_neg]
   simp only [ofGo]
   omega
 | (t, l) :: r, ts, xs, b, last, hn, hb, ⟨h1, h2, h3, h4⟩ => by
   have hlt := List.idxOf_lt_length_of_mem hb
   have hbq := behind_no h3
   unfold ofGo
   by_cases e1 : l = b
   · rw [if_pos e1]
     have h4' : Incr last r := by
      cases last with
      | none => exact h4.none
      | some y => exact h4.weak (h3 y rfl)
     obtain ⟨ys, ey, ok⟩ := of_ok r ts xs b last hn hb h4'
     exact ⟨ys, ey, ok.nodup, ok.pre, fun x hx => (ok.sub x hx).imp id (fun ⟨u, hu⟩ => ⟨u, List.mem_cons_of_mem _ hu⟩), ok.ok⟩
   · rw [if_neg e1]
     by_cases e2 : l ∈ ts
     · rw [if_pos e2]
       obtain ⟨ys, ey, ok⟩ := of_ok r ts (xs ++ [⟨t, (ts.idxOf l : Nat)⟩]) l (some t) hn e2 h4
       have hl := List.idxOf_lt_length_of_mem e2
       have hle := ok.pre.length_le
       refine ⟨⟨t, (ts.idxOf l : Nat)⟩ :: ys, by rw [ey]; simp, ok.nodup, ok.pre, fun x hx => (ok.sub x hx).imp id (fun ⟨u, hu⟩ => ⟨u, List.mem_cons_of_mem _ hu⟩), ?_⟩
       have hne : ts.idxOf l ≠ ts.idxOf b := fun e => e1 (idxOf_inj e2 hb e)
       unfold transGo
       rw [if_neg (by dsimp only; omega), if_neg (by dsimp only; rw [hbq]; simp), if_neg (by dsimp only; omega), if_neg (by dsimp only; omega)]
       have em : max ((ts.length : Int) - 1) (ts.idxOf l : Nat) = (ts.length : Int) - 1 := by omega
       dsimp only
       rw [em]
       exact ok.ok
     · rw [if_neg e2]
       have hn' : (ts ++ [l]).Nodup := by
        rw [List.nodup_append]
        exact ⟨hn, by simp, fun x hx y hy => by
         rw [List.mem_singleton] at hy
         subst hy
         intro e
         subst e
         exact e2 hx⟩
       obtain ⟨ys, ey, ok⟩ := of_ok r (ts ++ [l]) (xs ++ [⟨t, (ts.length : Nat)⟩]) l (some t) hn' (by simp) h4
       have e3 : (ts ++ [l]).idxOf l = ts.length := by rw [List.idxOf_append, if_neg e2]; simp
       have hle := ok.pre.length_le
       have hok := ok.ok
       rw [List.length_append, List.length_singleton] at hle hok
       rw [e3] at hok
       refine ⟨⟨t, (ts.length : Nat)⟩ :: ys, by rw [ey]; simp, ok.nodup, (List.prefix_append ts [l]).trans ok.pre, fun x hx => ?_, ?_⟩
       · rcases ok.sub x hx with h | ⟨u, hu⟩
         · rcases List.mem_append.1 h with h | h
           · exact .inl h
           · rw [List.mem_singleton] at h
             subst h
             exact .inr ⟨t, List.mem_cons_self ..⟩
         · exact .inr ⟨u, List.mem_cons_of_mem _ hu⟩
       · unfold transGo
         rw [if_neg (by dsimp only; omega), if_neg (by dsimp only; rw [hbq]; simp), if_neg (by dsimp only; omega), if_neg (by dsimp only; omega)]
         have em : max ((ts.length : Int) - 1) (ts.length : Nat) = ((ts.length + 1 : Nat) : Int) - 1 := by omega
         dsimp only
         rw [em]
         exact hok
def lenS (pre : List Lc) (n : Nat) : List Lc → Nat
 | [] => n
 | l :: r => lenS (pre ++ [l]) (if pre.any (fun p => decide (p.abbr = l.abbr)) = true then n else n + l.abbr.size + 1) r
theorem lenS_le : ∀ (ts pre : List Lc) (n : Nat), (∀ l ∈ ts, l.abbr.size ≤ 7) → lenS pre n ts ≤ n + 8 * ts.length
 | [], _, n, _ => by simp [lenS]
 | l :: r, pre, n, h => by
   unfold lenS
   have h1 := h l (List.mem_cons_self ..)
   have h2 := lenS_le r (pre ++ [l]) (if pre.any (fun p => decide (p.abbr = l.abbr)) = true then n else n + l.abbr.size + 1) (fun x hx => h x (List.mem_cons_of_mem _ hx))
   rw [List.length_cons]
   by_cases hb : pre.any (fun p => decide (p.abbr = l.abbr)) = true
   · rw [if_pos hb] at h2 ⊢
     omega
   · rw [if_neg hb] at h2 ⊢
     omega
theorem typesGo_ok : ∀ (ts pre : List Lc) (n : Nat), (∀ l ∈ ts, lcE l = 0) → (pre ++ ts).Nodup → typesGo pre n ts = if 255 < lenS pre n ts then 7 else 0
 | [], _, _, _, _ => rfl
 | l :: r, pre, n, h, hn => by
   have hl : l ∉ pre := by
    rw [List.nodup_append] at hn
    intro hm
    exact hn.2.2 l hm l (List.mem_cons_self ..) rfl
   unfold typesGo lenS
   rw [if_neg (by rw [h l (List.mem_cons_self ..)]; decide), if_neg hl]
   exact typesGo_ok r _ _ (fun x hx => h x (List.mem_cons_of_mem _ hx)) (by rw [List.append_assoc]; exact hn)
theorem typesE_ok {ts : List Lc} (h : ∀ l ∈ ts, lcE l = 0) (hn : ts.Nodup) (h0 : ts ≠ []) (h31 : ts.length ≤ 31) (h7 : ∀ l ∈ ts, l.abbr.size ≤ 7) : typesE ts = 0 := by
 have h1 : ts.length ≠ 0 := fun e => h0 (List.length_eq_zero_iff.1 e)
 unfold typesE
 rw [if_neg h1, if_neg (by omega), typesGo_ok ts [] 0 h (by simpa using hn)]
 have := lenS_le ts [] 0 h7
 rw [if_neg (by omega)]
theorem typesGo_nodup : ∀ (ts pre : List Lc) (n : Nat), pre.Nodup → typesGo pre n ts = 0 → (pre ++ ts).Nodup ∧ ∀ l ∈ ts, lcE l = 0
 | [], pre, n, hp, _ => ⟨by simpa using hp, fun l hl => by cases hl⟩
 | l :: r, pre, n, hp, h => by
   unfold typesGo at h
   by_cases h1 : lcE l ≠ 0
   · rw [if_pos h1] at h; exact absurd h h1
   rw [if_neg h1] at h
   by_cases h2 : l ∈ pre
   · rw [if_pos h2] at h; cases h
   rw [if_neg h2] at h
   have hp' : (pre ++ [l]).Nodup := by
    rw [List.nodup_append]
    exact ⟨hp, by simp, fun x hx y hy => by
     rw [List.mem_singleton] at hy
     subst hy
     intro e
     subst e
     exact h2 hx⟩
   obtain ⟨i1, i2⟩ := typesGo_nodup r (pre ++ [l]) _ hp' h
   refine ⟨by rw [List.append_assoc] at i1; exact i1, fun x hx => ?_⟩
   rcases List.mem_cons.1 hx with rfl | hx
   · exact Decidable.of_not_not h1
   · exact i2 x hx
theorem typesE_zero {ts : List Lc} (h : typesE ts = 0) : ts ≠ [] ∧ ts.length ≤ 254 ∧ ts.Nodup ∧ ∀ l ∈ ts, lcE l = 0 := by
 unfold typesE at h
 by_cases h1 : ts.length = 0
 · rw [if_pos h1] at h; cases h
 rw [if_neg h1] at h
 by_cases h2 : 254 < ts.length
 · rw [if_pos h2] at h; cases h
 rw [if_neg h2] at h
 obtain ⟨i1, i2⟩ := typesGo_nodup ts [] 0 List.nodup_nil h
 exact ⟨fun e => h1 (by rw [e]; rfl), by omega, by simpa using i1, i2⟩
def Tab.changes (x : Tab) : List (Int × Lc) := x.trans.map (fun t => (t.at', x.types.getD t.ty.toNat Lc.zero))
theorem getD_mem {ts : List Lc} {k : Nat} (h : k < ts.length) : ts.getD k Lc.zero = ts[k] := by simp [List.getD, List.getElem?_eq_getElem h]
end Go.Proofs.YtkpmmabdpeobaaaGreatDoor.Tb
namespace Go.Proofs.YtkpmmabdpeobaaaGreatDoor.Px
open Go.RowKit
structure Known (L : List (Nat × Obj)) (w X : World) : Prop where
 below : Below w.heap.size w X
 holds : ∀ (k b : Nat) (o : Obj), L[k]? = some (b, o) → X.heap[b]? = some o
 own : ∀ p ∈ L, w.heap.size ≤ p.1
 desc : L.Pairwise (fun a b => b.1 ≠ a.1)
theorem Known.at {L : List (Nat × Obj)} {w X : World} (h : Known L w X) (k : Nat) {b : Nat} {o : Obj} (hk : L[k]? = some (b, o)) : X.heap[b]? = some o := h.holds k b o hk
theorem Known.lt {L : List (Nat × Obj)} {w X : World} (h : Known L w X) (k : Nat) {b : Nat} {o : Obj} (hk : L[k]? = some (b, o)) : b < X.heap.size := lt_of_block (h.at k hk)
theorem Known.nil {w X : World} (h : Below w.heap.size w X) : Known [] w X := ⟨h, fun k b o hk => by simp at hk, (fun p hp => by cases hp), List.Pairwise.nil⟩
theorem Known.start (w : World) : Known [] w w := Known.nil (Below.refl _ _)
theorem Known.call {L : List (Nat × Obj)} {w X Y Z : World} (h : Known L w X) (hB : Below Y.heap.size Y Z) (he : Y.heap = X.heap) (ho : Y.os = X.os) (ht : Y.tape = X.tape) (hp : Y.output = X.output) : Known L w Z :=
 have hC : Below X.heap.size X Z := ⟨hB.os.trans ho, hB.tape.trans ht, hB.output.trans hp, by rw [← he]; exact hB.size, fun k hk => (hB.block k (by rw [he]; exact hk)).trans (by rw [he])⟩
 ⟨h.below.trans (hC.mono h.below.size), fun k b o hk => heap_keep (h.at k hk) hC, h.own, h.desc⟩
theorem Known.keep {L : List (Nat × Obj)} {w X Z : World} (h : Known L w X) (hB : Below X.heap.size X Z) : Known L w Z := h.call hB rfl rfl rfl rfl
theorem Known.same {L : List (Nat × Obj)} {w X Y : World} (h : Known L w X) (he : Y.heap = X.heap) (ho : Y.os = X.os) (ht : Y.tape = X.tape) (hp : Y.output = X.output) : Known L w Y := h.call (Below.refl _ Y) he ho ht hp
theorem Known.alloc {L : List (Nat × Obj)} {w X : World} (h : Known L w X) (o : Obj) : Known ((X.heap.size, o) :: L) w (X.alloc o) := by
 refine ⟨h.below.alloc h.below.size _, ?_, ?_, ?_⟩
 · intro k b x hk
   cases k with
   | zero =>
     simp only [List.getElem?_cons_zero, Option.some.injEq, Prod.mk.injEq] at hk
     obtain ⟨rfl, rfl⟩ := hk
     exact heap_new _ _
   | succ k =>
     rw [List.getElem?_cons_succ] at hk
     exact heap_old (h.at k hk) _
 · intro p hp
   rcases List.mem_cons.1 hp with rfl | hp
   · exact h.below.size
   · exact h.own p hp
 · refine List.Pairwise.cons ?_ h.desc
   intro p hp
   obtain ⟨k, hk, rfl⟩ := List.getElem_of_mem hp
   exact Nat.ne_of_lt (h.lt k (b := L[k].1) (o := L[k].2) (by rw [List.getElem?_eq_getElem hk]))
theorem Known.allocAt {L : List (Nat × Obj)} {w X : World} (h : Known L w X) (b : Nat) (hb : X.heap.size = b) (o : Obj) : Known ((b, o) :: L) w (X.alloc o) := by
 subst hb; exact h.alloc o
theorem Known.other {L : List (Nat × Obj)} {w X : World} (h : Known L w X) {j k b c : Nat} {o x : Obj} (hj : L[j]? = some (b, o)) (hk : L[k]? = some (c, x)) (hne : j ≠ k) : b ≠ c := by
 obtain ⟨hj1, hj2⟩ := List.getElem?_eq_some_iff.1 hj
 obtain ⟨hk1, hk2⟩ := List.getElem?_eq_some_iff.1 hk
 have hp := List.pairwise_iff_getElem.1 h.desc
 rcases Nat.lt_or_gt_of_ne hne with hlt | hlt
 · have := hp j k hj1 hk1 hlt
   rw [hj2, hk2] at this
   exact this.symm
 · have := hp k j hk1 hj1 hlt
   rw [hj2, hk2] at this
   exact this
theorem Known.set {L : List (Nat × Obj)} {w X : World} (h : Known L w X) (k : Nat) {b : Nat} {cs : Array Value} {T : TypeId} (hk : L[k]? = some (b, .cells cs T (0, 0))) (i : Nat) (u : Value) {cs' : Array Value} (he : cs.setIfInBounds i u = cs') :
 Known (L.set k (b, .cells cs' T (0, 0))) w (X.setCell ⟨b, i, none⟩ u) := by
 subst he
 have hkl : k < L.length := (List.getElem?_eq_some_iff.1 hk).1
 have hob : w.heap.size ≤ b := h.own _ (List.mem_of_getElem? hk)
 refine ⟨h.below.setCell hob u, ?_, ?_, ?_⟩
 · intro j c o hj
   by_cases hjk : j = k
   · subst hjk
     rw [List.getElem?_set_self hkl] at hj
     simp only [Option.some.injEq, Prod.mk.injEq] at hj
     obtain ⟨rfl, rfl⟩ := hj
     exact cells_set (h.at j hk) i u
   · rw [List.getElem?_set_ne (fun e => hjk e.symm)] at hj
     exact (Below.heap_setCell _ _ _ _ (h.other hj hk hjk)).trans (h.at j hj)
 · intro p hp
   rcases List.mem_or_eq_of_mem_set hp with hp | rfl
   · exact h.own p hp
   · exact hob
 · rw [List.pairwise_iff_getElem]
   have hpw := List.pairwise_iff_getElem.1 h.desc
   have key : ∀ (j : Nat) (hj : j < (L.set k (b, .cells (cs.setIfInBounds i u) T (0, 0))).length), ((L.set k (b, .cells (cs.setIfInBounds i u) T (0, 0)))[j]'hj).1 = (L[j]'(by simpa using hj)).1 := by
    intro j hj
    by_cases hjk : j = k
    · subst hjk
      rw [List.getElem_set_self]
      obtain ⟨_, hk2⟩ := List.getElem?_eq_some_iff.1 hk
      rw [hk2]
    · rw [List.getElem_set_ne (fun e => hjk e.symm)]
   intro j l hj hl hlt
   rw [key, key]
   exact hpw j l (by simpa using hj) (by simpa using hl) hlt
theorem Known.drop {p : Nat × Obj} {L : List (Nat × Obj)} {w X : World} (h : Known (p :: L) w X) : Known L w X :=
 ⟨h.below, fun k b o hk => h.holds (k + 1) b o (by rw [List.getElem?_cons_succ]; exact hk), fun q hq => h.own q (List.mem_cons_of_mem _ hq), (List.pairwise_cons.1 h.desc).2⟩
theorem Known.pick {L M : List (Nat × Obj)} {w X : World} (h : Known L w X) (hs : M.Sublist L) : Known M w X :=
 ⟨h.below, fun k b o hk => by
  have hm : (b, o) ∈ L := hs.subset (List.mem_of_getElem? hk)
  obtain ⟨j, hj, e⟩ := List.getElem_of_mem hm
  exact h.at j (by rw [List.getElem?_eq_getElem hj, e]), fun p hp => h.own p (hs.subset hp), h.desc.sublist hs⟩
theorem row2 {X : World} {b : Nat} {T : TypeId} {x0 x1 : Value} (h : X.heap[b]? = some (.cells #[x0, x1] T (0, 0))) : X.cell? ⟨b, 0, none⟩ = some x0 ∧ X.cell? ⟨b, 1, none⟩ = some x1 := ⟨cells_at h 0, cells_at h 1⟩
theorem row5 {X : World} {b : Nat} {T : TypeId} {x0 x1 x2 x3 x4 : Value} (h : X.heap[b]? = some (.cells #[x0, x1, x2, x3, x4] T (0, 0))) : X.cell? ⟨b, 0, none⟩ = some x0 ∧ X.cell? ⟨b, 1, none⟩ = some x1 ∧ X.cell? ⟨b, 2, none⟩ = some x2 ∧ X.cell? ⟨b, 3, none⟩ = some x3 ∧ X.cell? ⟨b, 4, none⟩ = some x4 := ⟨cells_at h 0, cells_at h 1, cells_at h 2, cells_at h 3, cells_at h 4⟩
theorem row14 {X : World} {b : Nat} {T : TypeId} {x0 x1 x2 x3 x4 x5 x6 x7 x8 x9 x10 x11 x12 x13 : Value} (h : X.heap[b]? = some (.cells #[x0, x1, x2, x3, x4, x5, x6, x7, x8, x9, x10, x11, x12, x13] T (0, 0))) : X.cell? ⟨b, 0, none⟩ = some x0 ∧ X.cell? ⟨b, 1, none⟩ = some x1 ∧ X.cell? ⟨b, 2, none⟩ = some x2 ∧ X.cell? ⟨b, 3, none⟩ = some x3 ∧ X.cell? ⟨b, 4, none⟩ = some x4 ∧ X.cell? ⟨b, 5, none⟩ = some x5 ∧ X.cell? ⟨b, 6, none⟩ = some x6 ∧ X.cell? ⟨b, 7, none⟩ = some x7 ∧ X.cell? ⟨b, 8, none⟩ = some x8 ∧ X.cell? ⟨b, 9, none⟩ = some x9 ∧ X.cell? ⟨b, 10, none⟩ = some x10 ∧ X.cell? ⟨b, 11, none⟩ = some x11 ∧ X.cell? ⟨b, 12, none⟩ = some x12 ∧ X.cell? ⟨b, 13, none⟩ = some x13 := ⟨cells_at h 0, cells_at h 1, cells_at h 2, cells_at h 3, cells_at h 4, cells_at h 5, cells_at h 6, cells_at h 7, cells_at h 8, cells_at h 9, cells_at h 10, cells_at h 11, cells_at h 12, cells_at h 13⟩
theorem free14 {X : World} {b : Nat} {T : TypeId} {x0 x1 x2 x3 x4 x5 x6 x7 x8 x9 x10 x11 x12 x13 : Value} (h : X.heap[b]? = some (.cells #[x0, x1, x2, x3, x4, x5, x6, x7, x8, x9, x10, x11, x12, x13] T (0, 0))) : X.frozen? ⟨b, 0, none⟩ = false ∧ X.frozen? ⟨b, 1, none⟩ = false ∧ X.frozen? ⟨b, 2, none⟩ = false ∧ X.frozen? ⟨b, 3, none⟩ = false ∧ X.frozen? ⟨b, 4, none⟩ = false ∧ X.frozen? ⟨b, 5, none⟩ = false ∧ X.frozen? ⟨b, 6, none⟩ = false ∧ X.frozen? ⟨b, 7, none⟩ = false ∧ X.frozen? ⟨b, 8, none⟩ = false ∧ X.frozen? ⟨b, 9, none⟩ = false ∧ X.frozen? ⟨b, 10, none⟩ = false ∧ X.frozen? ⟨b, 11, none⟩ = false ∧ X.frozen? ⟨b, 12, none⟩ = false ∧ X.frozen? ⟨b, 13, none⟩ = false := ⟨free_at h 0, free_at h 1, free_at h 2, free_at h 3, free_at h 4, free_at h 5, free_at h 6, free_at h 7, free_at h 8, free_at h 9, free_at h 10, free_at h 11, free_at h 12, free_at h 13⟩
end Go.Proofs.YtkpmmabdpeobaaaGreatDoor.Px
namespace Go.Proofs.YtkpmmabdpeobaaaGreatDoor.Px
open Go.RowKit
structure Rw where
 v : Value
 e : TypeId
 sz : Nat
 n : Nat
 xs : List Value
structure Kp (L : List (Nat × Obj)) (R : List Rw) (w X : World) : Prop where
 known : Known L w X
 own : ∀ r ∈ R, X.ownsRow w.heap.size r.e r.sz r.v r.n r.xs
 offL : ∀ r ∈ R, ∀ g, r.v.ownBlock = some g → ∀ p ∈ L, p.1 ≠ g
 offR : R.Pairwise (fun r s => ∀ g, r.v.ownBlock = some g → s.v.ownBlock ≠ some g)
theorem Kp.below {L : List (Nat × Obj)} {R : List Rw} {w X : World} (h : Kp L R w X) : Below w.heap.size w X := h.known.below
theorem Kp.at {L : List (Nat × Obj)} {R : List Rw} {w X : World} (h : Kp L R w X) (k : Nat) {b : Nat} {o : Obj} (hk : L[k]? = some (b, o)) : X.heap[b]? = some o := h.known.at k hk
theorem Kp.lt {L : List (Nat × Obj)} {R : List Rw} {w X : World} (h : Kp L R w X) (k : Nat) {b : Nat} {o : Obj} (hk : L[k]? = some (b, o)) : b < X.heap.size := h.known.lt k hk
theorem Kp.row {L : List (Nat × Obj)} {R : List Rw} {w X : World} (h : Kp L R w X) (i : Nat) {r : Rw} (hr : R[i]? = some r) : X.ownsRow w.heap.size r.e r.sz r.v r.n r.xs := h.own r (List.mem_of_getElem? hr)
theorem Kp.of {L : List (Nat × Obj)} {w X : World} (h : Known L w X) : Kp L [] w X := ⟨h, (fun r hr => by cases hr), (fun r hr => by cases hr), List.Pairwise.nil⟩
theorem Kp.start (w : World) : Kp [] [] w w := Kp.of (Known.start w)
theorem grown_below {X Z : World} (hB : Below X.heap.size X Z) : X.grownBy Z none := ⟨hB.os, hB.tape, hB.output, hB.size, fun k hk _ => hB.block k hk⟩
theorem Kp.keep {L : List (Nat × Obj)} {R : List Rw} {w X Z : World} (h : Kp L R w X) (hB : Below X.heap.size X Z) : Kp L R w Z :=
 ⟨h.known.keep hB, fun r hr => (h.own r hr).kept (grown_below hB) (by cases r.v.ownBlock <;> simp), h.offL, h.offR⟩
theorem Kp.call {L : List (Nat × Obj)} {R : List Rw} {w X Y Z : World} (h : Kp L R w X) (hB : Below Y.heap.size Y Z) (he : Y.heap = X.heap) (ho : Y.os = X.os) (ht : Y.tape = X.tape) (hp : Y.output = X.output) : Kp L R w Z :=
 h.keep ⟨hB.os.trans ho, hB.tape.trans ht, hB.output.trans hp, by rw [← he]; exact hB.size, fun k hk => (hB.block k (by rw [he]; exact hk)).trans (by rw [he])⟩
theorem Kp.drew {L : List (Nat × Obj)} {R : List Rw} {w X : World} (h : Kp L R w X) : Kp L R w X.drew := h.call (Below.refl _ _) rfl rfl rfl rfl
theorem Kp.alloc {L : List (Nat × Obj)} {R : List Rw} {w X : World} (h : Kp L R w X) (o : Obj) : Kp ((X.heap.size, o) :: L) R w (X.alloc o) :=
 ⟨h.known.alloc o, fun r hr => (h.own r hr).alloc o, fun r hr g hg p hp => by
  rcases List.mem_cons.1 hp with rfl | hp
  · have := ((h.own r hr).lt g hg).2
    dsimp only
    omega
  · exact h.offL r hr g hg p hp, h.offR⟩
theorem Kp.allocAt {L : List (Nat × Obj)} {R : List Rw} {w X : World} (h : Kp L R w X) (b : Nat) (hb : X.heap.size = b) (o : Obj) : Kp ((b, o) :: L) R w (X.alloc o) := by
 subst hb; exact h.alloc o
theorem Kp.pick {L M : List (Nat × Obj)} {R : List Rw} {w X : World} (h : Kp L R w X) (hs : M.Sublist L) : Kp M R w X :=
 ⟨h.known.pick hs, h.own, fun r hr g hg p hp => h.offL r hr g hg p (hs.subset hp), h.offR⟩
theorem Kp.drop {p : Nat × Obj} {L : List (Nat × Obj)} {R : List Rw} {w X : World} (h : Kp (p :: L) R w X) : Kp L R w X := h.pick (List.sublist_cons_self _ _)
theorem Kp.fresh {L : List (Nat × Obj)} {R : List Rw} {w X : World} (h : Kp L R w X) (e : TypeId) (sz : Nat) : Kp L (⟨.slice none 0 0, e, sz, 0, []⟩ :: R) w X :=
 ⟨h.known, fun r hr => by
  rcases List.mem_cons.1 hr with rfl | hr
  · exact World.ownsRow_nil _ _ _ _
  · exact h.own r hr, fun r hr g hg => by
  rcases List.mem_cons.1 hr with rfl | hr
  · simp [Value.ownBlock] at hg
  · exact h.offL r hr g hg, List.pairwise_cons.2 ⟨fun s _ g hg => by simp [Value.ownBlock] at hg, h.offR⟩⟩
theorem Kp.own_block {L : List (Nat × Obj)} {R : List Rw} {w X : World} {b : Nat} {cs : Array Value} {T : TypeId} (h : Kp ((b, .cells cs T (0, 0)) :: L) R w X) (sz n cap : Nat) (hn : n ≤ cap) (hc : cap ≤ maxLen) (hs : cs.size = cap * sz) :
 Kp L (⟨.slice (some ⟨b, 0, none⟩) n cap, T, sz, n, cs.toList.take (n * sz)⟩ :: R) w X := by
 have hb := h.at 0 rfl
 have hob : w.heap.size ≤ b := h.known.own _ (List.mem_cons_self ..)
 refine ⟨h.known.drop, fun r hr => ?_, fun r hr g hg p hp => ?_, List.pairwise_cons.2 ⟨fun s hs g hg e => ?_, h.offR⟩⟩
 · rcases List.mem_cons.1 hr with rfl | hr
   · refine ⟨?_, .inr ⟨b, cap, cs, rfl, hob, hb, hn, hc, hs, rfl⟩⟩
     rw [List.length_take, Array.length_toList, hs]
     exact Nat.min_eq_left (Nat.mul_le_mul_right _ hn)
   · exact h.own r hr
 · rcases List.mem_cons.1 hr with rfl | hr
   · have hg' : b = g := by simpa [Value.ownBlock] using hg
     subst hg'
     exact (List.pairwise_cons.1 h.known.desc).1 p hp
   · exact h.offL r hr g hg p (List.mem_cons_of_mem _ hp)
 · have hg' : b = g := by simpa [Value.ownBlock] using hg
   subst hg'
   exact h.offL s hs _ e _ (List.mem_cons_self ..) rfl
theorem Kp.set {L : List (Nat × Obj)} {R : List Rw} {w X : World} (h : Kp L R w X) (k : Nat) {b : Nat} {cs : Array Value} {T : TypeId} (hk : L[k]? = some (b, .cells cs T (0, 0))) (i : Nat) (u : Value) {cs' : Array Value} (he : cs.setIfInBounds i u = cs') :
 Kp (L.set k (b, .cells cs' T (0, 0))) R w (X.setCell ⟨b, i, none⟩ u) := by
 refine ⟨h.known.set k hk i u he, fun r hr => ?_, fun r hr g hg p hp => ?_, h.offR⟩
 · refine (h.own r hr).kept (row := some b) ⟨rfl, rfl, rfl, by rw [World.size_setCell]; exact Nat.le_refl _, fun j hj hne => Below.heap_setCell _ _ _ _ (fun e => hne (by rw [e]))⟩ ?_
   cases hv : r.v.ownBlock with
   | none => exact .inl rfl
   | some g =>
     right
     intro e
     simp only [Option.some.injEq] at e
     exact h.offL r hr g hv _ (List.mem_of_getElem? hk) e.symm
 · rcases List.mem_or_eq_of_mem_set hp with hp | rfl
   · exact h.offL r hr g hg p hp
   · exact h.offL r hr g hg (b, .cells cs T (0, 0)) (List.mem_of_getElem? hk)
theorem Kp.append {L : List (Nat × Obj)} {R : List Rw} {r : Rw} {w X Z : World} {v' : Value} {n' : Nat} {xs' : List Value} (h : Kp L (r :: R) w X) (ho : Z.ownsRow w.heap.size r.e r.sz v' n' xs') (hg : X.grownBy Z r.v.ownBlock)
 (hat : v'.ownBlock = r.v.ownBlock ∨ v'.ownBlock = some X.heap.size) : Kp L (⟨v', r.e, r.sz, n', xs'⟩ :: R) w Z := by
 have hr0 := h.own r (List.mem_cons_self ..)
 have hbl : ∀ b, b < X.heap.size → some b ≠ r.v.ownBlock → Z.heap[b]? = X.heap[b]? := hg.block
 obtain ⟨hp1, hp2⟩ := List.pairwise_cons.1 h.offR
 refine ⟨⟨⟨hg.os.trans h.below.os, hg.tape.trans h.below.tape, hg.output.trans h.below.output, Nat.le_trans h.below.size hg.size, fun k hk => ?_⟩, fun k b o hk => ?_, h.known.own, h.known.desc⟩, fun s hs => ?_, fun s hs g hgs p hp => ?_, List.pairwise_cons.2 ⟨fun s hs g hgs e => ?_, hp2⟩⟩
 · refine (hbl k (Nat.lt_of_lt_of_le hk h.below.size) (fun e => ?_)).trans (h.below.block k hk)
   have := (hr0.lt k e.symm).1
   omega
 · refine (hbl b (h.lt k hk) (fun e => ?_)).trans (h.at k hk)
   exact h.offL r (List.mem_cons_self ..) b e.symm _ (List.mem_of_getElem? hk) rfl
 · rcases List.mem_cons.1 hs with rfl | hs
   · exact ho
   · refine (h.own s (List.mem_cons_of_mem _ hs)).kept hg ?_
     cases hv : s.v.ownBlock with
     | none => exact .inl rfl
     | some g => exact .inr (fun e => hp1 s hs g e.symm hv)
 · rcases List.mem_cons.1 hs with rfl | hs
   · rcases hat with hat | hat
     · exact h.offL r (List.mem_cons_self ..) g (hat.symm.trans hgs) p hp
     · have e : X.heap.size = g := Option.some.inj (hat.symm.trans hgs)
       obtain ⟨k, hk, rfl⟩ := List.getElem_of_mem hp
       have := h.lt k (b := L[k].1) (o := L[k].2) (by rw [List.getElem?_eq_getElem hk])
       omega
   · exact h.offL s (List.mem_cons_of_mem _ hs) g hgs p hp
 · rcases hat with hat | hat
   · exact hp1 s hs g (hat.symm.trans hgs) e
   · have e2 : X.heap.size = g := Option.some.inj (hat.symm.trans hgs)
     have := ((h.own s (List.mem_cons_of_mem _ hs)).lt g e).2
     omega
theorem Kp.perm {L : List (Nat × Obj)} {R S : List Rw} {w X : World} (h : Kp L R w X) (hp : S.Perm R) : Kp L S w X :=
 ⟨h.known, fun r hr => h.own r (hp.subset hr), fun r hr => h.offL r (hp.subset hr), (hp.pairwise_iff (fun {_ _} hab g hb ha => hab g ha hb)).2 h.offR⟩
theorem Kp.swap {L : List (Nat × Obj)} {R : List Rw} {r s : Rw} {w X : World} (h : Kp L (r :: s :: R) w X) : Kp L (s :: r :: R) w X := h.perm (List.Perm.swap r s R)
theorem Kp.less {L : List (Nat × Obj)} {R S : List Rw} {w X : World} (h : Kp L R w X) (hs : S.Sublist R) : Kp L S w X :=
 ⟨h.known, fun r hr => h.own r (hs.subset hr), fun r hr => h.offL r (hs.subset hr), h.offR.sublist hs⟩
theorem own_cells {X : World} {B : Nat} {e : TypeId} {sz n : Nat} {v : Value} {xs : List Value} (h : X.ownsRow B e sz v n xs) : (n = 0 ∧ v = .slice none 0 0) ∨ ∃ g cap, v = .slice (some ⟨g, 0, none⟩) n cap ∧ n ≤ cap ∧ cap ≤ maxLen ∧ g < X.heap.size ∧ ∀ (j : Nat) (u : Value), xs[j]? = some u → X.cell? ⟨g, j, none⟩ = some u := by
 rcases h.2 with ⟨h1, h2⟩ | ⟨g, cap, cur, rfl, _, hg, hn, hm, _⟩
 · exact .inl ⟨h2, h1⟩
 · refine .inr ⟨g, cap, rfl, hn, hm, lt_of_block hg, fun j u hu => ?_⟩
   have := h.cells (g := g) rfl j u hu
   rw [show (⟨g, 0, none⟩ : Addr).add j = ⟨g, j, none⟩ by unfold Addr.add; split <;> simp_all] at this
   exact this
end Go.Proofs.YtkpmmabdpeobaaaGreatDoor.Px
namespace Go.Proofs.YtkpmmabdpeobaaaGreatDoor.Px
open Go.RowKit
theorem Kp.grown {L : List (Nat × Obj)} {R : List Rw} {w X Z : World} {b : Nat} (h : Kp L R w X) (hg : X.grownBy Z (some b)) (hb : w.heap.size ≤ b) (hL : ∀ p ∈ L, p.1 ≠ b) (hR : ∀ r ∈ R, r.v.ownBlock ≠ some b) : Kp L R w Z :=
 ⟨⟨⟨hg.os.trans h.below.os, hg.tape.trans h.below.tape, hg.output.trans h.below.output, Nat.le_trans h.below.size hg.size, fun k hk => (hg.block k (Nat.lt_of_lt_of_le hk h.below.size) (fun e => by
  have := Option.some.inj e
  omega)).trans (h.below.block k hk)⟩,
  fun k c o hk => (hg.block c (h.lt k hk) (fun e => hL _ (List.mem_of_getElem? hk) (Option.some.inj e))).trans (h.at k hk), h.known.own, h.known.desc⟩,
  fun r hr => (h.own r hr).kept hg (.inr (hR r hr)), h.offL, h.offR⟩
structure Mp where
 b : Nat
 k : TypeId
 e : TypeId
 n : Nat
 D : DataW Unit
structure Km (L : List (Nat × Obj)) (R : List Rw) (M : List Mp) (w X : World) : Prop where
 kp : Kp L R w X
 map : ∀ m ∈ M, X.ownsMap Tryz.prog m.k (plainElem Tryz.prog m.e) m.b m.n m.D
 own : ∀ m ∈ M, w.heap.size ≤ m.b
 offL : ∀ m ∈ M, ∀ p ∈ L, p.1 ≠ m.b
 offR : ∀ m ∈ M, ∀ r ∈ R, r.v.ownBlock ≠ some m.b
 offM : M.Pairwise (fun a b => a.b ≠ b.b)
theorem Km.below {L : List (Nat × Obj)} {R : List Rw} {M : List Mp} {w X : World} (h : Km L R M w X) : Below w.heap.size w X := h.kp.below
theorem Km.of {L : List (Nat × Obj)} {R : List Rw} {w X : World} (h : Kp L R w X) : Km L R [] w X :=
 ⟨h, (fun m hm => by cases hm), (fun m hm => by cases hm), (fun m hm => by cases hm), (fun m hm => by cases hm), List.Pairwise.nil⟩
theorem Km.keep {L : List (Nat × Obj)} {R : List Rw} {M : List Mp} {w X Z : World} (h : Km L R M w X) (hB : Below X.heap.size X Z) : Km L R M w Z :=
 ⟨h.kp.keep hB, fun m hm => (h.map m hm).kept (grown_below hB) (by simp), h.own, h.offL, h.offR, h.offM⟩
theorem Km.call {L : List (Nat × Obj)} {R : List Rw} {M : List Mp} {w X Y Z : World} (h : Km L R M w X) (hB : Below Y.heap.size Y Z) (he : Y.heap = X.heap) (ho : Y.os = X.os) (ht : Y.tape = X.tape) (hp : Y.output = X.output) : Km L R M w Z :=
 h.keep ⟨hB.os.trans ho, hB.tape.trans ht, hB.output.trans hp, by rw [← he]; exact hB.size, fun k hk => (hB.block k (by rw [he]; exact hk)).trans (by rw [he])⟩
theorem Km.drew {L : List (Nat × Obj)} {R : List Rw} {M : List Mp} {w X : World} (h : Km L R M w X) : Km L R M w X.drew := h.call (Below.refl _ _) rfl rfl rfl rfl
theorem Km.alloc {L : List (Nat × Obj)} {R : List Rw} {M : List Mp} {w X : World} (h : Km L R M w X) (o : Obj) : Km ((X.heap.size, o) :: L) R M w (X.alloc o) :=
 ⟨h.kp.alloc o, fun m hm => (h.map m hm).alloc o, h.own, fun m hm p hp => by
  rcases List.mem_cons.1 hp with rfl | hp
  · have := (h.map m hm).lt
    dsimp only
    omega
  · exact h.offL m hm p hp, h.offR, h.offM⟩
theorem Km.allocAt {L : List (Nat × Obj)} {R : List Rw} {M : List Mp} {w X : World} (h : Km L R M w X) (b : Nat) (hb : X.heap.size = b) (o : Obj) : Km ((b, o) :: L) R M w (X.alloc o) := by
 subst hb; exact h.alloc o
theorem Km.drop {p : Nat × Obj} {L : List (Nat × Obj)} {R : List Rw} {M : List Mp} {w X : World} (h : Km (p :: L) R M w X) : Km L R M w X :=
 ⟨h.kp.drop, h.map, h.own, fun m hm q hq => h.offL m hm q (List.mem_cons_of_mem _ hq), h.offR, h.offM⟩
theorem Km.fresh {L : List (Nat × Obj)} {R : List Rw} {M : List Mp} {w X : World} (h : Km L R M w X) (e : TypeId) (sz : Nat) : Km L (⟨.slice none 0 0, e, sz, 0, []⟩ :: R) M w X :=
 ⟨h.kp.fresh e sz, h.map, h.own, h.offL, fun m hm r hr => by
  rcases List.mem_cons.1 hr with rfl | hr
  · simp [Value.ownBlock]
  · exact h.offR m hm r hr, h.offM⟩
theorem Km.swap {L : List (Nat × Obj)} {R : List Rw} {M : List Mp} {r s : Rw} {w X : World} (h : Km L (r :: s :: R) M w X) : Km L (s :: r :: R) M w X :=
 ⟨h.kp.swap, h.map, h.own, h.offL, fun m hm x hx => h.offR m hm x ((List.Perm.swap r s R).subset hx), h.offM⟩
theorem Km.made {L : List (Nat × Obj)} {R : List Rw} {M : List Mp} {w X : World} (h : Km L R M w X) (k e : TypeId) : Km L R (⟨X.heap.size, k, e, 0, .map []⟩ :: M) w (X.alloc (.map #[] 0)) := by
 refine ⟨(h.kp.alloc _).drop, fun m hm => ?_, fun m hm => ?_, fun m hm p hp => ?_, fun m hm r hr => ?_, List.pairwise_cons.2 ⟨fun m hm => ?_, h.offM⟩⟩
 · rcases List.mem_cons.1 hm with rfl | hm
   · exact World.ownsMap_made _ _ _ _
   · exact (h.map m hm).alloc _
 · rcases List.mem_cons.1 hm with rfl | hm
   · exact h.below.size
   · exact h.own m hm
 · rcases List.mem_cons.1 hm with rfl | hm
   · obtain ⟨k, hk, rfl⟩ := List.getElem_of_mem hp
     exact Nat.ne_of_lt (h.kp.lt k (b := L[k].1) (o := L[k].2) (by rw [List.getElem?_eq_getElem hk]))
   · exact h.offL m hm p hp
 · rcases List.mem_cons.1 hm with rfl | hm
   · intro e
     have := ((h.kp.own r hr).lt _ e).2
     dsimp only at this
     omega
   · exact h.offR m hm r hr
 · have := (h.map m hm).lt
   dsimp only
   omega
theorem Km.turn {L : List (Nat × Obj)} {R : List Rw} {M : List Mp} {m : Mp} {w X Z : World} {n' : Nat} {D' : DataW Unit} (h : Km L R (m :: M) w X) (hg : X.grownBy Z (some m.b)) (ho : Z.ownsMap Tryz.prog m.k (plainElem Tryz.prog m.e) m.b n' D') : Km L R (⟨m.b, m.k, m.e, n', D'⟩ :: M) w Z := by
 obtain ⟨hp1, hp2⟩ := List.pairwise_cons.1 h.offM
 refine ⟨h.kp.grown hg (h.own m (List.mem_cons_self ..)) (h.offL m (List.mem_cons_self ..)) (h.offR m (List.mem_cons_self ..)), fun x hx => ?_, fun x hx => ?_, fun x hx => ?_, fun x hx => ?_, List.pairwise_cons.2 ⟨fun x hx => hp1 x hx, hp2⟩⟩
 · rcases List.mem_cons.1 hx with rfl | hx
   · exact ho
   · exact (h.map x (List.mem_cons_of_mem _ hx)).kept hg (fun e => hp1 x hx (Option.some.inj e).symm)
 · rcases List.mem_cons.1 hx with rfl | hx
   · exact h.own m (List.mem_cons_self ..)
   · exact h.own x (List.mem_cons_of_mem _ hx)
 · rcases List.mem_cons.1 hx with rfl | hx
   · exact h.offL m (List.mem_cons_self ..)
   · exact h.offL x (List.mem_cons_of_mem _ hx)
 · rcases List.mem_cons.1 hx with rfl | hx
   · exact h.offR m (List.mem_cons_self ..)
   · exact h.offR x (List.mem_cons_of_mem _ hx)
theorem Km.append {L : List (Nat × Obj)} {R : List Rw} {M : List Mp} {r : Rw} {w X Z : World} {v' : Value} {n' : Nat} {xs' : List Value} (h : Km L (r :: R) M w X) (ho : Z.ownsRow w.heap.size r.e r.sz v' n' xs') (hg : X.grownBy Z r.v.ownBlock)
 (hat : v'.ownBlock = r.v.ownBlock ∨ v'.ownBlock = some X.heap.size) : Km L (⟨v', r.e, r.sz, n', xs'⟩ :: R) M w Z := by
 refine ⟨h.kp.append ho hg hat, fun m hm => (h.map m hm).kept hg (fun e => h.offR m hm r (List.mem_cons_self ..) e.symm), h.own, h.offL, fun m hm x hx => ?_, h.offM⟩
 rcases List.mem_cons.1 hx with rfl | hx
 · rcases hat with hat | hat
   · dsimp only
     rw [hat]
     exact h.offR m hm r (List.mem_cons_self ..)
   · dsimp only
     rw [hat]
     intro e
     have := (h.map m hm).lt
     have := Option.some.inj e
     omega
 · exact h.offR m hm x (List.mem_cons_of_mem _ hx)
end Go.Proofs.YtkpmmabdpeobaaaGreatDoor.Px
namespace Go.Proofs.YtkpmmabdpeobaaaGreatDoor.Px
open Go.RowKit
open Go.Maps (Keyed)
open Tb
structure FnOf (D : DataW Unit) (g : Lit → Option (DataW Unit)) : Prop where
 isMap : Maps.IsMap D
 has : ∀ k, WideAt.IsKeyLit k → Maps.has D k = (g k).isSome
 val : ∀ k, WideAt.IsKeyLit k → ∀ z, D.atKey k z = (g k).getD z
theorem FnOf.empty : FnOf (.map []) (fun _ => none) := ⟨Maps.isMap_empty, fun _ _ => rfl, fun _ _ _ => rfl⟩
theorem FnOf.put {D : DataW Unit} {g : Lit → Option (DataW Unit)} (h : FnOf D g) {k : Lit} (hk : WideAt.IsKeyLit k) (d : DataW Unit) : FnOf (D.put k d) (fun x => if x.sameKey k = true then some d else g x) := by
 have hs : ∀ x : Lit, x.sameKey k = true ↔ x = k := fun x => ⟨WideAt.sameKey_eq, fun e => by rw [e]; exact WideAt.sameKey_self hk⟩
 refine ⟨h.isMap.put k d, fun x hx => ?_, fun x hx z => ?_⟩
 · by_cases e : x = k
   · rw [if_pos ((hs x).2 e)]
     subst e
     rw [Maps.has_put_same h.isMap hk]
     rfl
   · rw [if_neg (fun q => e ((hs x).1 q)), Maps.has_put_other e]
     exact h.has x hx
 · by_cases e : x = k
   · rw [if_pos ((hs x).2 e)]
     subst e
     rw [Maps.atKey_put_same h.isMap hk]
     rfl
   · rw [if_neg (fun q => e ((hs x).1 q)), Maps.atKey_put_other e]
     exact h.val x hx z
theorem plainElem_bool_inv {P : Program} {e : TypeId} (he : P.underlying e = some .bool) {v : Value} {z : DataW Unit × List MemPlace} (h : plainElem P e v = some z) : ∃ a, v = .bool a ∧ z = (.lit (.bool a), []) := by
 unfold plainElem at h
 rw [he] at h
 cases v <;> simp at h
 exact ⟨_, rfl, h.symm⟩
section
variable {P : Program} (w : World) {ops : Array Oper} {rest : List Oper} {o : Oper} {a : Act} {Q : Exit → Act → World → Prop}
theorem wpList_look_bool (hg : o.guard = none) (m x : Operand) (t : TypeId) (hop : o.op = Op.lookup t m x false)
 (k e : TypeId) (K : Keyed P k) (ht : P.underlying t = some (.map k e)) (he : P.underlying e = some .bool) (hz : (zeroValue e).run P w = .ok (.bool false) w) (b n : Nat) (D : DataW Unit) (g : Lit → Option (DataW Unit)) (hD : FnOf D g)
 (hm : a.eval m = .map (some b)) (hown : w.ownsMap P k (plainElem P e) b n D) (key : Value) (kl : Lit) (hx : a.eval x = key) (hkey : keyOf P k key = some kl) (c : Bool) (hc : (g kl).getD (.lit (.bool false)) = .lit (.bool c))
 (hK : wpList P ops Q rest (a.put o.dst (.bool c)) w) :
 wpList P ops Q (o :: rest) a w := by
 refine wpList_plain hg fun K' hK' => ?_
 obtain ⟨v, ps, hrun, hv⟩ := hown.lookup K ht hz (plainElem_bool he false) hkey
 obtain ⟨c', rfl, hc'⟩ := plainElem_bool_inv he hv
 rw [hD.val kl (K.key hkey), hc] at hc'
 obtain rfl : c = c' := by simpa using (congrArg Prod.fst hc')
 unfold Oper.wp
 simp [execOp, hop, hm, hx, hrun, Result.andThen]
 exact hK' _ _ hK
theorem wpList_look_ok_int (hg : o.guard = none) (m x : Operand) (t : TypeId) (hop : o.op = Op.lookup t m x true)
 (k e : TypeId) (q : IntKind) (K : Keyed P k) (ht : P.underlying t = some (.map k e)) (he : P.underlying e = some (.int q)) (hz : (zeroValue e).run P w = .ok (.int q 0) w) (b n : Nat) (D : DataW Unit) (g : Lit → Option (DataW Unit)) (hD : FnOf D g)
 (hm : a.eval m = .map (some b)) (hown : w.ownsMap P k (plainElem P e) b n D) (key : Value) (kl : Lit) (hx : a.eval x = key) (hkey : keyOf P k key = some kl) (c : Int) (hc : (g kl).getD (.lit (.int q 0)) = .lit (.int q c)) (r : Bool) (hr : (g kl).isSome = r)
 (hK : wpList P ops Q rest (a.put o.dst (.tuple #[.int q c, .bool r])) w) :
 wpList P ops Q (o :: rest) a w :=
 wpList_lookup_own_ok_int w hg m x t hop k e q K ht he hz b n D hm hown key kl hx hkey fun c' hat _ => by
  rw [hD.val kl (K.key hkey), hc] at hat
  obtain rfl : c = c' := by simpa using hat
  rw [hD.has kl (K.key hkey), hr]
  exact hK
end
theorem zero_bool (w : World) : (zeroValue 4).run Tryz.prog w = .ok (.bool false) w := by kernel_rfl
theorem zero_int (w : World) : (zeroValue 3).run Tryz.prog w = .ok (.int .i64 0) w := by kernel_rfl
/-! ### local times as keys -/
theorem loc_laid : laidOutB Tryz.prog = true := by kernel_rfl
theorem loc_row : (28 : TypeId) < Tryz.prog.types.size := of_decide_eq_true (by kernel_rfl)
theorem loc_wide : (match Tryz.prog.underlying 28 with | some (.array _ _) | some (.struct _) => true | _ => false) = true := by kernel_rfl
set_option maxRecDepth 1000000 in
theorem loc_keyed : Keyed Tryz.prog 28 := Keyed.of_law (deep_law_laid loc_laid (m := 2) (by omega) loc_row (by kernel_rfl) loc_wide)
theorem loc_cells : Tryz.prog.cellsOf 28 = 3 := by kernel_rfl
theorem str_cells1 : Tryz.prog.cellsOf 9 = 1 := by kernel_rfl
theorem bool_cells1 : Tryz.prog.cellsOf 4 = 1 := by kernel_rfl
theorem i64_cells1 : Tryz.prog.cellsOf 2 = 1 := by kernel_rfl
theorem loc_type : Tryz.prog.keyType 28 = true := by kernel_rfl
def lcKey (l : Lc) : Lit := .string (keyBytes [.int .i64 l.off, .bool l.dst, .string l.abbr.data.toList])
theorem lc_formed (l : Lc) : l.val.formed Tryz.prog 28 = true := by
 unfold Lc.val Value.formed
 rw [Tryz.underlying28, loc_cells]
 rfl
set_option maxRecDepth 1000000 in
theorem lcKey_is {l : Lc} (h : (Lit.int .i64 l.off).wf = true) (hs : l.abbr.size ≤ maxLen) : keyOf Tryz.prog 28 l.val = some (lcKey l) := by
 have h1 : Tryz.prog.keyLits (Tryz.prog.types.size + 1) 28 l.val.cells.toList = some [.int .i64 l.off, .bool l.dst, .string l.abbr.data.toList] := by
  obtain ⟨k, hk⟩ : ∃ k, Tryz.prog.types.size = k + 1 := ⟨Tryz.prog.types.size - 1, (Nat.succ_pred_eq_of_pos (Nat.lt_of_le_of_lt (Nat.zero_le _) loc_row)).symm⟩
  rw [hk]
  unfold Program.keyLits
  rw [Tryz.underlying28, loc_cells]
  simp [Lc.val, Value.cells, Program.keyLits, Tryz.underlying2, Tryz.underlying4, Tryz.underlying9, i64_cells1, bool_cells1, str_cells1, h, hs]
 unfold keyOf
 rw [Tryz.underlying28, loc_type, lc_formed, h1]
 rfl
theorem Lc.val_inj {a b : Lc} (h : a.val = b.val) : a = b := by
 obtain ⟨_, _, _⟩ := a
 obtain ⟨_, _, _⟩ := b
 simpa [Lc.val] using h
theorem lcKey_inj {a b : Lc} (ha : (Lit.int .i64 a.off).wf = true) (hsa : a.abbr.size ≤ maxLen) (hb : (Lit.int .i64 b.off).wf = true) (hsb : b.abbr.size ≤ maxLen) (h : lcKey a = lcKey b) : a = b := by
 have h1 := lcKey_is ha hsa
 have h2 := lcKey_is hb hsb
 rw [← h] at h2
 exact Lc.val_inj (loc_keyed.inj h1 h2)
theorem str_keyed : Keyed Tryz.prog 9 := Maps.string_keyed Tryz.underlying9
theorem strKey_is {s : ByteArray} (h : s.size ≤ maxLen) : keyOf Tryz.prog 9 (.string s) = some (.string s.data.toList) := WideMaps.keyOf_string_mk Tryz.underlying9 h
end Go.Proofs.YtkpmmabdpeobaaaGreatDoor.Px
namespace Go.Proofs.YtkpmmabdpeobaaaGreatDoor.Px
open Go.RowKit
def SlV (W : World) (v : Value) (sz n : Nat) (xs : List Value) : Prop :=
 xs.length = n * sz ∧ ∃ a c, v = .slice a n c ∧ n ≤ c ∧ c ≤ maxLen ∧ (n = 0 ∨ ∃ b o, a = some ⟨b, o, none⟩ ∧ b < W.heap.size ∧ ∀ (j : Nat) (u : Value), xs[j]? = some u → W.cell? ⟨b, o + j, none⟩ = some u)
theorem SlV.keep {W W' : World} {v : Value} {sz n : Nat} {xs : List Value} (h : SlV W v sz n xs) (hB : Below W.heap.size W W') : SlV W' v sz n xs := by
 obtain ⟨h0, a, c, e, h1, h2, h3⟩ := h
 refine ⟨h0, a, c, e, h1, h2, ?_⟩
 rcases h3 with h3 | ⟨b, o, ea, hb, hc⟩
 · exact .inl h3
 · exact .inr ⟨b, o, ea, Nat.lt_of_lt_of_le hb hB.size, fun j u hu => (hB.cell (p := ⟨b, o + j, none⟩) hb).trans (hc j u hu)⟩
theorem SlV.nil (W : World) (sz : Nat) : SlV W (.slice none 0 0) sz 0 [] := ⟨by simp, none, 0, rfl, by omega, by unfold maxLen; omega, .inl rfl⟩
theorem SlV.of_own {W : World} {B : Nat} {e : TypeId} {sz n : Nat} {v : Value} {xs : List Value} (h : W.ownsRow B e sz v n xs) : SlV W v sz n xs := by
 refine ⟨h.1, ?_⟩
 rcases own_cells h with ⟨h0, hv⟩ | ⟨g, cap, hv, hn, hm, hg, hc⟩
 · subst h0
   exact ⟨none, 0, hv, by omega, by unfold maxLen; omega, .inl rfl⟩
 · exact ⟨some ⟨g, 0, none⟩, cap, hv, hn, hm, .inr ⟨g, 0, rfl, hg, fun j u hu => by rw [Nat.zero_add]; exact hc j u hu⟩⟩
theorem SlV.of_block {W : World} {b : Nat} {cs : Array Value} {T : TypeId} {sz n c : Nat} (hb : W.heap[b]? = some (.cells cs T (0, 0))) (h1 : n ≤ c) (h2 : c ≤ maxLen) (hs : n * sz ≤ cs.size) : SlV W (.slice (some ⟨b, 0, none⟩) n c) sz n (cs.toList.take (n * sz)) := by
 refine ⟨by rw [List.length_take, Array.length_toList]; omega, _, c, rfl, h1, h2, .inr ⟨b, 0, rfl, lt_of_block hb, fun j u hu => ?_⟩⟩
 rw [List.getElem?_take] at hu
 split at hu
 · rw [Nat.zero_add]
   have := cell_of_row W b j cs T (0, 0) hb
   rw [this]
   simpa using hu
 · cases hu
theorem flat_at {α : Type} (f : α → List Value) (sz : Nat) (hf : ∀ x, (f x).length = sz) : ∀ (L : List α) (i j : Nat), j < sz → (L.flatMap f)[i * sz + j]? = (L[i]?).bind (fun x => (f x)[j]?)
 | [], i, j, _ => by simp
 | x :: r, 0, j, hj => by
   rw [List.flatMap_cons, Nat.zero_mul, Nat.zero_add, List.getElem?_append_left (by rw [hf]; exact hj)]
   rfl
 | x :: r, i + 1, j, hj => by
   have e : (i + 1) * sz + j = i * sz + j + (f x).length := by rw [hf, Nat.add_mul]; omega
   rw [List.flatMap_cons, e, List.getElem?_append_right (by omega), Nat.add_sub_cancel, flat_at f sz hf r i j hj]
   rfl
end Go.Proofs.YtkpmmabdpeobaaaGreatDoor.Px
namespace Go.Proofs.YtkpmmabdpeobaaaGreatDoor.Px
open Go.RowKit
open Go.Joins Go.ChangeShapes Go.WideShapes Go.Deep
open Tb
def Lc.cells (l : Lc) : List Value := [.int .i64 l.off, .bool l.dst, .string l.abbr]
def Tr.cells (x : Tr) : List Value := [.int .i64 x.at', .int .i64 x.ty]
def LcV (W : World) (v : Value) (L : List Lc) : Prop := SlV W v 3 L.length (L.flatMap Lc.cells)
def TrV (W : World) (v : Value) (L : List Tr) : Prop := SlV W v 2 L.length (L.flatMap Tr.cells)
theorem LcV.keep {W W' : World} {v : Value} {L : List Lc} (h : LcV W v L) (hB : Below W.heap.size W W') : LcV W' v L := SlV.keep h hB
theorem TrV.keep {W W' : World} {v : Value} {L : List Tr} (h : TrV W v L) (hB : Below W.heap.size W W') : TrV W' v L := SlV.keep h hB
theorem LcV.own {W : World} {B n : Nat} {e : TypeId} {v : Value} {L : List Lc} (h : W.ownsRow B e 3 v n (L.flatMap Lc.cells)) (hn : n = L.length) : LcV W v L := by subst hn; exact SlV.of_own h
theorem TrV.own {W : World} {B n : Nat} {e : TypeId} {v : Value} {L : List Tr} (h : W.ownsRow B e 2 v n (L.flatMap Tr.cells)) (hn : n = L.length) : TrV W v L := by subst hn; exact SlV.of_own h
theorem LcV.nil (W : World) : LcV W (.slice none 0 0) [] := SlV.nil W 3
theorem TrV.nil (W : World) : TrV W (.slice none 0 0) [] := SlV.nil W 2
theorem lc_at (L : List Lc) {i : Nat} {l : Lc} (h : L[i]? = some l) : (L.flatMap Lc.cells)[i * 3 + 0]? = some (.int .i64 l.off) ∧ (L.flatMap Lc.cells)[i * 3 + 1]? = some (.bool l.dst) ∧ (L.flatMap Lc.cells)[i * 3 + 2]? = some (.string l.abbr) := by
 refine ⟨?_, ?_, ?_⟩ <;> (rw [flat_at Lc.cells 3 (fun _ => rfl) L i _ (by omega), h]; rfl)
theorem tr_at (L : List Tr) {i : Nat} {l : Tr} (h : L[i]? = some l) : (L.flatMap Tr.cells)[i * 2 + 0]? = some (.int .i64 l.at') ∧ (L.flatMap Tr.cells)[i * 2 + 1]? = some (.int .i64 l.ty) := by
 refine ⟨?_, ?_⟩ <;> (rw [flat_at Tr.cells 2 (fun _ => rfl) L i _ (by omega), h]; rfl)
theorem LcV.all {W : World} {v : Value} {L : List Lc} (h : LcV W v L) (h0 : 0 < L.length) : ∃ b o c, v = .slice (some ⟨b, o, none⟩) L.length c ∧ L.length ≤ c ∧ c ≤ maxLen ∧ b < W.heap.size ∧
 ∀ (i : Nat) (l : Lc), L[i]? = some l → W.cell? ⟨b, o + i * 3, none⟩ = some (.int .i64 l.off) ∧ W.cell? ⟨b, o + i * 3 + 1, none⟩ = some (.bool l.dst) ∧ W.cell? ⟨b, o + i * 3 + 2, none⟩ = some (.string l.abbr) := by
 obtain ⟨_, a, c, rfl, h1, h2, h3⟩ := h
 rcases h3 with h3 | ⟨b, o, rfl, hb, hc⟩
 · omega
 · refine ⟨b, o, c, rfl, h1, h2, hb, fun i l hi => ?_⟩
   obtain ⟨h0, h1, h2⟩ := lc_at L hi
   exact ⟨hc _ _ h0, hc _ _ h1, hc _ _ h2⟩
theorem TrV.all {W : World} {v : Value} {L : List Tr} (h : TrV W v L) (h0 : 0 < L.length) : ∃ b o c, v = .slice (some ⟨b, o, none⟩) L.length c ∧ L.length ≤ c ∧ c ≤ maxLen ∧ b < W.heap.size ∧
 ∀ (i : Nat) (l : Tr), L[i]? = some l → W.cell? ⟨b, o + i * 2, none⟩ = some (.int .i64 l.at') ∧ W.cell? ⟨b, o + i * 2 + 1, none⟩ = some (.int .i64 l.ty) := by
 obtain ⟨_, a, c, rfl, h1, h2, h3⟩ := h
 rcases h3 with h3 | ⟨b, o, rfl, hb, hc⟩
 · omega
 · refine ⟨b, o, c, rfl, h1, h2, hb, fun i l hi => ?_⟩
   obtain ⟨h0, h1⟩ := tr_at L hi
   exact ⟨hc _ _ h0, hc _ _ h1⟩
theorem LcV.slice {W : World} {v : Value} {L : List Lc} (h : LcV W v L) : ∃ a c, v = .slice a L.length c ∧ L.length ≤ c ∧ c ≤ maxLen := by
 obtain ⟨_, a, c, e, h1, h2, _⟩ := h
 exact ⟨a, c, e, h1, h2⟩
theorem TrV.slice {W : World} {v : Value} {L : List Tr} (h : TrV W v L) : ∃ a c, v = .slice a L.length c ∧ L.length ≤ c ∧ c ≤ maxLen := by
 obtain ⟨_, a, c, e, h1, h2, _⟩ := h
 exact ⟨a, c, e, h1, h2⟩
def Lc.Fit (l : Lc) : Prop := (Lit.int .i64 l.off).wf = true ∧ l.abbr.size ≤ maxLen
def Tr.Fit (x : Tr) : Prop := (Lit.int .i64 x.at').wf = true ∧ (Lit.int .i64 x.ty).wf = true
structure TabV (W : World) (tv rv : Value) (f : ByteArray) (x : Tab) : Prop where
 types : LcV W tv x.types
 trans : TrV W rv x.trans
 foot : f = bs x.foot
 lcs : ∀ l ∈ x.types, Lc.Fit l
 trs : ∀ l ∈ x.trans, Tr.Fit l
theorem TabV.keep {W W' : World} {tv rv : Value} {f : ByteArray} {x : Tab} (h : TabV W tv rv f x) (hB : Below W.heap.size W W') : TabV W' tv rv f x := ⟨h.types.keep hB, h.trans.keep hB, h.foot, h.lcs, h.trs⟩
theorem list_of {α : Type} {Q : Nat → α → Prop} : ∀ n : Nat, (∀ i, i < n → ∃ x, Q i x) → ∃ L : List α, L.length = n ∧ ∀ (i : Nat) (x : α), L[i]? = some x → Q i x
 | 0, _ => ⟨[], rfl, fun i x h => by simp at h⟩
 | n + 1, h => by
   obtain ⟨L, hl, hq⟩ := list_of n (fun i hi => h i (by omega))
   obtain ⟨x, hx⟩ := h n (by omega)
   refine ⟨L ++ [x], by simp [hl], fun i y hy => ?_⟩
   by_cases hi : i < n
   · rw [List.getElem?_append_left (by omega)] at hy
     exact hq i y hy
   · rw [List.getElem?_append_right (by omega)] at hy
     have : i = n := by
      by_cases e : i = n
      · exact e
      · rw [List.getElem?_eq_none (by simp; omega)] at hy
        cases hy
     subst this
     rw [hl, Nat.sub_self] at hy
     simp only [List.getElem?_cons_zero, Option.some.injEq] at hy
     subst hy
     exact hx
end Go.Proofs.YtkpmmabdpeobaaaGreatDoor.Px
