/- The function table.Of: the table of some changes. -/
import Derived.Test.YtkpmmabdpeobaaaGreatDoorSU20
import Derived.Test.YtkpmmabdpeobaaaGreatDoorSU17
import Derived.Laws.AppendOwnNone
import Derived.Deep.QuietTactic
import Derived.BigQuiet
namespace Go.Proofs.YtkpmmabdpeobaaaGreatDoor.Px
open Go.RowKit
open Tb
theorem trs_snoc (l : List Tr) (x : Tr) : (l ++ [x]).flatMap Tr.cells = l.flatMap Tr.cells ++ [.int .i64 x.at', .int .i64 x.ty] := by simp [Tr.cells]
theorem transOf_fit : ∀ (at' : List Int) (ks : List Nat) (prev : Nat), (∀ t ∈ at', (Lit.int .i64 t).wf = true) → (∀ k ∈ ks, k ≤ 1000000) → ∀ x ∈ transOf prev at' ks, Tr.Fit x
 | [], ks, prev, _, _, x, hx => by cases ks <;> simp [transOf] at hx
 | _ :: _, [], _, _, _, x, hx => by simp [transOf] at hx
 | t :: at', k :: ks, prev, h1, h2, x, hx => by
   have ih := transOf_fit at' ks k (fun t ht => h1 t (List.mem_cons_of_mem _ ht)) (fun k hk => h2 k (List.mem_cons_of_mem _ hk))
   unfold transOf at hx
   split at hx
   · exact ih x hx
   · rcases List.mem_cons.1 hx with rfl | hx
     · have := h2 k (List.mem_cons_self ..)
       exact ⟨h1 t (List.mem_cons_self ..), wf_64 (by dsimp only; omega)⟩
     · exact ih x hx
theorem diff_bound : ∀ (l ts : List Lc), ∀ k ∈ (diffGo ts l).2, k < ts.length + l.length
 | [], _, k, h => by simp [diffGo] at h
 | x :: r, ts, k, h => by
   by_cases hx : x ∈ ts
   · simp only [diffGo, if_pos hx] at h
     rcases List.mem_cons.1 h with rfl | h
     · have := List.idxOf_lt_length_of_mem hx
       omega
     · have := diff_bound r ts k h
       rw [List.length_cons]
       omega
   · simp only [diffGo, if_neg hx] at h
     rcases List.mem_cons.1 h with rfl | h
     · rw [List.length_cons]
       omega
     · have := diff_bound r _ k h
       rw [List.length_append] at this
       simp only [List.length_cons, List.length_nil] at this ⊢
       omega
theorem ofT_len {first : Lc} {at' : List Int} {l : List Lc} {f : List UInt8} (h : at'.length ≠ l.length) : ofT first at' l f = (⟨[], [], []⟩, 2) := by unfold ofT; rw [if_pos h]
def tabR (tv rv : Value) (x : Tab) : List Rw := [⟨rv, 36, 2, x.trans.length, x.trans.flatMap Tr.cells⟩, ⟨tv, 28, 3, x.types.length, x.types.flatMap Lc.cells⟩]
structure TabFit (x : Tab) : Prop where
 lcs : ∀ l ∈ x.types, Lc.Fit l
 trs : ∀ t ∈ x.trans, Tr.Fit t
theorem Kp.tab {L : List (Nat × Obj)} {R : List Rw} {tv rv : Value} {x : Tab} {W X : World} (h : Kp L (tabR tv rv x ++ R) W X) (hf : TabFit x) : TabV X tv rv (bs x.foot) x :=
 ⟨LcV.own (h.row 1 rfl) rfl, TrV.own (h.row 0 rfl) rfl, rfl, hf.lcs, hf.trs⟩
theorem empty_kp {L : List (Nat × Obj)} {R : List Rw} {W X : World} (h : Kp L R W X) : Kp [] (tabR (.slice none 0 0) (.slice none 0 0) ⟨[], [], []⟩) W X := (((h.pick (List.nil_sublist _)).less (List.nil_sublist _)).fresh 28 3).fresh 36 2
theorem empty_fit : TabFit ⟨[], [], []⟩ := ⟨(fun _ h => by cases h), (fun _ h => by cases h)⟩
end Go.Proofs.YtkpmmabdpeobaaaGreatDoor.Px
