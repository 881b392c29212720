/- slices.AppendSeq and slices.Collect over slices.Values, at strings. -/
import Derived.Test.YtkfgonbopgdmgaaDoorVaS
import Derived.RangeFuncBox
import Derived.OwnWalkIn
namespace Go.Proofs.YtkfgonbopgdmgaaDoor.Px
open Go.RowKit Go.Shelf
attribute [local go_sem] Oper.semAt_some

theorem Kp.one {r : Rw} {w X : World} (hB : Below w.heap.size w X) (ho : X.ownsRow w.heap.size r.e r.sz r.v r.n r.xs) : Kp [] [r] w X :=
  ⟨Known.nil hB, fun s hs => by rw [List.mem_singleton.1 hs]; exact ho, fun s _ g _ p hp => (by cases hp), List.pairwise_singleton _ _⟩
/-- what has come so far, in the variable's box -/
def Coll (w : World) (pre : List (List UInt8)) (W : World) : Prop := (∃ v, Boxed W w.heap.size 22 v ∧ W.ownsRow w.heap.size 9 1 v pre.length (pre.map sv) ∧ True) ∧ Below w.heap.size w W
theorem Coll.own (w : World) (B : Nat) (hB : w.heap.size ≤ B) : OwnFrom B (Coll w) :=
  OwnFrom.and ((holdsRow_own w.heap.size w.heap.size 22 9 1 (fun pre : List (List UInt8) => pre.length) (fun pre => pre.map sv) (fun _ _ => True)).from B) (ownFrom_below (Nat.le_refl _) hB)
set_option maxHeartbeats 4000000 in
set_option maxRecDepth 100000 in
theorem appendSeq_any (D : List (List UInt8)) (Bs : Nat) (v : Value) (w : World) (hBs : w.heap[Bs]? = some (.cells #[v] 22 (0, 0))) (hV : StrV w v D) (hD : D.length ≤ 1000000) :
    Calls Tryd.prog 81 #[.slice none 0 0, .func (.func 65) #[] #[.pointer (some ⟨Bs, 0, none⟩)]] w fun e w' => ∃ tv, e = .returned tv ∧ Kp [] [⟨tv, 9, 1, D.length, D.map sv⟩] w w' := by
  obtain ⟨i0, hi, hz0, hz1, hz2⟩ := info_parts' infoS
  have hseq := values_steps 4 (by omega) D Bs v w hBs hV hD
  have HD := Lib.hid hD
  clear hBs hV hD
  refine (callsIn_wide (n := 5)).1 ?_
  refine callsIn_of_wp_marks Tryd.func81 rfl trivial ?_ rfl
  simp only [Tryd.ntmps81, List.size_toArray, List.length_cons, List.length_nil, Nat.reduceAdd, Nat.reduceSub, Array.replicate_succ, Array.replicate_zero, List.push_toArray, List.append_toArray, List.nil_append, List.cons_append]
  gi_wp2
  generalize hW0 : World.alloc w _ = W0
  have hz : W0.heap.size = w.heap.size + 1 := by rw [← hW0]; simp
  have hb0 : Below w.heap.size w W0 := by rw [← hW0]; exact (Below.refl _ w).alloc (Nat.le_refl _) _
  have hx0 : Boxed W0 w.heap.size 22 (.slice none 0 0) := by rw [← hW0]; exact Boxed.new _ _ _
  have h00 : Coll w [] W0 := ⟨⟨_, hx0, ⟨rfl, .inl ⟨rfl, rfl⟩⟩, trivial⟩, hb0⟩
  clear hW0 hx0
  refine rangeFunc_steps rfl (by omega) (gf := 65) (lb := #[.pointer (some ⟨Bs, 0, none⟩)]) rfl trivial (enters_of Tryd.func65 (by kernel_rfl) rfl)
    hseq (fun A B k hst _ => by rw [hst]) (fun h k x hx => (k x hx).trans (h x hx))
    (fun W l o o' hl _ _ _ x hx => World.putObj_heap_other (by omega))
    hb0 (fun _ => rfl)
    (Coll w) (fun _ _ _ => False) (Coll.own w _ (by omega)) (fun c s W W' row h _ _ => h.elim)
    (fun pre A B h hst => by rw [← hst]; exact h) (fun c pre A B h _ => h.elim) h00
    (fun x => { tmps := #[.slice none 0 0, .func (.func 65) #[] #[.pointer (some ⟨Bs, 0, none⟩)], .pointer (some ⟨w.heap.size, 0, none⟩), undef, .slice none 0 0, .string (bs x), .func (.func 65) #[] #[.pointer (some ⟨Bs, 0, none⟩)], .string (bs x), undef, undef, undef, undef, undef], defers := [] }) ?assign ?body ?done ?stop
  case assign =>
    intro l x W K hK
    gi_wp2
    exact hK
  case body =>
    rintro l pre x W ⟨⟨v, hv, hrow, -⟩, hB⟩ hlen
    have hcl := hv.cell
    have hfr := hv.frozen
    have hne : 22 ≠ 9 := by decide
    have hs : w.heap.size ≤ W.heap.size := hB.size
    have hpl := HD.out
    have HV := Lib.hid hv
    have HR := Lib.hid hrow
    have HB := Lib.hid hB
    obtain ⟨sx, hsx⟩ : ∃ s, bs x = s := ⟨_, rfl⟩
    have HX := Lib.hid hsx
    rw [hsx]
    clear hseq hv hrow hB hsx
    gi_wp2_with (first
      | (gi_at_builtin; refine wpListIn_append_own _ rfl _ _ 22 rfl w.heap.size 9 i0 (.string ⟨#[]⟩) 1 16 Tryd.underlying22 hi hz0 hz1 hz2 rfl (by decide) v pre.length _ rfl (HR.out.alloc _) ⟨W.heap.size, 0, none⟩ 1 1 [.string sx] rfl rfl ?_ ?_ ?_ ?_ ?_ ?_; (exact fun j u hu => World.news_of_block (heap_new W _) j u hu); (simp [Value.oneCell']); (unfold maxLen; omega); (omega); (simp; omega); intro v' w1 hown hgrow _; obtain ⟨g', cap', rfl⟩ := ownsRow_succ hown; have HA := Lib.hid (HV.out.appended hne HR.out hs (Nat.le_refl _) hown hgrow); have ka := HA.out.1.cell; have kb := HA.out.1.frozen; clear hown hgrow)
      | gi_in)
    obtain ⟨-, q2, q3, q4, q5⟩ := HA.out
    refine ⟨q4, fun k hk => q5.block k hk, ⟨⟨_, q2, ?_, trivial⟩, HB.out.trans q5⟩⟩
    rw [svs_snoc, List.length_append, HX.out]
    exact q3
  case done =>
    rintro Dd ys W hDd hys ⟨⟨v, hv, hrow, -⟩, hB⟩ hK
    obtain rfl : ys = D := hys
    have hcl := hv.cell
    gi_wp2
    refine ⟨by simp, .inl ⟨_, _, rfl, run_takeDeferred hK, ?_⟩⟩
    refine ⟨_, results_tmp rfl _ _ _, v, rfl, ?_⟩
    refine Kp.one (hB.trans (belowK_b (w := w) (Nat.le_refl _) W Dd _ _ (by omega) hK rfl rfl)) (ownsRow_putObj hrow _ hK rfl)
  case stop =>
    rintro Dd c pre W hDd hpre h hK
    exact h.elim
set_option maxHeartbeats 2000000 in
theorem collect_any (D : List (List UInt8)) (Bs : Nat) (v : Value) (w : World) (hBs : w.heap[Bs]? = some (.cells #[v] 22 (0, 0))) (hV : StrV w v D) (hD : D.length ≤ 1000000) :
    Calls Tryd.prog 63 #[.func (.func 65) #[] #[.pointer (some ⟨Bs, 0, none⟩)]] w fun e w' => ∃ tv, e = .returned tv ∧ Kp [] [⟨tv, 9, 1, D.length, D.map sv⟩] w w' := by
  have C := Lib.hid (appendSeq_any D Bs v w hBs hV hD)
  clear hBs hV hD
  go_enter Tryd.func63, Tryd.ntmps63
  go_wp2_with (go_at_call 81; refine C.out.mono ?_; rintro e w1 ⟨tv, rfl, hk⟩)
  go_ret
  exact ⟨tv, rfl, hk⟩
set_option maxHeartbeats 2000000 in
theorem values_any (a : Option Addr) (n c : Nat) (w : World) : Calls Tryd.prog 42 #[.slice a n c] w fun e w' =>
    e = .returned (.func (.func 65) #[] #[.pointer (some ⟨w.heap.size, 0, none⟩)]) ∧ w.alloc (.cells #[.slice a n c] 22) = w' := by
  go_enter Tryd.func42, Tryd.ntmps42
  go_wp2
  go_ret
  exact ⟨rfl, rfl⟩
end Go.Proofs.YtkfgonbopgdmgaaDoor.Px
