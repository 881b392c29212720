/- What a row's condition on the variables gives the walks. The last step of a law that returns true: what the row asks behind the walk; and a start in which the variables read as listed. -/
import Derived.Test.YtkpmmabdpeobaaaGreatDoorSU7
import Derived.Test.YtkpmmabdpeobaaaGreatDoorRows
import Derived.LaidMore
import Derived.Stop.LaidErr
import Derived.Lib.LaidTab
import Derived.OpenShut
import Derived.Test.YtkpmmabdpeobaaaGreatDoorSU4
import Derived.Lib.SmallJoins
import Derived.Test.YtkpmmabdpeobaaaGreatDoorTie
import Derived.Test.YtkpmmabdpeobaaaGreatDoorCards
import Derived.ProofKit
import Derived.LaidHandle
import Derived.Lay
import Derived.SevenTiedAt
import Derived.Stop.Joined
import Derived.ChangeMaps5
namespace Go.Proofs.YtkpmmabdpeobaaaGreatDoor.Px
open Go.RowKit
open Civ
open Go.ChangeShapes Go.WideShapes
def lay9 : List (String × DataW Unit) := [("math/bits.deBruijn32tab", Rows.laid_math_bits_deBruijn32tab), ("math/bits.deBruijn64tab", Rows.laid_math_bits_deBruijn64tab), ("internal/strconv.uint64pow10", Rows.laid_internal_strconv_uint64pow10), ("unicode/utf8.acceptRanges", Rows.laid_unicode_utf8_acceptRanges), ("strconv.ErrRange", Rows.laid_strconv_ErrRange), ("strconv.ErrSyntax", Rows.laid_strconv_ErrSyntax), ("analemma/civil.before", Rows.laid_analemma_civil_before), ("analemma/offset.units", Rows.laid_analemma_offset_units), ("unicode/utf8.first", Rows.laid_unicode_utf8_first)]
def lay10 : List (String × DataW Unit) := [("math/bits.deBruijn32tab", Rows.laid_math_bits_deBruijn32tab), ("math/bits.deBruijn64tab", Rows.laid_math_bits_deBruijn64tab), ("internal/strconv.uint64pow10", Rows.laid_internal_strconv_uint64pow10), ("unicode/utf8.acceptRanges", Rows.laid_unicode_utf8_acceptRanges), ("strconv.ErrRange", Rows.laid_strconv_ErrRange), ("strconv.ErrSyntax", Rows.laid_strconv_ErrSyntax), ("analemma/civil.before", Rows.laid_analemma_civil_before), ("analemma/dayform.kinds", Rows.laid_analemma_dayform_kinds), ("analemma/offset.units", Rows.laid_analemma_offset_units), ("unicode/utf8.first", Rows.laid_unicode_utf8_first)]
theorem laid_two {W : World} (h : laidMetH Tryz.prog lay10 W) : laidMet Tryz.prog lay9 W ∧ handlesMet Tryz.prog [("analemma/dayform.kinds", Rows.laid_analemma_dayform_kinds)] W := by
 unfold laidMetH at h
 rw [show (lay10.filter fun x => x.2.handleName?.isSome) = [("analemma/dayform.kinds", Rows.laid_analemma_dayform_kinds)] from by kernel_rfl, show (lay10.filter fun x => x.2.handleName?.isNone) = lay9 from by kernel_rfl] at h
 exact h
theorem pow_of {W : World} (h : laidMet Tryz.prog lay9 W) : Lib.TabIs Tryz.prog W "internal/strconv.uint64pow10" .u64 Lib.pow10Tab := by
 have h1 := h.tail.tail
 exact Lib.tabIs_of_head (t := 264) (e := 231) (n := 20) (show Tryz.prog.globalNamed "internal/strconv.uint64pow10" = some 8 by kernel_rfl) (by kernel_rfl) (by kernel_rfl) (by kernel_rfl) (by kernel_rfl) (by kernel_rfl) h1
theorem before_of {W : World} (h : laidMet Tryz.prog lay9 W) : BeforeAt W := by
 have h1 := h.tail.tail.tail.tail.tail.tail
 have h2 : Lib.TabIs Tryz.prog W "analemma/civil.before" .i64 [0, 31, 61, 92, 122, 153, 184, 214, 245, 275, 306, 337] :=
  Lib.tabIs_of_head (t := 240) (e := 2) (n := 12) (show Tryz.prog.globalNamed "analemma/civil.before" = some 2 by kernel_rfl) (by kernel_rfl) (by kernel_rfl) (by kernel_rfl) (by kernel_rfl) (by kernel_rfl) h1
 unfold Lib.TabIs at h2
 intro i hi
 have h3 := World.var?_cell (show Tryz.prog.globalNamed "analemma/civil.before" = some 2 by kernel_rfl) h2 i
 rw [h3]
 obtain rfl | rfl | rfl | rfl | rfl | rfl | rfl | rfl | rfl | rfl | rfl | rfl : i = 0 ∨ i = 1 ∨ i = 2 ∨ i = 3 ∨ i = 4 ∨ i = 5 ∨ i = 6 ∨ i = 7 ∨ i = 8 ∨ i = 9 ∨ i = 10 ∨ i = 11 := by omega
 all_goals rfl
theorem units_of {W : World} (h : laidMet Tryz.prog lay9 W) : W.cell? ⟨0, 0, none⟩ = some (.int .i64 3600) ∧ W.cell? ⟨0, 1, none⟩ = some (.int .i64 60) ∧ W.cell? ⟨0, 2, none⟩ = some (.int .i64 1) := by
 have h1 := h.tail.tail.tail.tail.tail.tail.tail
 have h2 : Lib.TabIs Tryz.prog W "analemma/offset.units" .i64 [3600, 60, 1] :=
  Lib.tabIs_of_head (t := 184) (e := 2) (n := 3) (show Tryz.prog.globalNamed "analemma/offset.units" = some 0 by kernel_rfl) (by kernel_rfl) (by kernel_rfl) (by kernel_rfl) (by kernel_rfl) (by kernel_rfl) h1
 unfold Lib.TabIs at h2
 have h3 := World.var?_cell (show Tryz.prog.globalNamed "analemma/offset.units" = some 0 by kernel_rfl) h2
 exact ⟨h3 0, h3 1, h3 2⟩
theorem sent_of {W : World} {n nm : String} {d : DataW Unit} {r : List (String × DataW Unit)} {g ti : Nat} {ms : Array (String × TypeId)} (h : laidMet Tryz.prog ((n, .iface nm d) :: r) W)
 (hg : Tryz.prog.globalNamed n = some g) (ht : (Tryz.prog.globals[g]?).map (·.type) = some ti) (hi : Tryz.prog.underlying ti = some (.interface ms)) : ∃ te pe, W.cell? ⟨g, 0, none⟩ = some (.iface te pe) := by
 obtain ⟨ps, ⟨g0, t0, cs0, f0, p0, q0, hg0, ht0, hv0, hd0, _, _⟩, _⟩ := h
 obtain rfl := Option.some.inj (hg.symm.trans hg0)
 obtain rfl := Option.some.inj (ht.symm.trans ht0)
 obtain ⟨_, u, v, hcs, _⟩ := iface_of_trod hi hd0
 refine ⟨u, v, ?_⟩
 have h3 := World.var?_cell hg hv0 0
 obtain ⟨l⟩ := cs0
 dsimp only at hcs
 subst hcs
 exact h3
def kindsD : DataW Unit := ((Rows.laid_analemma_dayform_kinds (H := Unit)).funcsIn?).getD .nil
def kindsL : List (DataW (List UInt8)) := match kindsD.funcsOut with
 | .agg l => l
 | _ => []
set_option maxRecDepth 100000 in
theorem kind_elem {W : World} {sp : Nat → Bool} {m : Nat} {l : List Value} {y : DataW (List UInt8) × List MemPlace} {a b : Bool} {c : UInt8} {r : List UInt8} {f0 : FuncId}
 (hone : ((List.range Tryz.prog.funcs.size).filter fun f => (Tryz.prog.funcs[f]?).any (·.name.toUTF8.data.toList == c :: r)) = [f0])
 (h : DataW.trod (funcToken Tryz.prog) Tryz.prog W 0 sp true m 243 l = some y) (hy : y.1 = .agg [.lit (.bool a), .lit (.bool b), .held (c :: r)]) :
 l = [.bool a, .bool b, .func (.func f0) #[] #[]] := by
 obtain ⟨xs, n, _, hx, hlen, hn, hg⟩ := DataW.trod_struct Tryz.underlying243 h
 have hc3 : Tryz.prog.cellsOf 243 = 3 := by kernel_rfl
 rw [hc3] at hlen
 match l, hlen with
 | [v0, v1, v2], _ =>
   match xs, hn with
   | [y0, y1, y2], _ =>
     have g0 : DataW.trod (funcToken Tryz.prog) Tryz.prog W 0 sp true n 4 (([v0, v1, v2].drop 0).take (Tryz.prog.cellsOf 4)) = some y0 := hg 0 _ rfl
     have g1 : DataW.trod (funcToken Tryz.prog) Tryz.prog W 0 sp true n 4 (([v0, v1, v2].drop 1).take (Tryz.prog.cellsOf 4)) = some y1 := hg 1 _ rfl
     have g2 : DataW.trod (funcToken Tryz.prog) Tryz.prog W 0 sp true n 241 (([v0, v1, v2].drop 2).take (Tryz.prog.cellsOf 241)) = some y2 := hg 2 _ rfl
     have c1 : Tryz.prog.cellsOf 4 = 1 := by kernel_rfl
     have cf : Tryz.prog.cellsOf 241 = 1 := by kernel_rfl
     rw [c1] at g0 g1
     rw [cf] at g2
     have e := congrArg Prod.fst hx
     rw [hy] at e
     dsimp only [List.map_cons, List.map_nil] at e
     injection e with e
     injection e with e0 e
     injection e with e1 e
     injection e with e2 e
     obtain ⟨b0, h0, k0⟩ := DataW.trod_bool Tryz.underlying4 (show _ = some y0 from g0)
     obtain ⟨b1, h1, k1⟩ := DataW.trod_bool Tryz.underlying4 (show _ = some y1 from g1)
     rw [k0] at e0
     rw [k1] at e1
     injection e0 with e0
     injection e1 with e1
     injection e0 with e0
     injection e1 with e1
     have h2 := func_of_trod Tryz.underlying241 hone (v := v2) (q := y2.2) (by
      have : DataW.trod (funcToken Tryz.prog) Tryz.prog W 0 sp true n 241 [v2] = some y2 := g2
      rw [this, e2])
     have i0 : v0 = .bool b0 := by simpa using h0
     have i1 : v1 = .bool b1 := by simpa using h1
     rw [i0, i1, h2, e0, e1]
theorem kinds_at {W : World} (h : handlesMet Tryz.prog [("analemma/dayform.kinds", Rows.laid_analemma_dayform_kinds)] W) (j : Nat) (hj : j < 5) : ∃ m y, kindsL[j]? = some (y : DataW (List UInt8) × List MemPlace).1 ∧ ∃ cs : Array Value, (∀ i, W.cell? ⟨3, i, none⟩ = cs[i]?) ∧
 DataW.trod (funcToken Tryz.prog) Tryz.prog W 0 (fun _ => true) true m 243 ((cs.toList.drop (j * 3)).take 3) = some y := by
 have h1 := h ("analemma/dayform.kinds", Rows.laid_analemma_dayform_kinds) (by simp)
 dsimp only at h1
 rw [show (Rows.laid_analemma_dayform_kinds (H := Unit)).funcsIn? = some kindsD from by kernel_rfl] at h1
 obtain ⟨g, t, cs, fuel, p, hg, ht, hv, hd⟩ := h1
 obtain rfl := Option.some.inj (show some 3 = some g from (show Tryz.prog.globalNamed "analemma/dayform.kinds" = some 3 by kernel_rfl).symm.trans hg)
 obtain rfl := Option.some.inj (show some 244 = some t from (show (Tryz.prog.globals[3]?).map (·.type) = some 244 by kernel_rfl).symm.trans ht)
 obtain ⟨xs, m, _, hx, hlen, hn5, hel⟩ := DataW.trod_array (n := 5) (e := 243) (by kernel_rfl) hd
 have hc3 : Tryz.prog.cellsOf 243 = 3 := by kernel_rfl
 rw [hc3] at hel
 have hcell := World.var?_cell hg hv
 have h2 := congrArg Prod.fst hx
 have h3 : (DataW.agg kindsL : DataW (List UInt8)) = .agg (xs.map (·.1)) := (show kindsD.funcsOut = .agg kindsL by kernel_rfl).symm.trans h2
 injection h3 with h3
 have hjx : j < xs.length := by omega
 refine ⟨m, xs[j], ?_, cs, hcell, ?_⟩
 · rw [h3]; simp [hjx]
 · rw [hel j hj]; simp [hjx]
theorem kinds_of {W : World} (h : handlesMet Tryz.prog [("analemma/dayform.kinds", Rows.laid_analemma_dayform_kinds)] W) : KindsAt W := by
 obtain ⟨m2, y2, e2, cs2, c2, t2⟩ := kinds_at h 2 (by decide)
 obtain ⟨m3, y3, e3, cs3, c3, t3⟩ := kinds_at h 3 (by decide)
 have k2 := kind_elem (c := 97) (r := [110, 97, 108, 101, 109, 109, 97, 47, 100, 97, 121, 102, 111, 114, 109, 46, 107, 105, 110, 100, 115, 36, 50]) (f0 := 265) (by kernel_rfl) t2 (Option.some.inj (e2.symm.trans (show kindsL[2]? = some (.agg [.lit (.bool true), .lit (.bool false), .held [97, 110, 97, 108, 101, 109, 109, 97, 47, 100, 97, 121, 102, 111, 114, 109, 46, 107, 105, 110, 100, 115, 36, 50]]) by kernel_rfl)))
 have k3 := kind_elem (c := 97) (r := [110, 97, 108, 101, 109, 109, 97, 47, 100, 97, 121, 102, 111, 114, 109, 46, 107, 105, 110, 100, 115, 36, 51]) (f0 := 267) (by kernel_rfl) t3 (Option.some.inj (e3.symm.trans (show kindsL[3]? = some (.agg [.lit (.bool true), .lit (.bool true), .held [97, 110, 97, 108, 101, 109, 109, 97, 47, 100, 97, 121, 102, 111, 114, 109, 46, 107, 105, 110, 100, 115, 36, 51]]) by kernel_rfl)))
 have g2 : ∀ i, i < 3 → cs2[6 + i]? = ([.bool true, .bool false, .func (.func 265) #[] #[]] : List Value)[i]? := by
  intro i hi
  rw [← k2, List.getElem?_take, if_pos hi, List.getElem?_drop, Array.getElem?_toList]
 have g3 : ∀ i, i < 3 → cs3[9 + i]? = ([.bool true, .bool true, .func (.func 267) #[] #[]] : List Value)[i]? := by
  intro i hi
  rw [← k3, List.getElem?_take, if_pos hi, List.getElem?_drop, Array.getElem?_toList]
 exact ⟨(c2 6).trans (g2 0 (by decide)), (c2 7).trans (g2 1 (by decide)), (c2 8).trans (g2 2 (by decide)), (c3 9).trans (g3 0 (by decide)), (c3 10).trans (g3 1 (by decide)), (c3 11).trans (g3 2 (by decide))⟩
theorem env_of {W : World} (h : laidMetH Tryz.prog lay10 W) : EnvAt W := by
 obtain ⟨h1, h2⟩ := laid_two h
 have hr := h1.tail.tail.tail.tail
 have hs := hr.tail
 exact ⟨before_of h1, kinds_of h2, sent_of (ti := 136) hs (by kernel_rfl) (by kernel_rfl) (show Tryz.prog.underlying 136 = some (.interface #[("Error", 98)]) by kernel_rfl), sent_of (ti := 136) hr (by kernel_rfl) (by kernel_rfl) (show Tryz.prog.underlying 136 = some (.interface #[("Error", 98)]) by kernel_rfl), pow_of h1, units_of h1⟩
end Go.Proofs.YtkpmmabdpeobaaaGreatDoor.Px
namespace Go.Proofs.YtkpmmabdpeobaaaGreatDoor
open Go.ChangeShapes Go.WideShapes Go.ChangeAt Go.RowKit
theorem trodAll_below {H : Type} {enc : TypeId × Value → H} {P : Program} (hl : laidOutB P = true) {W W' : World} (hB : Below W.heap.size W W') :
 ∀ (ts : List TypeId) (vs : List Value) (ds : List (DataW H)) (ps : List MemPlace), (∀ t ∈ ts, P.readableRec t = true ∧ t < P.types.size) →
  DataW.TrodAll enc P W 0 (fun _ => true) true ts vs ds ps → (∀ p ∈ ps, p.block < W.heap.size) → DataW.TrodAll enc P W' 0 (fun b => decide (b < W.heap.size)) true ts vs ds ps
 | [], [], [], _, _, h, _ => h
 | t :: ts, v :: vs, d :: ds, ps, ht, h, hp => by
   obtain ⟨p, q, h1, h2, rfl⟩ := h
   exact ⟨p, q, Below.trod hl (ht t (by simp)).1 (ht t (by simp)).2 h1 hB (fun x hx => hp x (by simp [hx])), trodAll_below hl hB ts vs ds q (fun t' h' => ht t' (by simp [h'])) h2 (fun x hx => hp x (by simp [hx])), rfl⟩
 | [], _ :: _, _, _, _, h, _ => h.elim
 | [], [], _ :: _, _, _, h, _ => h.elim
 | _ :: _, [], _, _, _, h, _ => h.elim
 | _ :: _, _ :: _, [], _, _, h, _ => h.elim
theorem post_law {H : Type} {enc : TypeId × Value → H} {P : Program} {f : Func} {s : ChangeSpec} {W W' : World} {args : Array Value} {ds gs : List (DataW H)} {before : List MemPlace} {tb : TypeId}
 (hl : laidOutB P = true) (hpar : ∀ t ∈ f.params.toList, P.readableRec t = true ∧ t < P.types.size) (hvars : s.vars = [])
 (hW : DataW.Whole enc P f.params.toList s.vars false W args.toList ds gs before) (hfn : s.fn H (ds ++ gs) = { results := [.lit (.bool true)], args := ds })
 (hres : f.resultTypes = #[tb]) (htb : P.underlying tb = some .bool) (hB : Below W.heap.size W W') : s.post enc P f false true false false W args (.bool true) W' := by
 have hlt := hW.lt
 have hW' := hW
 obtain ⟨p, q, hA, hV, rfl, _, _⟩ := hW
 rw [hvars] at hV
 obtain ⟨rfl, rfl⟩ := trodVars_none hV
 refine ⟨ds, [], p ++ [], [], p, [], hW', ?_, ?_, ?_, hB.frame _, fun h => by cases h⟩
 · rw [hfn, hres]
   exact trodAll_mk1 (shut_bool htb true)
 · rw [hfn]
   exact trodAll_below hl hB _ _ _ _ hpar hA (fun x hx => hlt x (by simpa using hx))
 · rw [hfn, hvars]
   rfl
theorem door_met (os : Os) (args : Array Value) : laidMetH Tryz.prog Px.lay10 (((World.doorLaid Tryz.prog 4000 os).layVars Tryz.prog [("unicode/utf8.first", Rows.laid_unicode_utf8_first)]).forCall (fun _ _ => 0) ⟨#[], args, []⟩).memory :=
 laidMetH_of_parts3 (fuel := 8) (laidMet_of_run' 8 (by kernel_rfl) (by kernel_rfl)) (by kernel_rfl) (by kernel_rfl)
end Go.Proofs.YtkpmmabdpeobaaaGreatDoor
