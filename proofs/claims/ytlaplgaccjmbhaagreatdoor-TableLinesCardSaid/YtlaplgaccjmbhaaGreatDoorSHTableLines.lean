/- The frame of a row whose walk needs the listed variables and the shape of the world; the cell of bytealg.MaxLen. strings.Split by one byte, plain and called; the lines of a table's text. The law TableLines: the walk. The law TableLines returns true for every two tables by numbers, and its tied card holds; no condition beyond the row itself. -/
import Derived.Test.YtlaplgaccjmbhaaGreatDoorSG13
import Derived.OpenShut
import Derived.HandedShaped
import Derived.Shelf.Vars
import Derived.Lib.Bytealg
import Derived.Lib.Strings
import Derived.Lib.CountLaws
import Derived.Lib.SplitLaws
import Derived.Lib.IndexBytes
import Derived.Test.YtlaplgaccjmbhaaGreatDoorSG28
import Derived.Test.YtlaplgaccjmbhaaGreatDoorSShelf
import Derived.Test.YtlaplgaccjmbhaaGreatDoorSG23
import Derived.Test.YtlaplgaccjmbhaaGreatDoorSG30
import Derived.Deep.QuietTactic
import Derived.BigQuiet
import Derived.Test.YtlaplgaccjmbhaaGreatDoorSG25
import Derived.Test.YtlaplgaccjmbhaaGreatDoorSG14
namespace Go.Proofs.YtlaplgaccjmbhaaGreatDoor
open Go.ChangeShapes Go.WideShapes Go.ChangeAt Go.RowKit

set_option maxRecDepth 100000 in
theorem handed_both {H : Type} {enc : TypeId × Value → H} {os : Os} {f : FuncId} {fn : Func} {s : ChangeSpec} {conds : List PathCond} {apart fresh handsOn again : Bool} {X : World → Array Value → Prop}
    (hX : ∀ (w w' : World) (args : Array Value), w.heap = w'.heap → X w args → X w' args)
    (own : ownKnob Tryz.checked.prog.godebug = none) (started : os.Started) (noInit : Tryz.checked.prog.inits.idxOf? f = none) (hfn : Tryz.checked.prog.funcs[f]? = some fn)
    (witness : ∃ (w : World) (tape : Tape) (i : Input), w.os = os ∧ (w.forCall tape i).Shaped Tryz.checked.prog ∧ i.vars = [] ∧ Input.okWide Tryz.checked.prog (w.forCall tape i) .any w.heap.size f i ∧
      ((s.pre enc Tryz.checked.prog fn conds apart (w.forCall tape i).memory i.args ∧ X (w.forCall tape i).memory i.args) ∧ sizedMet enc Tryz.checked.prog fn (OpenSpec.ofChange s) apart (w.forCall tape i).memory i.args) ∧
      (({} : Assume)).holds Tryz.checked.prog (lone (Frame.enter Tryz.checked.prog f i.args .normal) [] (w.forCall tape i)))
    (walk : ∀ (W : World) (base : Nat) (args : Array Value) (ds gs : List (DataW H)) (before : List MemPlace),
      (∀ (j : Nat) t v, fn.params[j]? = some t → args[j]? = some v → Value.okWide Tryz.checked.prog W .any base t v) →
      DataW.Whole enc Tryz.checked.prog fn.params.toList s.vars apart W args.toList ds gs before → W.ShapedOpen Tryz.checked.prog →
      (DataW.weightsEach Tryz.checked.prog (fn.params.toList ++ s.plain.varTypes Tryz.checked.prog) (ds ++ gs)).all (· ≤ reachBytes) = true → X W args →
      Calls Tryz.checked.prog f args W fun e W' => ∃ v, e = .returned v ∧ s.post enc Tryz.checked.prog fn apart fresh handsOn again W args v W') :
    ReturnsInHanded {} Tryz.checked os f .any (fun w args => (s.pre enc Tryz.checked.prog fn conds apart w args ∧ X w args) ∧ sizedMet enc Tryz.checked.prog fn (OpenSpec.ofChange s) apart w args) (s.post enc Tryz.checked.prog fn apart fresh handsOn again) := by
  refine returnsInHanded_of_calls own started noInit witness fun w tape i _ hsh _ hok hpre _ => ?_
  obtain ⟨_, _, _, g, hg, _, _, _, _, hval⟩ := hok
  obtain rfl : g = fn := Option.some.inj (hg.symm.trans hfn)
  obtain ⟨⟨⟨ds, gs, before, hw, _⟩, hx⟩, hz⟩ := hpre
  refine (walk (w.forCall tape i) w.heap.size i.args ds gs before hval (DataW.Whole.of_heap (by rfl) hw) hsh (hz.weights hw) (hX _ _ _ (by rfl) hx)).mono ?_
  rintro e W' ⟨v, rfl, hp⟩
  exact ChangeSpec.post_blind hp
set_option maxRecDepth 100000 in
/-- the cell of internal/bytealg.MaxLen -/
theorem maxLen_cell {W : World} (h : W.ShapedOpen Tryz.prog) : ∃ m, W.cell? ⟨3, 0, none⟩ = some (.int .i64 m) :=
  cell_of_shapedOpen_int (P := Tryz.prog) (g := 3) (t := 3) (zero := #[.int .i64 0]) h (of_decide_eq_true (by kernel_rfl)) (by kernel_rfl) rfl (by kernel_rfl) (by kernel_rfl) Tryz.underlying3
end Go.Proofs.YtlaplgaccjmbhaaGreatDoor
namespace Go.Proofs.YtlaplgaccjmbhaaGreatDoor.Tb
open Px

/-- the parts of a text between the bytes c -/
def splitL (c : UInt8) : List UInt8 → List (List UInt8)
  | [] => [[]]
  | b :: r => if b == c then [] :: splitL c r else match splitL c r with
    | [] => [[b]]
    | h :: t => (b :: h) :: t
theorem splitL_ne (c : UInt8) (l : List UInt8) : splitL c l ≠ [] := by
  cases l with
  | nil => simp [splitL]
  | cons b r =>
    simp only [splitL]
    split
    · simp
    · split <;> simp
theorem splitL_none (c : UInt8) (l : List UInt8) (h : Lib.indexByte l c < 0) : splitL c l = [l] := by
  induction l with
  | nil => rfl
  | cons b r ih =>
    simp only [Lib.indexByte] at h
    by_cases e : (b == c) = true
    · simp [e] at h
    · have e' : (b == c) = false := by simpa using e
      rw [e', if_neg (by simp)] at h
      by_cases e2 : (Lib.indexByte r c == -1) = true
      · have : Lib.indexByte r c < 0 := by have := eq_of_beq e2; omega
        simp only [splitL, e', ih this]
        rfl
      · rw [if_neg e2] at h
        have := Lib.indexByte_ge r c
        omega
theorem splitL_some (c : UInt8) (l : List UInt8) (i : Nat) (h : Lib.indexByte l c = i) : i < l.length ∧ splitL c l = l.take i :: splitL c (l.drop (i + 1)) := by
  induction l generalizing i with
  | nil => simp [Lib.indexByte] at h
  | cons b r ih =>
    simp only [Lib.indexByte] at h
    by_cases e : (b == c) = true
    · rw [if_pos e] at h
      obtain rfl : i = 0 := by omega
      simp [splitL, e]
    · have e' : (b == c) = false := by simpa using e
      rw [e', if_neg (by simp)] at h
      by_cases e2 : (Lib.indexByte r c == -1) = true
      · rw [if_pos e2] at h; omega
      · rw [if_neg e2] at h
        have hg := Lib.indexByte_ge r c
        have hne : Lib.indexByte r c ≠ -1 := by simpa using e2
        obtain ⟨j, hj⟩ : ∃ j : Nat, Lib.indexByte r c = j := ⟨(Lib.indexByte r c).toNat, by omega⟩
        obtain rfl : i = j + 1 := by omega
        obtain ⟨h1, h2⟩ := ih j hj
        refine ⟨by simp; omega, ?_⟩
        simp only [splitL, e', h2]
        simp
theorem splitL_join (c : UInt8) (l r : List UInt8) : splitL c (l ++ c :: r) = splitL c l ++ splitL c r := by
  induction l with
  | nil => simp [splitL]
  | cons b t ih =>
    by_cases h : b == c
    · simp only [List.cons_append, splitL, h, if_pos, ih]
    · have h' : (b == c) = false := by simpa using h
      simp only [List.cons_append, splitL, h', ih]
      cases hs : splitL c t with
      | nil => exact absurd hs (splitL_ne c t)
      | cons p q => simp
theorem splitL_no (c : UInt8) (l : List UInt8) (h : c ∉ l) : splitL c l = [l] := by
  induction l with
  | nil => rfl
  | cons b r ih =>
    have h' : (b == c) = false := by
      have : b ≠ c := fun e => h (by rw [e]; exact List.mem_cons_self ..)
      simpa using this
    simp only [splitL, h', ih (fun hx => h (List.mem_cons_of_mem _ hx))]
    rfl
theorem splitL_lines : ∀ bs : List (List UInt8), (∀ b ∈ bs, (10 : UInt8) ∉ b) → splitL 10 (bs.flatMap (fun l => l ++ [10])) = bs ++ [[]]
  | [], _ => rfl
  | b :: r, h => by
    rw [List.flatMap_cons, List.append_assoc, List.singleton_append, splitL_join, splitL_no _ _ (h b (List.mem_cons_self ..)), splitL_lines r (fun x hx => h x (List.mem_cons_of_mem _ hx))]
    rfl
theorem text_split {x : Tab} (h : FineT x) : splitL 10 (textL x) = bodies x ++ [[]] := by rw [text_bodies, splitL_lines _ (bodies_not h)]
theorem bodies_len (x : Tab) : (bodies x).length = x.types.length + x.trans.length + 1 := by unfold bodies; simp [bodiesG_len]; omega
theorem bodies_foot (x : Tab) : (bodies x)[x.types.length + x.trans.length]? = some (footB x.foot) := by
  unfold bodies
  rw [List.getElem?_append_right (by simp [bodiesG_len])]
  simp [bodiesG_len]
theorem bodies_type (x : Tab) {i : Nat} (h : i < x.types.length) : ∃ s, (bodies x)[i]? = some ([116, 121, 112, 101, 32] ++ s) := by
  unfold bodies
  have e : ((bodiesG 0 x.types ++ x.trans.map transB) ++ [footB x.foot])[i]? = (bodiesG 0 x.types)[i]? := by
    rw [List.getElem?_append_left (by simp [bodiesG_len]; omega), List.getElem?_append_left (by simp [bodiesG_len]; omega)]
  have h2 : i < (bodiesG 0 x.types).length := by rw [bodiesG_len]; exact h
  obtain ⟨s, hs⟩ := bodiesG_at x.types 0 i _ (List.getElem?_eq_getElem h2)
  exact ⟨s, by rw [e, List.getElem?_eq_getElem h2, hs]⟩
theorem bodies_trans (x : Tab) {i : Nat} (h0 : x.types.length ≤ i) (h : i < x.types.length + x.trans.length) : ∃ s, (bodies x)[i]? = some ([97, 116, 32] ++ s) := by
  unfold bodies
  have h2 : i - x.types.length < x.trans.length := by omega
  refine ⟨Lib.itoa (x.trans[i - x.types.length]).at' ++ [32] ++ Lib.itoa (x.trans[i - x.types.length]).ty, ?_⟩
  rw [List.getElem?_append_left (by simp [bodiesG_len]; omega), List.getElem?_append_right (by rw [bodiesG_len]; omega), bodiesG_len, List.getElem?_map, List.getElem?_eq_getElem h2]
  simp [transB]
theorem text_same {x y : Tab} (hx : FineT x) (hy : FineT y) : sameB x y = decide (textL x = textL y) := by
  unfold sameB
  by_cases e : x = y
  · subst e; simp
  · have : ¬ textL x = textL y := fun q => e (text_inj hx hy q)
    rw [decide_eq_false this]
    obtain ⟨a, b, c⟩ := x
    obtain ⟨d, f, g⟩ := y
    simp only [Tab.mk.injEq] at e
    by_cases e1 : a = d
    · by_cases e2 : b = f
      · by_cases e3 : c = g
        · exact absurd ⟨e1, e2, e3⟩ e
        · simp [e3]
      · simp [e2]
    · simp [e1]
theorem foot_small (d : D40) : d.made.foot.length ≤ 100 := (goodP_iff (posix_good d.foot d.base)).len
theorem text_small (d : D40) (h : d.In) : (textL d.made).length ≤ 1000000 := by
  have h1 := types_len_le d.made.types 0 (fun l hl => by have := made_seven d h l hl; omega) (by have := (made_sub d h).2; omega)
  have hr := made_right d h
  have ht := transGo_ok _ _ _ _ (check_zero hr).2.1
  have hl := (made_sub d h).2
  have h2 := transT_len d.made.trans (fun t hm => ⟨wf_64 (by have := ht.rng t hm; omega), wf_64 (by have := ht.ty t hm; omega)⟩)
  have h3 := (goodP_iff (posix_good d.foot d.base)).len
  have h4 := made_trans_len d h
  have h5 : d.made.foot = printL (posixN d.foot d.base) := rfl
  unfold textL
  rw [List.length_append, List.length_append, foot_line, h5]
  simp only [List.length_append, List.length_cons, List.length_nil]
  omega
end Go.Proofs.YtlaplgaccjmbhaaGreatDoor.Tb
namespace Go.Proofs.YtlaplgaccjmbhaaGreatDoor.Px
open Go.RowKit
open Civ Tb

theorem ext_list' (s : ByteArray) (a b : Nat) : (s.extract a b).data.toList = (s.data.toList.drop a).take (b - a) := by
  rw [ByteArray.data_extract, Array.toList_extract, List.extract_eq_take_drop]
/-- strings.Split by one byte, as lists -/
theorem split_lists (c : UInt8) : ∀ (k : Nat) (s : ByteArray), Lib.countB s ⟨#[c]⟩ = k → (Lib.splitB ⟨#[c]⟩ 0 k s).map (·.data.toList) = splitL c s.data.toList := by
  intro k
  have h1 : 0 < (⟨#[c]⟩ : ByteArray).size := Nat.zero_lt_one
  induction k with
  | zero =>
    intro s h
    have hi : Lib.indexByte s.data.toList c = -1 := by
      have hg := Lib.indexByte_ge s.data.toList c
      rcases (show Lib.indexByte s.data.toList c < 0 ∨ 0 ≤ Lib.indexByte s.data.toList c by omega) with h0 | h0
      · omega
      · obtain ⟨i, hi⟩ : ∃ i : Nat, Lib.indexByte s.data.toList c = i := ⟨_, (Int.toNat_of_nonneg h0).symm⟩
        have := Lib.countB_hit s ⟨#[c]⟩ i h1 (by rw [← hi]; exact Lib.index_one _ _)
        omega
    rw [Lib.splitB_zero, splitL_none c _ (by omega)]
    rfl
  | succ k ih =>
    intro s h
    have hg := Lib.indexByte_ge s.data.toList c
    rcases (show Lib.indexByte s.data.toList c < 0 ∨ 0 ≤ Lib.indexByte s.data.toList c by omega) with h0 | h0
    · have hm : Lib.indexB s ⟨#[c]⟩ = -1 := by
        have : Lib.indexB s ⟨#[c]⟩ = Lib.indexByte s.data.toList c := Lib.index_one _ _
        omega
      rw [Lib.countB_miss _ _ hm] at h
      omega
    · obtain ⟨i, hi⟩ : ∃ i : Nat, Lib.indexByte s.data.toList c = i := ⟨_, (Int.toNat_of_nonneg h0).symm⟩
      have hx : Lib.indexB s ⟨#[c]⟩ = i := by rw [← hi]; exact Lib.index_one _ _
      have hc := Lib.countB_hit s ⟨#[c]⟩ i h1 hx
      obtain ⟨_, hs⟩ := splitL_some c _ i hi
      rw [Lib.splitB_hit _ _ _ _ _ hx, List.map_cons, ih _ (by omega), hs]
      rw [ext_list', ext_list']
      simp only [Nat.add_zero, Nat.sub_zero, List.drop_zero]
      congr 1
      congr 1
      rw [show (⟨#[c]⟩ : ByteArray).size = 1 from rfl]
      rw [List.take_of_length_le]
      rw [List.length_drop, show s.data.toList.length = s.size from Array.length_toList]
      omega
theorem split_bytes (c : UInt8) (s : ByteArray) : Lib.splitB ⟨#[c]⟩ 0 (Lib.countB s ⟨#[c]⟩) s = (splitL c s.data.toList).map bs := by
  rw [← split_lists c _ s rfl, List.map_map]
  conv => lhs; rw [← List.map_id (Lib.splitB ⟨#[c]⟩ 0 (Lib.countB s ⟨#[c]⟩) s)]
  apply List.map_congr_left
  intro x _
  rfl
/-- strings.Split by a line feed, of a text of lines: a slice of its own -/
theorem split_any (bd : List (List UInt8)) (t : List UInt8) (h : splitL 10 t = bd) (ht : t.length < 4294967281) (L : List (Nat × Obj)) (R : List Rw) (W w : World) (hk : Kp L R W w) (hm : ∃ m, w.cell? ⟨3, 0, none⟩ = some (.int .i64 m)) :
    Calls Tryz.prog 38 #[.string (bs t), .string ⟨#[10]⟩] w fun e w' => ∃ g, e = .returned (.slice (some ⟨g, 0, none⟩) bd.length bd.length) ∧ Kp L (⟨.slice (some ⟨g, 0, none⟩) bd.length bd.length, 9, 1, bd.length, bd.map (fun l => .string (bs l))⟩ :: R) W w' := by
  obtain ⟨m, hm⟩ := hm
  have hsz : (bs t).size = t.length := rfl
  refine (Tryz.strings_Split (bs t) ⟨#[10]⟩ m w (by rw [hsz]; exact ht) hm (Nat.le_refl 1)).mono ?_
  rintro e V ⟨rfl, rfl⟩
  have h1 : 0 < (⟨#[10]⟩ : ByteArray).size := Nat.zero_lt_one
  have hb : Lib.splitB ⟨#[10]⟩ 0 (Lib.countB (bs t) ⟨#[10]⟩) (bs t) = bd.map bs := by rw [split_bytes]; show (splitL 10 t).map bs = _; rw [h]
  have hlen : Lib.countB (bs t) ⟨#[10]⟩ + 1 = bd.length := by
    have hn := Lib.splitB_all ⟨#[10]⟩ h1 0 _ (bs t) rfl
    rw [hb] at hn
    simpa using hn.symm
  have hle := Lib.countB_le ⟨#[10]⟩ h1 (bs t).size (bs t) (Nat.le_refl _)
  rw [hb, hlen, List.map_map]
  refine ⟨w.heap.size, rfl, ?_⟩
  have hk2 := (hk.alloc (.cells (bd.map (Value.string ∘ bs)).toArray 9)).own_block 1 bd.length bd.length (Nat.le_refl _) (by unfold maxLen; omega) (by simp)
  rw [List.toList_toArray, List.take_of_length_le (by simp)] at hk2
  exact hk2
end Go.Proofs.YtlaplgaccjmbhaaGreatDoor.Px
namespace Go.Proofs.YtlaplgaccjmbhaaGreatDoor.Px
open Go.RowKit
open Civ Tb

theorem cell_lt {w : World} {p : Addr} {v : Value} (h : w.cell? p = some v) : p.block < w.heap.size := by
  rcases Nat.lt_or_ge p.block w.heap.size with h' | h'
  · exact h'
  · simp [World.cell?, Array.getElem?_eq_none h'] at h
theorem pre_yes (a s : List UInt8) : Lib.hasPrefix (a ++ s) a = true := by
  unfold Lib.hasPrefix
  rw [List.isPrefixOf_iff_prefix]
  exact List.prefix_append a s
theorem bs_beq (a b : List UInt8) : (bs a = bs b) ↔ a = b := ⟨fun h => by have := congrArg (fun x : ByteArray => x.data.toList) h; simpa [bs_list] using this, fun h => by rw [h]⟩
set_option maxHeartbeats 16000000 in
set_option maxRecDepth 100000 in
theorem tableLines_cells (TY ST NX : List Int) (be fo ba : Int) (tv sv nv : Value) (TY' ST' NX' : List Int) (be' fo' ba' : Int) (tv' sv' nv' : Value) (W : World) (h : D40V W tv sv nv ⟨TY, ST, NX, be, fo, ba⟩) (hin : D40.In ⟨TY, ST, NX, be, fo, ba⟩) (h' : D40V W tv' sv' nv' ⟨TY', ST', NX', be', fo', ba'⟩) (hin' : D40.In ⟨TY', ST', NX', be', fo', ba'⟩) (hE : EnvAt W)
    (hm : ∃ m, W.cell? ⟨3, 0, none⟩ = some (.int .i64 m)) :
    Calls Tryz.prog 13 #[.agg #[tv, sv, nv, .int .i32 be, .int .u8 fo, .int .u8 ba], .agg #[tv', sv', nv', .int .i32 be', .int .u8 fo', .int .u8 ba']] W fun e w' => e = .returned (.bool true) ∧ Below W.heap.size W w' := by
  have CM := Lib.hid (fun w h => made40_any TY ST NX be fo ba tv sv nv w h hin)
  have CN := Lib.hid (fun w h => made40_any TY' ST' NX' be' fo' ba' tv' sv' nv' w h hin')
  have CW := Lib.hid (fun w hE => works40_any w hE)
  obtain ⟨ta, tc, htv, _, _⟩ := h.types.slice
  obtain ⟨sa, sc, hsv, _, _⟩ := h.steps.slice
  obtain ⟨na, nc, hnv, _, _⟩ := h.next.slice
  obtain ⟨TN, hTN⟩ : ∃ n, TY.length = n := ⟨_, rfl⟩
  obtain ⟨SN, hSN⟩ : ∃ n, ST.length = n := ⟨_, rfl⟩
  obtain ⟨NN, hNN⟩ : ∃ n, NX.length = n := ⟨_, rfl⟩
  dsimp only at htv hsv hnv
  rw [hTN] at htv
  rw [hSN] at hsv
  rw [hNN] at hnv
  subst htv hsv hnv
  obtain ⟨ta', tc', htv', _, _⟩ := h'.types.slice
  obtain ⟨sa', sc', hsv', _, _⟩ := h'.steps.slice
  obtain ⟨na', nc', hnv', _, _⟩ := h'.next.slice
  obtain ⟨TN', hTN'⟩ : ∃ n, TY'.length = n := ⟨_, rfl⟩
  obtain ⟨SN', hSN'⟩ : ∃ n, ST'.length = n := ⟨_, rfl⟩
  obtain ⟨NN', hNN'⟩ : ∃ n, NX'.length = n := ⟨_, rfl⟩
  dsimp only at htv' hsv' hnv'
  rw [hTN'] at htv'
  rw [hSN'] at hsv'
  rw [hNN'] at hnv'
  subst htv' hsv' hnv'
  obtain ⟨DD, hD⟩ : ∃ D, (⟨TY, ST, NX, be, fo, ba⟩ : D40) = D := ⟨_, rfl⟩
  rw [hD] at CM h hin
  have hr := made_right DD hin
  have hN41 := made_trans_len DD hin
  have hM11 := (made_sub DD hin).2
  have hfi := made_fine DD hin
  have hsm := text_small DD hin
  have hfl := foot_small DD
  obtain ⟨X, hX⟩ : ∃ X, DD.made = X := ⟨_, rfl⟩
  rw [hX] at CM hr hN41 hM11 hfi hsm hfl
  obtain ⟨S, hS⟩ : ∃ S, X.foot = S := ⟨_, rfl⟩
  obtain ⟨M, hM⟩ : ∃ n, X.types.length = n := ⟨_, rfl⟩
  obtain ⟨N, hN⟩ : ∃ n, X.trans.length = n := ⟨_, rfl⟩
  obtain ⟨DD', hD'⟩ : ∃ D, (⟨TY', ST', NX', be', fo', ba'⟩ : D40) = D := ⟨_, rfl⟩
  rw [hD'] at CN h' hin'
  have hr' := made_right DD' hin'
  have hN41' := made_trans_len DD' hin'
  have hM11' := (made_sub DD' hin').2
  have hfi' := made_fine DD' hin'
  have hsm' := text_small DD' hin'
  obtain ⟨X', hX'⟩ : ∃ X, DD'.made = X := ⟨_, rfl⟩
  rw [hX'] at CN hr' hN41' hM11' hfi' hsm'
  obtain ⟨S', hS'⟩ : ∃ S, X'.foot = S := ⟨_, rfl⟩
  obtain ⟨M', hM'⟩ : ∃ n, X'.types.length = n := ⟨_, rfl⟩
  obtain ⟨N', hN'⟩ : ∃ n, X'.trans.length = n := ⟨_, rfl⟩
  have hMb : M ≤ 11 := by rw [← hM]; exact hM11
  have hNb : N ≤ 41 := by rw [← hN]; exact hN41
  have CT := Lib.hid (fun tv rv w h hE => ttext_any X tv rv (bs X.foot) w h hE (by omega))
  have CU := Lib.hid (fun tv rv w h hE => ttext_any X' tv rv (bs X'.foot) w h hE (by omega))
  rw [show textP X = (Tb.textL X, 0) by unfold textP; rw [if_pos hr]] at CT
  rw [show textP X' = (Tb.textL X', 0) by unfold textP; rw [if_pos hr']] at CU
  dsimp only at CT CU
  have CS := Lib.hid (fun tv rv tv' rv' w h h' => same_any X X' tv rv tv' rv' (bs X.foot) (bs X'.foot) w h h')
  have CZ := Lib.hid (fun tv rv tv' rv' w h h' => same_any X' X tv' rv' tv rv (bs X'.foot) (bs X.foot) w h h')
  rw [text_same hfi hfi'] at CS
  rw [text_same hfi' hfi] at CZ
  rw [hS, hS'] at CS CZ
  rw [hS] at CM CT
  rw [hS'] at CN CU
  obtain ⟨B, hB⟩ : ∃ b, bodies X ++ [[]] = b := ⟨_, rfl⟩
  have hsp : splitL 10 (Tb.textL X) = B := by rw [text_split hfi, hB]
  have hBl : B.length = M + N + 2 := by rw [← hB, List.length_append, bodies_len, hM, hN]; rfl
  have hbl := bodies_len X
  rw [hM, hN] at hbl
  have hB0 : B[M + N + 1]? = some [] := by rw [← hB, List.getElem?_append_right (by omega), hbl]; simp
  have hB1 : B[M + N]? = some (footB S) := by
    have := bodies_foot X
    rw [hM, hN, hS] at this
    rw [← hB, List.getElem?_append_left (by omega), this]
  have hBt : ∀ i, i < M → ∃ s, B[i]? = some ([116, 121, 112, 101, 32] ++ s) := fun i hi => by
    obtain ⟨s, hs⟩ := bodies_type X (i := i) (by rw [hM]; exact hi)
    exact ⟨s, by rw [← hB, List.getElem?_append_left (by omega), hs]⟩
  have hBa : ∀ i, ¬ i < M → i < M + N → ∃ s, B[i]? = some ([97, 116, 32] ++ s) := fun i h0 hi => by
    obtain ⟨s, hs⟩ := bodies_trans X (i := i) (by rw [hM]; omega) (by rw [hM, hN]; exact hi)
    exact ⟨s, by rw [← hB, List.getElem?_append_left (by omega), hs]⟩
  have CP := Lib.hid (fun L R w hk hm => split_any B (Tb.textL X) hsp (by omega) L R W w hk hm)
  obtain ⟨BL, hBL⟩ : ∃ n, B.length = n := ⟨_, rfl⟩
  rw [hBL] at CP hBl
  obtain ⟨P, hP⟩ : ∃ n, M + N = n := ⟨_, rfl⟩
  obtain ⟨Q, hQ⟩ : ∃ n, M + N + 1 = n := ⟨_, rfl⟩
  have f1 : IntKind.i64.wrap ((M : Int) + (N : Int)) = (P : Int) := by rw [IntWalk.i64_in _ (by omega)]; omega
  have f2 : IntKind.i64.wrap ((P : Int) + 2) = (BL : Int) := by rw [IntWalk.i64_in _ (by omega)]; omega
  have f3 : IntKind.i64.wrap ((BL : Int) - 1) = (Q : Int) := by rw [IntWalk.i64_in _ (by omega)]; omega
  have f4 : IntKind.i64.wrap ((BL : Int) - 2) = (P : Int) := by rw [IntWalk.i64_in _ (by omega)]; omega
  have q1 : (Q : Int) < (BL : Int) := by omega
  have q2 : (P : Int) < (BL : Int) := by omega
  have q3 : P ≤ BL := by omega
  have hPb : P ≤ 100 := by omega
  rw [hQ] at hB0
  rw [hP] at hB1 hBa
  have hS7 : ¬ 9223372036854775807 < 7 + (bs S).size := by
    have : (bs S).size = S.length := rfl
    rw [hS] at hfl
    omega
  have HB0 := Lib.hid hB0
  have HB1 := Lib.hid hB1
  have HBt := Lib.hid hBt
  have HBa := Lib.hid hBa
  have HM := Lib.hid hM
  have HN := Lib.hid hN
  have HM' := Lib.hid hM'
  have HN' := Lib.hid hN'
  have HS := Lib.hid hS
  have HS' := Lib.hid hS'
  have HH := Lib.hid h
  have HH' := Lib.hid h'
  have HE := Lib.hid hE
  have HMx := Lib.hid hm
  have HBL := Lib.hid hBL
  have HPM := Lib.hid (show M ≤ P by omega)
  obtain ⟨T, hT⟩ : ∃ t, Tb.textL X = t := ⟨_, rfl⟩
  obtain ⟨T', hT'⟩ : ∃ t, Tb.textL X' = t := ⟨_, rfl⟩
  rw [hT] at CT CP CS CZ
  rw [hT'] at CU CS CZ
  have K0 := Lib.hid (((Kp.start W).alloc (.cells #[.slice ta TN tc, .slice sa SN sc, .slice na NN nc, .int .i32 be, .int .u8 fo, .int .u8 ba] 75)).allocAt (W.heap.size + 1) (by simp) (.cells #[.slice ta' TN' tc', .slice sa' SN' sc', .slice na' NN' nc', .int .i32 be', .int .u8 fo', .int .u8 ba'] 75))
  clear h hin hE h' hin' hD hD' hr hr' hN41 hN41' hM11 hM11' hfi hfi' hsm hsm' hfl hX hX' hS hS' hM hM' hN hN' hTN hSN hNN hTN' hSN' hNN' hm hB hsp hBl hbl hB0 hB1 hBt hBa hBL hP hQ hMb hNb hT hT'
  go_enter Tryz.func13, Tryz.ntmps13
  go_wp2_with fail
  refine (CM.out _ (HH.out.keep K0.out.below)).mono ?_
  rintro _ V ⟨tv1, rv1, rfl, hk, hf⟩
  have hk1 := K0.out.adopt hk
  obtain ⟨xa, xc, rfl⟩ : ∃ a c, tv1 = .slice a X.types.length c := own_slice (hk1.row 1 rfl)
  obtain ⟨ya, yc, rfl⟩ : ∃ a c, rv1 = .slice a X.trans.length c := own_slice (hk1.row 0 rfl)
  rw [HM.out, HN.out] at hk1 ⊢
  have K1 := Lib.hid (hk1.alloc (.cells #[.slice xa M xc, .slice ya N yc, .string (bs S)] 25))
  have HF := Lib.hid hf
  clear hk hk1 hf
  obtain ⟨x0, x1, x2, x3, x4, x5⟩ := row6 (K1.out.at 1 rfl)
  go_wp2_with fail
  refine (CN.out _ (HH'.out.keep K1.out.below)).mono ?_
  rintro _ V2 ⟨tv2, rv2, rfl, hk, hf⟩
  have hk1 := K1.out.adopt hk
  obtain ⟨xa', xc', rfl⟩ : ∃ a c, tv2 = .slice a X'.types.length c := own_slice (hk1.row 1 rfl)
  obtain ⟨ya', yc', rfl⟩ : ∃ a c, rv2 = .slice a X'.trans.length c := own_slice (hk1.row 0 rfl)
  rw [HM'.out, HN'.out] at hk1 ⊢
  have K2 := Lib.hid (hk1.alloc (.cells #[.slice xa' M' xc', .slice ya' N' yc', .string (bs S')] 25))
  have HF' := Lib.hid hf
  clear hk hk1 hf x0 x1 x2 x3 x4 x5 K0 K1
  obtain ⟨⟨y0, y1, y2⟩, _, _, _⟩ := row3 (K2.out.at 1 rfl)
  go_wp2_with fail
  refine (CT.out _ _ _ (tab_of HS.out HF.out (K2.out.row 2 rfl) (K2.out.row 3 rfl) rfl rfl) (HE.out.keep K2.out.below)).mono ?_
  rintro _ V3 ⟨rfl, hb⟩
  have K3 := Lib.hid (K2.out.keep hb)
  clear hb y0 y1 y2
  obtain ⟨⟨y0, y1, y2⟩, _, _, _⟩ := row3 (K3.out.at 0 rfl)
  go_wp2_with fail
  refine (CU.out _ _ _ (tab_of HS'.out HF'.out (K3.out.row 0 rfl) (K3.out.row 1 rfl) rfl rfl) (HE.out.keep K3.out.below)).mono ?_
  rintro _ V4 ⟨rfl, hb⟩
  have K4 := Lib.hid (K3.out.keep hb)
  clear hb y0 y1 y2
  obtain ⟨mx, hmx⟩ := HMx.out
  have hmx4 := (K4.out.below.cell (cell_lt hmx)).trans hmx
  have HMx4 := Lib.hid hmx4
  clear hmx hmx4
  go_wp2_with fail
  refine (CP.out _ _ _ K4.out ⟨mx, HMx4.out⟩).mono ?_
  rintro _ V5 ⟨g, rfl, hk⟩
  have K5 := Lib.hid (show Kp [(V2.heap.size, .cells #[.slice xa' M' xc', .slice ya' N' yc', .string (bs S')] 25 (0, 0)), (V.heap.size, .cells #[.slice xa M xc, .slice ya N yc, .string (bs S)] 25 (0, 0)), (W.heap.size + 1, .cells #[.slice ta' TN' tc', .slice sa' SN' sc', .slice na' NN' nc', .int .i32 be', .int .u8 fo', .int .u8 ba'] 75 (0, 0)), (W.heap.size, .cells #[.slice ta TN tc, .slice sa SN sc, .slice na NN nc, .int .i32 be, .int .u8 fo, .int .u8 ba] 75 (0, 0))] (⟨.slice (some ⟨g, 0, none⟩) BL BL, 9, 1, BL, B.map (fun l => .string (bs l))⟩ :: (tabR (.slice xa' M' xc') (.slice ya' N' yc') X' ++ tabR (.slice xa M xc) (.slice ya N yc) X)) W V5 from hk)
  have c1 : V5.cell? ⟨g, Q, none⟩ = some (.string ⟨#[]⟩) := own_cell (K5.out.row 0 rfl) (by rw [List.getElem?_map, HB0.out]; rfl)
  have c2 : V5.cell? ⟨g, P, none⟩ = some (.string (⟨#[102, 111, 111, 116, 101, 114, 32]⟩ ++ bs S)) := own_cell (K5.out.row 0 rfl) (by rw [List.getElem?_map, HB1.out]; show some (Value.string (bs ([102, 111, 111, 116, 101, 114, 32] ++ S))) = _; rw [← Off.bs_add]; rfl)
  obtain ⟨⟨y0, y1, y2⟩, _, _, _⟩ := row3 (K5.out.at 1 rfl)
  have zz := K5.out.lt 1 rfl
  clear hk K2 K3 K4
  go_upto_region 8 with fail
  go_quiet (fail)
  go_wp2_with fail
  clear c1 c2 y0 y1 y2 zz f1 f2 f3
  have KD := Lib.hid (show Kp [(V2.heap.size, .cells #[.slice xa' M' xc', .slice ya' N' yc', .string (bs S')] 25 (0, 0)), (V.heap.size, .cells #[.slice xa M xc, .slice ya N yc, .string (bs S)] 25 (0, 0)), (W.heap.size + 1, .cells #[.slice ta' TN' tc', .slice sa' SN' sc', .slice na' NN' nc', .int .i32 be', .int .u8 fo', .int .u8 ba'] 75 (0, 0)), (W.heap.size, .cells #[.slice ta TN tc, .slice sa SN sc, .slice na NN nc, .int .i32 be, .int .u8 fo, .int .u8 ba] 75 (0, 0))] (⟨.slice (some ⟨g, 0, none⟩) BL BL, 9, 1, BL, B.map (fun l => .string (bs l))⟩ :: (tabR (.slice xa' M' xc') (.slice ya' N' yc') X' ++ tabR (.slice xa M xc) (.slice ya N yc) X)) W (V5.drewN nq) from K5.out.call (Civ.below_drewN (Below.refl _ V5) nq) rfl rfl rfl rfl)
  obtain ⟨V6, hV6⟩ : ∃ v, V5.drewN nq = v := ⟨_, rfl⟩
  rw [hV6] at KD ⊢
  go_loopw [14, 15, 16, 91] (fun _ _ _ v91 wr => ∃ k : Nat, k ≤ P ∧ v91 = .int .i64 k ∧ Kp [(V2.heap.size, .cells #[.slice xa' M' xc', .slice ya' N' yc', .string (bs S')] 25 (0, 0)), (V.heap.size, .cells #[.slice xa M xc, .slice ya N yc, .string (bs S)] 25 (0, 0)), (W.heap.size + 1, .cells #[.slice ta' TN' tc', .slice sa' SN' sc', .slice na' NN' nc', .int .i32 be', .int .u8 fo', .int .u8 ba'] 75 (0, 0)), (W.heap.size, .cells #[.slice ta TN tc, .slice sa SN sc, .slice na NN nc, .int .i32 be, .int .u8 fo, .int .u8 ba] 75 (0, 0))] (⟨.slice (some ⟨g, 0, none⟩) BL BL, 9, 1, BL, B.map (fun l => .string (bs l))⟩ :: (tabR (.slice xa' M' xc') (.slice ya' N' yc') X' ++ tabR (.slice xa M xc) (.slice ya N yc) X)) W wr) (fun _ _ _ v91 _ => P - (intOf v91).toNat)
  case atStart => exact ⟨0, by omega, rfl, KD.out⟩
  case round =>
    obtain ⟨k, hk, rfl, hK⟩ := hrel
    have HK := Lib.hid hK
    clear hK K5 KD
    by_cases hlt : k < P
    · have j1 : (k : Int) < (P : Int) := by omega
      obtain ⟨⟨y0, y1, y2⟩, _, _, _⟩ := row3 (HK.out.at 1 rfl)
      have zz := HK.out.lt 1 rfl
      by_cases h2 : k < M
      · have j2 : (k : Int) < (M : Int) := by omega
        obtain ⟨s, hs⟩ := HBt.out k h2
        have c0 : wr.cell? ⟨g, k, none⟩ = some (.string (bs ([116, 121, 112, 101, 32] ++ s))) := own_cell (HK.out.row 0 rfl) (by rw [List.getElem?_map, hs]; rfl)
        have CH := Lib.hid (Tryz.strings_HasPrefix (bs ([116, 121, 112, 101, 32] ++ s)) ⟨#[116, 121, 112, 101, 32]⟩)
        rw [bs_list, show (⟨#[116, 121, 112, 101, 32]⟩ : ByteArray).data.toList = [116, 121, 112, 101, 32] from rfl, pre_yes] at CH
        obtain ⟨Z, hZ⟩ : ∃ z, bs ([116, 121, 112, 101, 32] ++ s) = z := ⟨_, rfl⟩
        rw [hZ] at CH c0
        clear hs hZ
        go_wp2_with fail
        refine (CH.out _).mono ?_
        rintro _ V7 ⟨rfl, rfl⟩
        go_wp2_with fail
        go_roundw
        case rel => exact ⟨k + 1, by omega, by go_num, HK.out⟩
        case measure => simp [intOf]; omega
      · have j2 : ¬ (k : Int) < (M : Int) := by omega
        obtain ⟨s, hs⟩ := HBa.out k h2 hlt
        have c0 : wr.cell? ⟨g, k, none⟩ = some (.string (bs ([97, 116, 32] ++ s))) := own_cell (HK.out.row 0 rfl) (by rw [List.getElem?_map, hs]; rfl)
        have CH := Lib.hid (Tryz.strings_HasPrefix (bs ([97, 116, 32] ++ s)) ⟨#[97, 116, 32]⟩)
        rw [bs_list, show (⟨#[97, 116, 32]⟩ : ByteArray).data.toList = [97, 116, 32] from rfl, pre_yes] at CH
        obtain ⟨Z, hZ⟩ : ∃ z, bs ([97, 116, 32] ++ s) = z := ⟨_, rfl⟩
        rw [hZ] at CH c0
        clear hs hZ
        go_wp2_with fail
        refine (CH.out _).mono ?_
        rintro _ V7 ⟨rfl, rfl⟩
        go_wp2_with fail
        go_roundw
        case rel => exact ⟨k + 1, by omega, by go_num, HK.out⟩
        case measure => simp [intOf]; omega
    · obtain rfl : k = P := by omega
      obtain ⟨⟨y0, y1, y2⟩, _, _, _⟩ := row3 (HK.out.at 1 rfl)
      obtain ⟨⟨x0, x1, x2⟩, _, _, _⟩ := row3 (HK.out.at 0 rfl)
      have CS1 := Lib.hid (CS.out (.slice xa M xc) (.slice ya N yc) (.slice xa' M' xc') (.slice ya' N' yc'))
      have CZ1 := Lib.hid (CZ.out (.slice xa M xc) (.slice ya N yc) (.slice xa' M' xc') (.slice ya' N' yc'))
      clear CS CZ CT CU CM CN CP
      by_cases hTT : T = T'
      · subst hTT
        rw [decide_eq_true rfl] at CS1 CZ1
        go_wp2_with fail
        refine (CS1.out _ (tab_of HS.out HF.out (HK.out.row 3 rfl) (HK.out.row 4 rfl) rfl rfl) (tab_of HS'.out HF'.out (HK.out.row 1 rfl) (HK.out.row 2 rfl) rfl rfl)).mono ?_
        rintro _ V7 ⟨rfl, hb⟩
        have K7 := Lib.hid (HK.out.keep hb)
        clear hb y0 y1 y2 x0 x1 x2
        obtain ⟨⟨y0, y1, y2⟩, _, _, _⟩ := row3 (K7.out.at 1 rfl)
        obtain ⟨⟨x0, x1, x2⟩, _, _, _⟩ := row3 (K7.out.at 0 rfl)
        go_wp2_with fail
        refine (CZ1.out _ (tab_of HS'.out HF'.out (K7.out.row 1 rfl) (K7.out.row 2 rfl) rfl rfl) (tab_of HS.out HF.out (K7.out.row 3 rfl) (K7.out.row 4 rfl) rfl rfl)).mono ?_
        rintro _ V8 ⟨rfl, hb⟩
        have K8 := Lib.hid (K7.out.keep hb)
        clear hb
        go_wp2_with fail
        refine (CW.out _ (HE.out.keep K8.out.below)).mono ?_
        rintro _ V9 ⟨rfl, hb⟩
        have K9 := Lib.hid (K8.out.keep hb)
        clear hb
        go_wp2_with fail
        go_ret
        exact ⟨rfl, K9.out.below⟩
      · have hbs : ((bs T).toList == (bs T').toList) = false := by
          rw [ByteArray.toList_eq, ByteArray.toList_eq, beq_eq_false_iff_ne]
          intro q
          exact hTT (by simpa [bs_list] using q)
        rw [decide_eq_false hTT] at CS1
        rw [decide_eq_false (fun q => hTT q.symm)] at CZ1
        go_wp2_with fail
        refine (CS1.out _ (tab_of HS.out HF.out (HK.out.row 3 rfl) (HK.out.row 4 rfl) rfl rfl) (tab_of HS'.out HF'.out (HK.out.row 1 rfl) (HK.out.row 2 rfl) rfl rfl)).mono ?_
        rintro _ V7 ⟨rfl, hb⟩
        have K7 := Lib.hid (HK.out.keep hb)
        clear hb y0 y1 y2 x0 x1 x2
        obtain ⟨⟨y0, y1, y2⟩, _, _, _⟩ := row3 (K7.out.at 1 rfl)
        obtain ⟨⟨x0, x1, x2⟩, _, _, _⟩ := row3 (K7.out.at 0 rfl)
        go_wp2_with fail
        refine (CZ1.out _ (tab_of HS'.out HF'.out (K7.out.row 1 rfl) (K7.out.row 2 rfl) rfl rfl) (tab_of HS.out HF.out (K7.out.row 3 rfl) (K7.out.row 4 rfl) rfl rfl)).mono ?_
        rintro _ V8 ⟨rfl, hb⟩
        have K8 := Lib.hid (K7.out.keep hb)
        clear hb
        go_wp2_with fail
        refine (CW.out _ (HE.out.keep K8.out.below)).mono ?_
        rintro _ V9 ⟨rfl, hb⟩
        have K9 := Lib.hid (K8.out.keep hb)
        clear hb
        go_wp2_with fail
        go_ret
        exact ⟨rfl, K9.out.below⟩
end Go.Proofs.YtlaplgaccjmbhaaGreatDoor.Px
namespace Go.Proofs.YtlaplgaccjmbhaaGreatDoor.Px
open Go.RowKit
open Civ Tb

theorem tableLines_walk (x : D40) (tv sv nv : Value) {W : World} (h : D40V W tv sv nv x) (hin : D40.In x) (y : D40) (tv' sv' nv' : Value) (h' : D40V W tv' sv' nv' y) (hin' : D40.In y) (hE : EnvAt W) (hm : ∃ m, W.cell? ⟨3, 0, none⟩ = some (.int .i64 m)) :
    Calls Tryz.prog 13 #[d40val x tv sv nv, d40val y tv' sv' nv'] W fun e w' => e = .returned (.bool true) ∧ Below W.heap.size W w' := by
  obtain ⟨TY, ST, NX, be, fo, ba⟩ := x
  obtain ⟨TY', ST', NX', be', fo', ba'⟩ := y
  exact tableLines_cells TY ST NX be fo ba tv sv nv TY' ST' NX' be' fo' ba' tv' sv' nv' W h hin h' hin' hE hm
end Go.Proofs.YtlaplgaccjmbhaaGreatDoor.Px
namespace Go.Proofs.YtlaplgaccjmbhaaGreatDoor
open Go.ChangeShapes Go.WideShapes Go.ChangeAt Go.RowKit
open Go.ChangeMaps (open_string)

namespace tableLines
theorem own : ownKnob Tryz.prog.godebug = none := by kernel_rfl
set_option maxRecDepth 100000 in
theorem lifted (os : Os) (started : os.Started) (H : Type) (enc : TypeId × Value → H) :
    ReturnsInHanded {} Tryz.checked os 13 .any (fun w args => (Rows.tableLinesSpec.pre enc Tryz.prog Tryz.f13 Rows.tableLinesRow.domain false w args ∧ laidMetH Tryz.prog Rows.tableLinesRow.laid w) ∧ sizedMet enc Tryz.prog Tryz.f13 (OpenSpec.ofChange Rows.tableLinesSpec) false w args)
      (Rows.tableLinesSpec.post enc Tryz.prog Tryz.f13 false true false false) := by
  refine handed_both (X := fun w _ => laidMetH Tryz.prog Rows.tableLinesRow.laid w) (fun _ _ _ hh h => h.of_heap hh) own started (by kernel_rfl) Tryz.func13
    (ChangeSpec.witness_shaped (enc := enc) (C := Tryz.checked) (os := os) (X := fun w _ => laidMetH Tryz.prog Rows.tableLinesRow.laid w) false ((World.doorLaid Tryz.prog 4000 os).layVars Tryz.prog [("unicode/utf8.first", Rows.laid_unicode_utf8_first)]) #[.agg #[.slice none 0 0, .slice none 0 0, .slice none 0 0, .int .i32 0, .int .u8 0, .int .u8 0], .agg #[.slice none 0 0, .slice none 0 0, .slice none 0 0, .int .i32 0, .int .u8 0, .int .u8 0]] 8 (door_os os)
      (World.shaped_of_ZipB (by kernel_rfl) (by kernel_rfl)) (by kernel_rfl) (by kernel_rfl) (by kernel_rfl) (door_met os _)) ?_
  intro W base args ds gs before hval0 hW hSh _ hL
  have hMx := maxLen_cell hSh
  have hval : ∀ (j : Nat) t v, Tryz.f13.params[j]? = some t → args[j]? = some v → Value.okWide Tryz.prog W .any base t v := hval0
  have hEnv : Px.EnvAt W := Px.env_of hL
  have hW' := hW
  obtain ⟨p, q, hA0, hV, rfl, _, _⟩ := hW
  have hA : DataW.TrodAll enc Tryz.prog W 0 (fun _ => true) true Tryz.f13.params.toList args.toList ds p := hA0
  rw [Tryz.params13] at hA hval
  obtain ⟨v0, vs0, d0, ds0, p0, q0, hargs, rfl, rfl, h0, r0⟩ := trodAll_cons hA
  obtain ⟨v1, vs1, d1, ds1, p1, q1, rfl, rfl, rfl, h1, r1⟩ := trodAll_cons r0
  obtain ⟨rfl, rfl, rfl⟩ := trodAll_nil r1
  obtain rfl : args = #[v0, v1] := by cases args; simp_all
  obtain ⟨rfl, rfl⟩ := trodVars_none hV
  obtain ⟨x0, tv0, sv0, nv0, rfl, hx0, hd0⟩ := Px.open_d40 (hval 0 75 v0 rfl rfl) h0
  obtain ⟨x1, tv1, sv1, nv1, rfl, hx1, hd1⟩ := Px.open_d40 (hval 1 75 v1 rfl rfl) h1
  refine (Px.tableLines_walk x0 tv0 sv0 nv0 hx0 hd0 x1 tv1 sv1 nv1 hx1 hd1 hEnv hMx).mono fun e W' ⟨he, hB⟩ => ?_
  subst he
  refine ⟨_, rfl, post_law (by kernel_rfl) ?_ rfl hW' rfl rfl Tryz.underlying4 hB⟩
  rw [Tryz.params13]
  intro t ht
  have hall : ([75, 75].all fun u => Tryz.prog.readableRec u && decide (u < Tryz.prog.types.size)) = true := by kernel_rfl
  have h1 := List.all_eq_true.1 hall t ht
  have h2 : Tryz.prog.readableRec t = true ∧ t < Tryz.prog.types.size := by simpa using h1
  exact h2
set_option maxHeartbeats 8000000 in
theorem facts : joinedFacts Tryz.pinned.checked.prog 13 Tryz.f13 Rows.tableLinesSpec Rows.tableLinesRow = true := by
  simp only [joinedFacts, Bool.and_eq_true]
  and_intros
  all_goals (as_aux_lemma => kernel_rfl)
theorem named : Tryz.pinned.checked.prog.funcNamed Rows.tableLinesRow.func = some 13 := by kernel_rfl
theorem said : Rows.TableLinesSaid :=
  OpenClaim.holds_of_wide 13 Tryz.f13 rfl rfl rfl rfl rfl rfl rfl ⟨rfl, rfl, rfl, rfl, rfl⟩ rfl rfl rfl rfl rfl named Tryz.func13 facts
    (of_decide_eq_true (by kernel_rfl)) (by unfold Func.isWrapper; first | (rw [if_pos (by decide +kernel)]; kernel_rfl) | (rw [if_neg (by decide +kernel)]; exact ⟨rfl, rfl⟩))
    (fun os started H enc _ => lifted os started H enc)
theorem plain (f : FuncId) (fn : Func) (hf : Tryz.pinned.checked.prog.funcNamed "analemma/analemmalaw40.TableLines" = some f) (hfn : Tryz.pinned.checked.prog.funcs[f]? = some fn) :
    true = Tryz.pinned.checked.prog.looks [] ∧ ∀ (j : Nat) t, fn.params[j]? = some t → Tryz.pinned.checked.prog.wantsStandIn t = false := by
  obtain rfl : f = 13 := Option.some.inj ((show Tryz.prog.funcNamed "analemma/analemmalaw40.TableLines" = some 13 by kernel_rfl).symm.trans hf) |>.symm
  obtain rfl : fn = Tryz.f13 := (Option.some.inj (Tryz.func13.symm.trans hfn)).symm
  refine ⟨by kernel_rfl, fun j t ht => ?_⟩
  rw [Tryz.params13] at ht
  have hm : t ∈ [75, 75] := by simpa using Array.mem_of_getElem? ht
  have hall : ([75, 75].all fun u => !Tryz.prog.wantsStandIn u) = true := by kernel_rfl
  exact (show Tryz.prog.wantsStandIn t = false by simpa using List.all_eq_true.1 hall t hm)
theorem card : Rows.TableLinesCardSaid :=
  Claim7.holds_tied_plain_at .later [] _ _ _ _ said (fun _ h => by cases h) (by kernel_rfl) (fun _ h => by cases h) tableLines_row_tie rfl ⟨rfl, rfl⟩ (by kernel_rfl) rfl plain (by kernel_rfl)
end tableLines
#print axioms tableLines.card
end Go.Proofs.YtlaplgaccjmbhaaGreatDoor
