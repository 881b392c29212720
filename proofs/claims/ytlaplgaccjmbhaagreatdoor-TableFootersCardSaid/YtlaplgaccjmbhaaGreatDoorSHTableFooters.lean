/- The frame of a row whose walk needs the listed variables and the shape of the world; the cell of bytealg.MaxLen. Other footers of a table by numbers, plain: what the check of such a table says. No program in sight. The law TableFooters: the walk. The law TableFooters returns true for every table by numbers, every two numbers and both answers, and its tied card holds; no condition beyond the row itself. -/
import Derived.Test.YtlaplgaccjmbhaaGreatDoorSG13
import Derived.OpenShut
import Derived.HandedShaped
import Derived.Shelf.Vars
import Derived.Test.YtlaplgaccjmbhaaGreatDoorSG15
import Derived.Test.YtlaplgaccjmbhaaGreatDoorSG28
import Derived.Test.YtlaplgaccjmbhaaGreatDoorSG30
import Derived.Test.YtlaplgaccjmbhaaGreatDoorSG17
import Derived.Test.YtlaplgaccjmbhaaGreatDoorSG12
import Derived.Test.YtlaplgaccjmbhaaGreatDoorSG9
import Derived.Test.YtlaplgaccjmbhaaGreatDoorShelr
import Derived.BigRegion
import Derived.Test.YtlaplgaccjmbhaaGreatDoorSG25
import Derived.Test.YtlaplgaccjmbhaaGreatDoorSG14
namespace Go.Proofs.YtlaplgaccjmbhaaGreatDoor
open Go.ChangeShapes Go.WideShapes Go.ChangeAt Go.RowKit

set_option maxRecDepth 100000 in
theorem handed_both {H : Type} {enc : TypeId × Value → H} {os : Os} {f : FuncId} {fn : Func} {s : ChangeSpec} {conds : List PathCond} {apart fresh handsOn again : Bool} {X : World → Array Value → Prop}
    (hX : ∀ (w w' : World) (args : Array Value), w.heap = w'.heap → X w args → X w' args)
    (own : ownKnob Tryz.checked.prog.godebug = none) (started : os.Started) (noInit : Tryz.checked.prog.inits.idxOf? f = none) (hfn : Tryz.checked.prog.funcs[f]? = some fn)
    (witness : ∃ (w : World) (tape : Tape) (i : Input), w.os = os ∧ (w.forCall tape i).Shaped Tryz.checked.prog ∧ i.vars = [] ∧ Input.okWide Tryz.checked.prog (w.forCall tape i) .any w.heap.size f i ∧
      ((s.pre enc Tryz.checked.prog fn conds apart (w.forCall tape i).memory i.args ∧ X (w.forCall tape i).memory i.args) ∧ sizedMet enc Tryz.checked.prog fn (OpenSpec.ofChange s) apart (w.forCall tape i).memory i.args) ∧
      (({} : Assume)).holds Tryz.checked.prog (lone (Frame.enter Tryz.checked.prog f i.args .normal) [] (w.forCall tape i)))
    (walk : ∀ (W : World) (base : Nat) (args : Array Value) (ds gs : List (DataW H)) (before : List MemPlace),
      (∀ (j : Nat) t v, fn.params[j]? = some t → args[j]? = some v → Value.okWide Tryz.checked.prog W .any base t v) →
      DataW.Whole enc Tryz.checked.prog fn.params.toList s.vars apart W args.toList ds gs before → W.ShapedOpen Tryz.checked.prog →
      (DataW.weightsEach Tryz.checked.prog (fn.params.toList ++ s.plain.varTypes Tryz.checked.prog) (ds ++ gs)).all (· ≤ reachBytes) = true → X W args →
      Calls Tryz.checked.prog f args W fun e W' => ∃ v, e = .returned v ∧ s.post enc Tryz.checked.prog fn apart fresh handsOn again W args v W') :
    ReturnsInHanded {} Tryz.checked os f .any (fun w args => (s.pre enc Tryz.checked.prog fn conds apart w args ∧ X w args) ∧ sizedMet enc Tryz.checked.prog fn (OpenSpec.ofChange s) apart w args) (s.post enc Tryz.checked.prog fn apart fresh handsOn again) := by
  refine returnsInHanded_of_calls own started noInit witness fun w tape i _ hsh _ hok hpre _ => ?_
  obtain ⟨_, _, _, g, hg, _, _, _, _, hval⟩ := hok
  obtain rfl : g = fn := Option.some.inj (hg.symm.trans hfn)
  obtain ⟨⟨⟨ds, gs, before, hw, _⟩, hx⟩, hz⟩ := hpre
  refine (walk (w.forCall tape i) w.heap.size i.args ds gs before hval (DataW.Whole.of_heap (by rfl) hw) hsh (hz.weights hw) (hX _ _ _ (by rfl) hx)).mono ?_
  rintro e W' ⟨v, rfl, hp⟩
  exact ChangeSpec.post_blind hp
set_option maxRecDepth 100000 in
/-- the cell of internal/bytealg.MaxLen -/
theorem maxLen_cell {W : World} (h : W.ShapedOpen Tryz.prog) : ∃ m, W.cell? ⟨3, 0, none⟩ = some (.int .i64 m) :=
  cell_of_shapedOpen_int (P := Tryz.prog) (g := 3) (t := 3) (zero := #[.int .i64 0]) h (of_decide_eq_true (by kernel_rfl)) (by kernel_rfl) rfl (by kernel_rfl) (by kernel_rfl) Tryz.underlying3
end Go.Proofs.YtlaplgaccjmbhaaGreatDoor
namespace Go.Proofs.YtlaplgaccjmbhaaGreatDoor.Tb
open Px

def abbrQ : List (List UInt8) := [[81, 81, 81], [82, 82, 82]]
/-- a footer's TZ with other abbreviations -/
def otherP (k c : Nat) : Pos := { posixK k c with std := bs [81, 81, 81], dst := bs (if k = 1 ∨ k = 2 ∨ k = 3 then [82, 82, 82] else []) }
theorem other_all : (List.range 4).all (fun k => (List.range 25).all (fun c => goodP abbrQ (otherP k c) && decide ((finG rfF (33 :: printL (otherP k c))).2 ≠ 0) && decide ((finG rfF (33 :: printL (posixK k c))).2 ≠ 0))) = true := by kernel_rfl
/-- the TZ that TableFooters asks of -/
def askP (n base : Int) (other : Bool) : Pos := if other then otherP (n % 4).toNat (base % 25).toNat else posixN n base
theorem ask_good (n base : Int) (other : Bool) : GoodP (if other then abbrQ else abbr4) (askP n base other) ∧ (finG rfF (33 :: printL (askP n base other))).2 ≠ 0 := by
  have h := List.all_eq_true.1 (List.all_eq_true.1 other_all (n % 4).toNat (List.mem_range.2 (by omega))) (base % 25).toNat (List.mem_range.2 (by omega))
  simp only [Bool.and_eq_true, decide_eq_true_eq] at h
  obtain ⟨⟨h1, h2⟩, h3⟩ := h
  cases other
  · exact ⟨goodP_iff (posix_good n base), h3⟩
  · exact ⟨goodP_iff h1, h2⟩
theorem ask_shape (n base : Int) : ∃ a bo c o e p a' c', posixN n base = ⟨a, bo, c, o, e, p⟩ ∧ askP n base true = ⟨a', bo, c', o, e, p⟩ ∧ (true = false → a' = a ∧ c' = c) ∧ (true = true → a' = bs [81, 81, 81] ∧ ((n % 4 = 0 ∧ c = bs [] ∧ c' = bs []) ∨ ((n % 4 = 1 ∨ n % 4 = 2) ∧ c = bs [68, 83, 84] ∧ c' = bs [82, 82, 82]) ∨ (n % 4 = 3 ∧ c = bs [43, 48, 54] ∧ c' = bs [82, 82, 82]))) := by
  have hq : n % 4 = 0 ∨ n % 4 = 1 ∨ n % 4 = 2 ∨ n % 4 = 3 := by omega
  have hv : askP n base true = otherP (n % 4).toNat (base % 25).toNat := rfl
  rw [hv]
  unfold posixN otherP
  obtain ⟨c, hc⟩ : ∃ c, (base % 25).toNat = c := ⟨_, rfl⟩
  rw [hc]
  rcases hq with e | e | e | e
  · rw [show (n % 4).toNat = 0 by omega]
    exact ⟨_, _, _, _, _, _, _, _, rfl, rfl, (fun q => by cases q), fun _ => ⟨rfl, .inl ⟨e, rfl, rfl⟩⟩⟩
  · rw [show (n % 4).toNat = 1 by omega]
    exact ⟨_, _, _, _, _, _, _, _, rfl, rfl, (fun q => by cases q), fun _ => ⟨rfl, .inr (.inl ⟨.inl e, rfl, rfl⟩)⟩⟩
  · rw [show (n % 4).toNat = 2 by omega]
    exact ⟨_, _, _, _, _, _, _, _, rfl, rfl, (fun q => by cases q), fun _ => ⟨rfl, .inr (.inl ⟨.inr e, rfl, rfl⟩)⟩⟩
  · rw [show (n % 4).toNat = 3 by omega]
    exact ⟨_, _, _, _, _, _, _, _, rfl, rfl, (fun q => by cases q), fun _ => ⟨rfl, .inr (.inr ⟨e, rfl, rfl⟩)⟩⟩
/-- the last local time of a table -/
def Tab.now (x : Tab) : Lc := x.types.getD x.last.ty.toNat Lc.zero
theorem last_rng {x : Tab} (h : transE x = 0) : -36028797018963968 ≤ x.last.at' ∧ x.last.at' ≤ 36028797018963968 := by
  have hk := transGo_ok _ _ _ _ h
  unfold Tab.last
  cases e : x.trans.getLast? with
  | none => simp
  | some y =>
    have hm : y ∈ x.trans := List.mem_of_getLast? e
    exact hk.rng y hm
/-- the check of a right table with another footer -/
theorem foot_other {x : Tab} (h : checkE x = 0) {abbrs : List (List UInt8)} {p : Pos} (hp : GoodP abbrs p) :
    checkE ⟨x.types, x.trans, printL p⟩ = if (atL p x.last.at').1 = x.now then 0 else 16 := by
  obtain ⟨h1, h2, _⟩ := check_zero h
  have hr := last_rng h2
  have ha := (atL_good hp hr.1 hr.2).1
  unfold checkE
  rw [if_neg (by dsimp only; rw [h1]; decide), if_neg (by unfold transE at h2 ⊢; dsimp only; rw [h2]; decide)]
  unfold footE
  dsimp only
  rw [hp.back, if_neg (fun q => q rfl)]
  show (if atL p x.last.at' = (x.now, 0) then (0 : Int) else 16) = _
  by_cases e : (atL p x.last.at').1 = x.now
  · rw [if_pos e, if_pos (Prod.ext e ha)]
  · rw [if_neg e, if_neg (fun q => e (congrArg Prod.fst q))]
theorem foot_wrong {x : Tab} (h : checkE x = 0) {f : List UInt8} {E : Int} (hf : (finG rfF f).2 = E) (hE : E ≠ 0) : checkE ⟨x.types, x.trans, f⟩ = E := by
  obtain ⟨h1, h2, _⟩ := check_zero h
  unfold checkE
  rw [if_neg (by dsimp only; rw [h1]; decide), if_neg (by unfold transE at h2 ⊢; dsimp only; rw [h2]; decide)]
  unfold footE
  dsimp only
  rw [if_pos (by rw [hf]; exact hE), hf]
theorem abbr_apart : abbrQ.all (fun l => !abbr4.contains l) = true := by kernel_rfl
/-- with other abbreviations the local time is another one -/
theorem other_ne (d : D40) (h : d.In) (n base : Int) : (atL (askP n base true) d.made.last.at').1 ≠ d.made.now := by
  have hr := made_right d h
  obtain ⟨h1, h2, h3⟩ := check_zero hr
  have hg := last_rng h2
  obtain ⟨_, _, _, a4, _⟩ := atL_good (ask_good n base true).1 hg.1 hg.2
  obtain ⟨_, _, _, b4, _⟩ := atL_good (goodP_iff (posix_good d.foot d.base)) hg.1 hg.2
  intro e
  have hfo : d.made.foot = printL d.pos := rfl
  unfold footE at h3
  rw [hfo, show finG rfF (printL d.pos) = (d.pos, 0) from (goodP_iff (posix_good d.foot d.base)).back, if_neg (fun q => q rfl)] at h3
  by_cases e2 : atL d.pos d.made.last.at' = (d.made.now, 0)
  · have e3 : (atL d.pos d.made.last.at').1 = d.made.now := congrArg Prod.fst e2
    rw [e, ← e3] at a4
    have := List.all_eq_true.1 abbr_apart _ a4
    simp only [Bool.not_eq_true', List.contains_eq_mem, decide_eq_false_iff_not] at this
    exact this b4
  · rw [show d.made.types.getD d.made.last.ty.toNat Lc.zero = d.made.now from rfl, if_neg e2] at h3
    cases h3
end Go.Proofs.YtlaplgaccjmbhaaGreatDoor.Tb
namespace Go.Proofs.YtlaplgaccjmbhaaGreatDoor.Px
open Go.RowKit
open Civ Tb

theorem cell_lt {w : World} {p : Addr} {v : Value} (h : w.cell? p = some v) : p.block < w.heap.size := by
  rcases Nat.lt_or_ge p.block w.heap.size with h' | h'
  · exact h'
  · simp [World.cell?, Array.getElem?_eq_none h'] at h
set_option maxHeartbeats 16000000 in
set_option maxRecDepth 100000 in
theorem tableFooters_cells (TY ST NX : List Int) (be fo ba : Int) (tv sv nv : Value) (n m : Int) (b : Bool) (W : World) (h : D40V W tv sv nv ⟨TY, ST, NX, be, fo, ba⟩) (hin : D40.In ⟨TY, ST, NX, be, fo, ba⟩) (n0 : 0 ≤ n) (n1 : n ≤ 255) (m0 : 0 ≤ m) (m1 : m ≤ 255) (hE : EnvAt W)
    (hm : ∃ m, W.cell? ⟨3, 0, none⟩ = some (.int .i64 m)) :
    Calls Tryz.prog 14 #[.agg #[tv, sv, nv, .int .i32 be, .int .u8 fo, .int .u8 ba], .int .u8 n, .int .u8 m, .bool b] W fun e w' => e = .returned (.bool true) ∧ Below W.heap.size W w' := by
  have CM := Lib.hid (fun w h => made40_any TY ST NX be fo ba tv sv nv w h hin)
  have CW := Lib.hid (fun w hE => works40_any w hE)
  have CPx := Lib.hid (fun w => posixes_any n m n0 n1 m0 m1 w)
  obtain ⟨ta, tc, htv, _, _⟩ := h.types.slice
  obtain ⟨sa, sc, hsv, _, _⟩ := h.steps.slice
  obtain ⟨na, nc, hnv, _, _⟩ := h.next.slice
  obtain ⟨TN, hTN⟩ : ∃ n, TY.length = n := ⟨_, rfl⟩
  obtain ⟨SN, hSN⟩ : ∃ n, ST.length = n := ⟨_, rfl⟩
  obtain ⟨NN, hNN⟩ : ∃ n, NX.length = n := ⟨_, rfl⟩
  dsimp only at htv hsv hnv
  rw [hTN] at htv
  rw [hSN] at hsv
  rw [hNN] at hnv
  subst htv hsv hnv
  obtain ⟨DD, hD⟩ : ∃ D, (⟨TY, ST, NX, be, fo, ba⟩ : D40) = D := ⟨_, rfl⟩
  rw [hD] at CM h hin
  have hr := made_right DD hin
  have hne := other_ne DD hin n m
  obtain ⟨hg, hbad⟩ := ask_good n m b
  obtain ⟨X, hX⟩ : ∃ X, DD.made = X := ⟨_, rfl⟩
  rw [hX] at CM hr hne
  have hty := typesE_zero (check_zero hr).1
  have hrng := last_rng (check_zero hr).2.1
  obtain ⟨t0, ht0⟩ : ∃ t, X.last.at' = t := ⟨_, rfl⟩
  rw [ht0] at hne hrng
  obtain ⟨S, hS⟩ : ∃ S, X.foot = S := ⟨_, rfl⟩
  obtain ⟨M, hM⟩ : ∃ n, X.types.length = n := ⟨_, rfl⟩
  obtain ⟨N, hN⟩ : ∃ n, X.trans.length = n := ⟨_, rfl⟩
  have hM0 : 0 < M ∧ M ≤ 254 := by rw [← hM]; exact ⟨List.length_pos_iff.2 hty.1, hty.2.1⟩
  obtain ⟨hM0, hM1⟩ := hM0
  have hchk := foot_other hr hg
  rw [ht0] at hchk
  have hcbad := foot_wrong (f := 33 :: printL (askP n m b)) hr rfl hbad
  obtain ⟨A, hA⟩ : ∃ A, askP n m b = A := ⟨_, rfl⟩
  have hne' : b = true → (atL A t0).1 ≠ X.now := fun q => by rw [← hA, q]; exact hne
  have hsh : ∃ a bo c o e p a' c', posixN n m = ⟨a, bo, c, o, e, p⟩ ∧ A = ⟨a', bo, c', o, e, p⟩ ∧ (b = false → a' = a ∧ c' = c) ∧ (b = true → a' = bs [81, 81, 81] ∧ ((n % 4 = 0 ∧ c = bs [] ∧ c' = bs []) ∨ ((n % 4 = 1 ∨ n % 4 = 2) ∧ c = bs [68, 83, 84] ∧ c' = bs [82, 82, 82]) ∨ (n % 4 = 3 ∧ c = bs [43, 48, 54] ∧ c' = bs [82, 82, 82]))) := by
    rw [← hA]
    cases b
    · exact ⟨_, _, _, _, _, _, _, _, rfl, rfl, fun _ => ⟨rfl, rfl⟩, fun q => by cases q⟩
    · exact ask_shape n m
  obtain ⟨a, bo, c, o, ⟨e1, e2, e3, e4, e5⟩, ⟨p1, p2, p3, p4, p5⟩, a', c', hP, hPA, hb0, hb1⟩ := hsh
  rw [hA] at hg hchk hcbad hbad
  have CPr := Lib.hid (fun w hE => prt_any A (by have := hg.s0; omega) (by have := hg.s1; omega) w hE)
  rw [show printP A = (printL A, 0) by unfold printP; rw [hg.ok, if_pos rfl]] at CPr
  have CAt := Lib.hid (fun w hE => atL_any A t0 (by have := hg.s0; omega) (by have := hg.s1; omega) w hE)
  rw [(atL_good hg hrng.1 hrng.2).1] at CAt
  have CPa := Lib.hid (fun w hE => parse_any (33 :: printL A) w hE)
  rw [fin_two] at CPa
  obtain ⟨AL, hAL⟩ : ∃ l, printL A = l := ⟨_, rfl⟩
  rw [hAL] at CPr CPa hchk hcbad hbad
  obtain ⟨G, hG⟩ : ∃ g, (finG rfF (33 :: AL)).2 = g := ⟨_, rfl⟩
  obtain ⟨GP, hGP⟩ : ∃ g, (finG rfF (33 :: AL)).1 = g := ⟨_, rfl⟩
  rw [hG, hGP] at CPa
  rw [hG] at hcbad hbad
  obtain ⟨ga, gb, gc, gd, ⟨g1, g2, g3, g4, g5⟩, ⟨r1, r2, r3, r4, r5⟩⟩ := GP
  obtain ⟨⟨lo, ld, la⟩, hl⟩ : ∃ l, (atL A t0).1 = l := ⟨_, rfl⟩
  obtain ⟨⟨wo, wd, wa⟩, hw⟩ : ∃ l, X.now = l := ⟨_, rfl⟩
  rw [hl, hw] at hchk hne'
  rw [hl] at CAt
  rw [hP] at CPx
  subst hPA
  unfold Pos.val at CPx CPr CAt CPa
  unfold Lc.val at CAt
  dsimp only at CPx CPr CAt CPa
  have CC := Lib.hid (fun f tv rv w h hE => tcheck_any ⟨X.types, X.trans, f⟩ tv rv (bs f) w h hE)
  have HR := Lib.hid hr
  have HS := Lib.hid hS
  have HM := Lib.hid hM
  have HN := Lib.hid hN
  have HH := Lib.hid h
  have HE := Lib.hid hE
  have HMx := Lib.hid hm
  have HChk := Lib.hid hchk
  have HBadc := Lib.hid hcbad
  have HBad := Lib.hid hbad
  have HNe := Lib.hid hne'
  have HB0 := Lib.hid hb0
  have HB1 := Lib.hid hb1
  have HW := Lib.hid hw
  have HT0 := Lib.hid ht0
  have hcat : bs (33 :: AL) = ⟨#[33]⟩ ++ bs AL := by rw [show (⟨#[33]⟩ : ByteArray) = bs [33] from rfl, Off.bs_add]; rfl
  have hlen : ¬ 9223372036854775807 < 1 + (bs AL).size := by
    have : (bs AL).size = AL.length := rfl
    have := hg.len
    rw [hAL] at this
    omega
  have hG0 : ¬ G = 0 := hbad
  have hG0b : (G == 0) = false := by simpa using hbad
  have hGn : (G != 0) = true := by simpa using hbad
  have HCat := Lib.hid hcat
  have C0 := Lib.hid (CC.out AL)
  have C9 := Lib.hid (CC.out (33 :: AL))
  rw [hcbad, hcat] at C9
  rw [hchk] at C0
  rw [hcat] at CPa
  have hNb0 := made_trans_len DD hin
  rw [hX, hN] at hNb0
  have HNb := Lib.hid hNb0
  have K0 := Lib.hid ((Kp.start W).alloc (.cells #[.slice ta TN tc, .slice sa SN sc, .slice na NN nc, .int .i32 be, .int .u8 fo, .int .u8 ba] 75))
  clear h hin hE hm hr hne hne' hbad hX ht0 hcat CC hty hrng hS hM hN hchk hcbad hA hP hb0 hb1 hAL hG hGP hl hw hD hTN hSN hNN hg hNb0
  go_enter Tryz.func14, Tryz.ntmps14
  go_wp2_with fail
  refine (CM.out _ (HH.out.keep K0.out.below)).mono ?_
  rintro _ V ⟨tv1, rv1, rfl, hk, hf⟩
  have hk1 := K0.out.adopt hk
  obtain ⟨xa, xc, rfl⟩ : ∃ a c, tv1 = .slice a X.types.length c := own_slice (hk1.row 1 rfl)
  obtain ⟨ya, yc, rfl⟩ : ∃ a c, rv1 = .slice a X.trans.length c := own_slice (hk1.row 0 rfl)
  obtain ⟨g, hg, -, -, -, -⟩ := own_some (hk1.row 1 rfl) (show 0 < X.types.length by rw [HM.out]; omega)
  obtain rfl : xa = some ⟨g, 0, none⟩ := hg
  rw [HM.out, HN.out] at hk1 ⊢
  rw [HS.out]
  have K1 := Lib.hid (show Kp [(V.heap.size, .cells #[.slice (some ⟨g, 0, none⟩) M xc, .slice ya N yc, .string (bs S)] 25 (0, 0)), (W.heap.size, .cells #[.slice ta TN tc, .slice sa SN sc, .slice na NN nc, .int .i32 be, .int .u8 fo, .int .u8 ba] 75 (0, 0))] (tabR (.slice (some ⟨g, 0, none⟩) M xc) (.slice ya N yc) X) W _ from hk1.alloc (.cells #[.slice (some ⟨g, 0, none⟩) M xc, .slice ya N yc, .string (bs S)] 25))
  have HF := Lib.hid hf
  clear hk hk1 hf K0
  go_wp2_with fail
  refine (CPx.out _).mono ?_
  rintro _ V2 ⟨rfl, hb⟩
  have K2 := Lib.hid ((K1.out.keep hb).alloc (.cells #[.string a, .int .i64 bo, .string c, .int .i64 o, .int .i64 e1, .int .i64 e2, .int .i64 e3, .int .i64 e4, .int .i64 e5, .int .i64 p1, .int .i64 p2, .int .i64 p3, .int .i64 p4, .int .i64 p5] 50))
  clear hb K1
  go_upto_if 32 with fail
  go_cut [32] (fun _ wx => Kp [(V2.heap.size, .cells #[.string a', .int .i64 bo, .string c', .int .i64 o, .int .i64 e1, .int .i64 e2, .int .i64 e3, .int .i64 e4, .int .i64 e5, .int .i64 p1, .int .i64 p2, .int .i64 p3, .int .i64 p4, .int .i64 p5] 50 (0, 0)), (V.heap.size, .cells #[.slice (some ⟨g, 0, none⟩) M xc, .slice ya N yc, .string (bs S)] 25 (0, 0)), (W.heap.size, .cells #[.slice ta TN tc, .slice sa SN sc, .slice na NN nc, .int .i32 be, .int .u8 fo, .int .u8 ba] 75 (0, 0))] (tabR (.slice (some ⟨g, 0, none⟩) M xc) (.slice ya N yc) X) W wx)
  case first =>
    cases b
    · obtain ⟨rfl, rfl⟩ := HB0.out rfl
      go_wp2_with fail
      go_meet
      exact K2.out
    · obtain ⟨rfl, hc⟩ := HB1.out rfl
      obtain ⟨mx, hmx⟩ := HMx.out
      have hmx4 := (K2.out.below.cell (cell_lt hmx)).trans hmx
      have HMx4 := Lib.hid hmx4
      obtain ⟨x0, _, x2, _⟩ := row14 (K2.out.at 0 rfl)
      obtain ⟨y0, _, y2, _⟩ := free14 (K2.out.at 0 rfl)
      have zz := K2.out.lt 0 rfl
      clear hmx hmx4
      rcases hc with ⟨e, rfl, rfl⟩ | ⟨e, rfl, rfl⟩ | ⟨e, rfl, rfl⟩
      · have hnn : ¬ n % 4 = 3 := by omega
        have CRp := Lib.hid (Tryz.strings_Replace (bs []) ⟨#[68, 83, 84]⟩ ⟨#[82, 82, 82]⟩ 1 mx _ (by decide) HMx4.out (by decide) (of_decide_eq_true (by kernel_rfl)))
        rw [show (⟨(Lib.replace (bs []).data.toList (⟨#[68, 83, 84]⟩ : ByteArray).data.toList (⟨#[82, 82, 82]⟩ : ByteArray).data.toList 1).toArray⟩ : ByteArray) = bs [] by kernel_rfl] at CRp
        go_wp2_with fail
        refine CRp.out.mono ?_
        rintro _ V3 ⟨rfl, hb⟩
        have K3 := Lib.hid (K2.out.keep hb)
        clear hb x0 x2 y0 y2 zz K2
        obtain ⟨y0, _, y2, _⟩ := free14 (K3.out.at 0 rfl)
        obtain ⟨x0, _, x2, _⟩ := row14 (K3.out.at 0 rfl)
        have zz := K3.out.lt 0 rfl
        go_wp2_with fail
        go_meet
        exact (K3.out.set 0 rfl 0 (.string (bs [81, 81, 81])) rfl).set 0 rfl 2 (.string (bs [])) rfl
      · have hnn : ¬ n % 4 = 3 := by omega
        have CRp := Lib.hid (Tryz.strings_Replace (bs [68, 83, 84]) ⟨#[68, 83, 84]⟩ ⟨#[82, 82, 82]⟩ 1 mx _ (by decide) HMx4.out (by decide) (of_decide_eq_true (by kernel_rfl)))
        rw [show (⟨(Lib.replace (bs [68, 83, 84]).data.toList (⟨#[68, 83, 84]⟩ : ByteArray).data.toList (⟨#[82, 82, 82]⟩ : ByteArray).data.toList 1).toArray⟩ : ByteArray) = bs [82, 82, 82] by kernel_rfl] at CRp
        go_wp2_with fail
        refine CRp.out.mono ?_
        rintro _ V3 ⟨rfl, hb⟩
        have K3 := Lib.hid (K2.out.keep hb)
        clear hb x0 x2 y0 y2 zz K2
        obtain ⟨y0, _, y2, _⟩ := free14 (K3.out.at 0 rfl)
        obtain ⟨x0, _, x2, _⟩ := row14 (K3.out.at 0 rfl)
        have zz := K3.out.lt 0 rfl
        go_wp2_with fail
        go_meet
        exact (K3.out.set 0 rfl 0 (.string (bs [81, 81, 81])) rfl).set 0 rfl 2 (.string (bs [82, 82, 82])) rfl
      · have CRp := Lib.hid (Tryz.strings_Replace (bs [43, 48, 54]) ⟨#[68, 83, 84]⟩ ⟨#[82, 82, 82]⟩ 1 mx _ (by decide) HMx4.out (by decide) (of_decide_eq_true (by kernel_rfl)))
        rw [show (⟨(Lib.replace (bs [43, 48, 54]).data.toList (⟨#[68, 83, 84]⟩ : ByteArray).data.toList (⟨#[82, 82, 82]⟩ : ByteArray).data.toList 1).toArray⟩ : ByteArray) = bs [43, 48, 54] by kernel_rfl] at CRp
        go_wp2_with fail
        refine CRp.out.mono ?_
        rintro _ V3 ⟨rfl, hb⟩
        have K3 := Lib.hid (K2.out.keep hb)
        clear hb x0 x2 y0 y2 zz K2
        obtain ⟨y0, _, y2, _⟩ := free14 (K3.out.at 0 rfl)
        obtain ⟨x0, _, x2, _⟩ := row14 (K3.out.at 0 rfl)
        have zz := K3.out.lt 0 rfl
        go_wp2_with fail
        go_meet
        exact ((K3.out.set 0 rfl 0 (.string (bs [81, 81, 81])) rfl).set 0 rfl 2 (.string (bs [43, 48, 54])) rfl).set 0 rfl 2 (.string (bs [82, 82, 82])) rfl
  case rest =>
    have K3 := Lib.hid hcut
    clear hcut K2 CPx HB0 HB1
    obtain ⟨x0, x1, x2, x3, x4, x5, x6, x7, x8, x9, x10, x11, x12, x13⟩ := row14 (K3.out.at 0 rfl)
    go_wp2_with fail
    refine (CPr.out _ (HE.out.keep K3.out.below)).mono ?_
    rintro _ V3 ⟨rfl, hb⟩
    have K4 := Lib.hid (K3.out.keep hb)
    clear hb x0 x1 x2 x3 x4 x5 x6 x7 x8 x9 x10 x11 x12 x13 K3
    obtain ⟨⟨y0, y1, y2⟩, _, _, _⟩ := row3 (K4.out.at 1 rfl)
    obtain ⟨⟨ko, kd, ka⟩, hk0⟩ : ∃ l, X.types[0]? = some l := ⟨_, List.getElem?_eq_getElem (by rw [HM.out]; omega)⟩
    obtain ⟨d0, d1, d2⟩ := lc_cell (K4.out.row 1 rfl) hk0
    simp only [Nat.zero_mul, Nat.zero_add] at d0 d1 d2
    have HK0 := Lib.hid hk0
    have hMi : (0 : Int) < (M : Int) := by omega
    have zz := K4.out.lt 1 rfl
    have zg := ((K4.out.row 1 rfl).lt g rfl).2
    clear hk0
    go_upto_region 12 with fail
    go_cut [14, 15] (fun v14 v15 wx => v14 = .int .i64 0 ∧ v15 = .pointer (some ⟨V3.heap.size, 0, none⟩) ∧ Kp ((V3.heap.size, .cells #[.int .i64 ko, .bool kd, .string ka] 28 (0, 0)) :: [(V2.heap.size, .cells #[.string a', .int .i64 bo, .string c', .int .i64 o, .int .i64 e1, .int .i64 e2, .int .i64 e3, .int .i64 e4, .int .i64 e5, .int .i64 p1, .int .i64 p2, .int .i64 p3, .int .i64 p4, .int .i64 p5] 50 (0, 0)), (V.heap.size, .cells #[.slice (some ⟨g, 0, none⟩) M xc, .slice ya N yc, .string (bs S)] 25 (0, 0)), (W.heap.size, .cells #[.slice ta TN tc, .slice sa SN sc, .slice na NN nc, .int .i32 be, .int .u8 fo, .int .u8 ba] 75 (0, 0))]) (tabR (.slice (some ⟨g, 0, none⟩) M xc) (.slice ya N yc) X) W wx)
    case first =>
      have K5 := Lib.hid (K4.out.alloc (.cells #[.int .i64 ko, .bool kd, .string ka] 28)).drew
      go_region
      all_goals
        go_wp2_with fail
        go_meet
        exact ⟨rfl, rfl, K5.out⟩
    case rest =>
      obtain ⟨rfl, rfl, hk⟩ := hcut
      have K5 := Lib.hid hk
      clear hk K4 y0 y1 y2 d0 d1 d2 zz zg
      obtain ⟨⟨y0, y1, y2⟩, _, _, _⟩ := row3 (K5.out.at 2 rfl)
      have zz := K5.out.lt 2 rfl
      go_upto_if 57 with fail
      go_cut [14] (fun v14 wx => v14 = .int .i64 t0 ∧ Kp ((V3.heap.size, .cells #[.int .i64 wo, .bool wd, .string wa] 28 (0, 0)) :: [(V2.heap.size, .cells #[.string a', .int .i64 bo, .string c', .int .i64 o, .int .i64 e1, .int .i64 e2, .int .i64 e3, .int .i64 e4, .int .i64 e5, .int .i64 p1, .int .i64 p2, .int .i64 p3, .int .i64 p4, .int .i64 p5] 50 (0, 0)), (V.heap.size, .cells #[.slice (some ⟨g, 0, none⟩) M xc, .slice ya N yc, .string (bs S)] 25 (0, 0)), (W.heap.size, .cells #[.slice ta TN tc, .slice sa SN sc, .slice na NN nc, .int .i32 be, .int .u8 fo, .int .u8 ba] 75 (0, 0))]) (tabR (.slice (some ⟨g, 0, none⟩) M xc) (.slice ya N yc) X) W wx)
      case first =>
        by_cases hN0 : N = 0
        · have hnil : X.trans = [] := List.length_eq_zero_iff.1 (HN.out.trans hN0)
          have h1 : t0 = 0 := by rw [← HT0.out]; unfold Tab.last; rw [hnil]; rfl
          have h2 : (⟨ko, kd, ka⟩ : Lc) = ⟨wo, wd, wa⟩ := by
            rw [← HW.out]
            unfold Tab.now Tab.last
            rw [hnil]
            show _ = X.types.getD 0 Lc.zero
            rw [List.getD_eq_getElem?_getD, HK0.out, Option.getD_some]
          simp only [Lc.mk.injEq] at h2
          obtain ⟨rfl, rfl, rfl⟩ := h2
          subst hN0
          clear hnil
          go_wp2_with fail
          go_meet
          exact ⟨by rw [h1], K5.out⟩
        · obtain ⟨rg, hrg, -, -, -, -⟩ := own_some (K5.out.row 0 rfl) (show 0 < X.trans.length by rw [HN.out]; omega)
          obtain rfl : ya = some ⟨rg, 0, none⟩ := hrg
          obtain ⟨N1, hN1⟩ : ∃ k, N - 1 = k := ⟨_, rfl⟩
          have hNb : N ≤ 1000000 := by have := HNb.out; omega
          have f1 : IntKind.i64.wrap ((N : Int) - 1) = (N1 : Int) := by rw [IntWalk.i64_in _ (by omega)]; omega
          have q1 : (N1 : Int) < (N : Int) := by omega
          have q0 : (0 : Int) < (N : Int) := by omega
          obtain ⟨⟨xt, xk⟩, hx⟩ : ∃ x, X.trans[N1]? = some x := ⟨_, List.getElem?_eq_getElem (by rw [HN.out]; omega)⟩
          have hrng := ty_rng HR.out hx
          dsimp only at hrng
          rw [HM.out] at hrng
          obtain ⟨r, rfl⟩ : ∃ r : Nat, xk = r := ⟨xk.toNat, by omega⟩
          obtain ⟨⟨zo, zd, za⟩, hy⟩ : ∃ x, X.types[r]? = some x := ⟨_, List.getElem?_eq_getElem (by rw [HM.out]; omega)⟩
          have hla : X.last = ⟨xt, r⟩ := by unfold Tab.last; rw [List.getLast?_eq_getElem?, HN.out, hN1, hx, Option.getD_some]
          have h1 : xt = t0 := by rw [← HT0.out, hla]
          have h2 : (⟨zo, zd, za⟩ : Lc) = ⟨wo, wd, wa⟩ := by
            rw [← HW.out]
            unfold Tab.now
            rw [hla, List.getD_eq_getElem?_getD]
            show _ = (X.types[(r : Int).toNat]?).getD Lc.zero
            rw [Int.toNat_natCast, hy, Option.getD_some]
          simp only [Lc.mk.injEq] at h2
          obtain ⟨rfl, rfl, rfl⟩ := h2
          obtain ⟨c0, c1⟩ := tr_cell (K5.out.row 0 rfl) hx
          obtain ⟨d0, d1, d2⟩ := lc_cell (K5.out.row 1 rfl) hy
          dsimp only at c0 c1 d0 d1 d2
          obtain ⟨⟨b0, b1, b2⟩, s0, s1, s2⟩ := row3 (K5.out.at 0 rfl)
          have zb := K5.out.lt 0 rfl
          have zg := ((K5.out.row 1 rfl).lt g rfl).2
          have zr := ((K5.out.row 0 rfl).lt rg rfl).2
          have j2 : (r : Int) < (M : Int) := by omega
          have KS := Lib.hid (((K5.out.set 0 rfl 0 (.int .i64 zo) rfl).set 0 rfl 1 (.bool zd) rfl).set 0 rfl 2 (.string za) rfl)
          clear hx hy hla hrng hN1
          go_upto_region 15 with fail
          go_region
          all_goals
            go_wp2_with fail
            go_meet
            exact ⟨by first | rfl | rw [h1], KS.out.drew⟩
      case rest =>
        obtain ⟨rfl, hk⟩ := hcut
        have K6 := Lib.hid hk
        clear hk K5 y0 y1 y2 zz
        obtain ⟨x0, x1, x2, x3, x4, x5, x6, x7, x8, x9, x10, x11, x12, x13⟩ := row14 (K6.out.at 1 rfl)
        go_wp2_with fail
        refine (CAt.out _ (HE.out.keep K6.out.below)).mono ?_
        rintro _ V6 ⟨rfl, hb⟩
        have K7 := Lib.hid ((K6.out.keep hb).alloc (.cells #[.int .i64 lo, .bool ld, .string la] 28))
        clear hb x0 x1 x2 x3 x4 x5 x6 x7 x8 x9 x10 x11 x12 x13 K6
        obtain ⟨⟨y0, y1, y2⟩, s0, s1, s2⟩ := row3 (K7.out.at 3 rfl)
        have zz := K7.out.lt 3 rfl
        have K8 := Lib.hid (K7.out.set 3 rfl 2 (.string (bs AL)) rfl)
        go_upto_region 21 with fail
        clear y0 y1 y2 s0 s1 s2 zz K7
        obtain ⟨⟨u0, u1, u2⟩, _, _, _⟩ := row3 (K8.out.at 0 rfl)
        obtain ⟨⟨v0, v1, v2⟩, _, _, _⟩ := row3 (K8.out.at 1 rfl)
        by_cases hq : (⟨lo, ld, la⟩ : Lc) = ⟨wo, wd, wa⟩
        · have hb : b = false := by
            cases b
            · rfl
            · exact absurd hq (HNe.out rfl)
          subst hb
          rw [if_pos hq] at C0
          simp only [Lc.mk.injEq] at hq
          obtain ⟨rfl, rfl, rfl⟩ := hq
          go_upto_region 23 with fail
          clear u0 u1 u2 v0 v1 v2
          obtain ⟨⟨y0, y1, y2⟩, _, _, _⟩ := row3 (K8.out.at 3 rfl)
          go_wp2_with fail
          refine (C0.out _ _ _ (tab_of (x := ⟨X.types, X.trans, AL⟩) rfl ⟨HF.out.lcs, HF.out.trs⟩ (K8.out.row 0 rfl) (K8.out.row 1 rfl) rfl rfl) (HE.out.keep K8.out.below)).mono ?_
          rintro _ V8 ⟨rfl, hb⟩
          have K9 := Lib.hid (K8.out.keep hb)
          clear hb y0 y1 y2
          go_wp2_with fail
          refine (CPa.out _ (HE.out.keep K9.out.below)).mono ?_
          rintro _ V9 ⟨rfl, hb⟩
          have K10 := Lib.hid ((K9.out.keep hb).alloc (.cells #[.string ga, .int .i64 gb, .string gc, .int .i64 gd, .int .i64 g1, .int .i64 g2, .int .i64 g3, .int .i64 g4, .int .i64 g5, .int .i64 r1, .int .i64 r2, .int .i64 r3, .int .i64 r4, .int .i64 r5] 50))
          clear hb K9
          obtain ⟨⟨y0, y1, y2⟩, s0, s1, s2⟩ := row3 (K10.out.at 4 rfl)
          have zz := K10.out.lt 4 rfl
          have K11 := Lib.hid (K10.out.set 4 rfl 2 (.string (⟨#[33]⟩ ++ bs AL)) rfl)
          go_upto_region 27 with fail
          clear y0 y1 y2 s0 s1 s2 zz K10
          obtain ⟨⟨y0, y1, y2⟩, _, _, _⟩ := row3 (K11.out.at 4 rfl)
          go_wp2_with fail
          refine (C9.out _ _ _ (by rw [← HCat.out]; exact tab_of (x := ⟨X.types, X.trans, 33 :: AL⟩) rfl ⟨HF.out.lcs, HF.out.trs⟩ (K11.out.row 0 rfl) (K11.out.row 1 rfl) rfl rfl) (HE.out.keep K11.out.below)).mono ?_
          rintro _ V12 ⟨rfl, hb⟩
          have K12 := Lib.hid (K11.out.keep hb)
          clear hb y0 y1 y2
          go_wp2_with fail
          refine (CW.out _ (HE.out.keep K12.out.below)).mono ?_
          rintro _ V13 ⟨rfl, hb⟩
          have K13 := Lib.hid (K12.out.keep hb)
          clear hb
          go_wp2_with fail
          go_ret
          exact ⟨rfl, K13.out.below⟩
        · rw [if_neg hq] at C0
          have hz : ∀ Z : World, (if lo = wo then (if ld = wd then (if la.toList = wa.toList then Result.ok (Next.value (Value.bool false)) Z else Result.ok (Next.value (Value.bool true)) Z) else Result.ok (Next.value (Value.bool true)) Z) else Result.ok (Next.value (Value.bool true)) Z) = Result.ok (Next.value (Value.bool true)) Z := by
            intro Z
            by_cases q1 : lo = wo
            · rw [if_pos q1]
              by_cases q2 : ld = wd
              · rw [if_pos q2]
                by_cases q3 : la.toList = wa.toList
                · refine absurd ?_ hq
                  rw [ByteArray.toList_eq, ByteArray.toList_eq] at q3
                  rw [q1, q2, ByteArray.ext (Array.ext' q3)]
                · rw [if_neg q3]
              · rw [if_neg q2]
            · rw [if_neg q1]
          go_upto_region 23 with fail
          clear u0 u1 u2 v0 v1 v2
          cases b
          · obtain ⟨⟨y0, y1, y2⟩, _, _, _⟩ := row3 (K8.out.at 3 rfl)
            go_wp2_with fail
            refine (C0.out _ _ _ (tab_of (x := ⟨X.types, X.trans, AL⟩) rfl ⟨HF.out.lcs, HF.out.trs⟩ (K8.out.row 0 rfl) (K8.out.row 1 rfl) rfl rfl) (HE.out.keep K8.out.below)).mono ?_
            rintro _ V8 ⟨rfl, hb⟩
            have K9 := Lib.hid (K8.out.keep hb)
            clear hb y0 y1 y2
            go_wp2_with fail
            refine (CPa.out _ (HE.out.keep K9.out.below)).mono ?_
            rintro _ V9 ⟨rfl, hb⟩
            have K10 := Lib.hid ((K9.out.keep hb).alloc (.cells #[.string ga, .int .i64 gb, .string gc, .int .i64 gd, .int .i64 g1, .int .i64 g2, .int .i64 g3, .int .i64 g4, .int .i64 g5, .int .i64 r1, .int .i64 r2, .int .i64 r3, .int .i64 r4, .int .i64 r5] 50))
            clear hb K9
            obtain ⟨⟨y0, y1, y2⟩, s0, s1, s2⟩ := row3 (K10.out.at 4 rfl)
            have zz := K10.out.lt 4 rfl
            have K11 := Lib.hid (K10.out.set 4 rfl 2 (.string (⟨#[33]⟩ ++ bs AL)) rfl)
            go_upto_region 27 with fail
            clear y0 y1 y2 s0 s1 s2 zz K10
            obtain ⟨⟨y0, y1, y2⟩, _, _, _⟩ := row3 (K11.out.at 4 rfl)
            go_wp2_with fail
            refine (C9.out _ _ _ (by rw [← HCat.out]; exact tab_of (x := ⟨X.types, X.trans, 33 :: AL⟩) rfl ⟨HF.out.lcs, HF.out.trs⟩ (K11.out.row 0 rfl) (K11.out.row 1 rfl) rfl rfl) (HE.out.keep K11.out.below)).mono ?_
            rintro _ V12 ⟨rfl, hb⟩
            have K12 := Lib.hid (K11.out.keep hb)
            clear hb y0 y1 y2
            go_wp2_with fail
            refine (CW.out _ (HE.out.keep K12.out.below)).mono ?_
            rintro _ V13 ⟨rfl, hb⟩
            have K13 := Lib.hid (K12.out.keep hb)
            clear hb
            go_wp2_with fail
            go_ret
            exact ⟨rfl, K13.out.below⟩
          · obtain ⟨⟨y0, y1, y2⟩, _, _, _⟩ := row3 (K8.out.at 3 rfl)
            go_wp2_with fail
            refine (C0.out _ _ _ (tab_of (x := ⟨X.types, X.trans, AL⟩) rfl ⟨HF.out.lcs, HF.out.trs⟩ (K8.out.row 0 rfl) (K8.out.row 1 rfl) rfl rfl) (HE.out.keep K8.out.below)).mono ?_
            rintro _ V8 ⟨rfl, hb⟩
            have K9 := Lib.hid (K8.out.keep hb)
            clear hb y0 y1 y2
            go_wp2_with fail
            refine (CPa.out _ (HE.out.keep K9.out.below)).mono ?_
            rintro _ V9 ⟨rfl, hb⟩
            have K10 := Lib.hid ((K9.out.keep hb).alloc (.cells #[.string ga, .int .i64 gb, .string gc, .int .i64 gd, .int .i64 g1, .int .i64 g2, .int .i64 g3, .int .i64 g4, .int .i64 g5, .int .i64 r1, .int .i64 r2, .int .i64 r3, .int .i64 r4, .int .i64 r5] 50))
            clear hb K9
            obtain ⟨⟨y0, y1, y2⟩, s0, s1, s2⟩ := row3 (K10.out.at 4 rfl)
            have zz := K10.out.lt 4 rfl
            have K11 := Lib.hid (K10.out.set 4 rfl 2 (.string (⟨#[33]⟩ ++ bs AL)) rfl)
            go_upto_region 27 with fail
            clear y0 y1 y2 s0 s1 s2 zz K10
            obtain ⟨⟨y0, y1, y2⟩, _, _, _⟩ := row3 (K11.out.at 4 rfl)
            go_wp2_with fail
            refine (C9.out _ _ _ (by rw [← HCat.out]; exact tab_of (x := ⟨X.types, X.trans, 33 :: AL⟩) rfl ⟨HF.out.lcs, HF.out.trs⟩ (K11.out.row 0 rfl) (K11.out.row 1 rfl) rfl rfl) (HE.out.keep K11.out.below)).mono ?_
            rintro _ V12 ⟨rfl, hb⟩
            have K12 := Lib.hid (K11.out.keep hb)
            clear hb y0 y1 y2
            go_wp2_with fail
            refine (CW.out _ (HE.out.keep K12.out.below)).mono ?_
            rintro _ V13 ⟨rfl, hb⟩
            have K13 := Lib.hid (K12.out.keep hb)
            clear hb
            go_wp2_with fail
            go_ret
            exact ⟨rfl, K13.out.below⟩
end Go.Proofs.YtlaplgaccjmbhaaGreatDoor.Px
namespace Go.Proofs.YtlaplgaccjmbhaaGreatDoor.Px
open Go.RowKit
open Civ Tb

theorem tableFooters_walk (x : D40) (tv sv nv : Value) {W : World} (h : D40V W tv sv nv x) (hin : D40.In x) (n : Int) (hn : (Lit.int .u8 n).wf = true) (m : Int) (hm : (Lit.int .u8 m).wf = true) (b : Bool) (hE : EnvAt W) (hx : ∃ m, W.cell? ⟨3, 0, none⟩ = some (.int .i64 m)) :
    Calls Tryz.prog 14 #[d40val x tv sv nv, .int .u8 n, .int .u8 m, .bool b] W fun e w' => e = .returned (.bool true) ∧ Below W.heap.size W w' := by
  obtain ⟨TY, ST, NX, be, fo, ba⟩ := x
  exact tableFooters_cells TY ST NX be fo ba tv sv nv n m b W h hin (wf_u8 hn).1 (wf_u8 hn).2 (wf_u8 hm).1 (wf_u8 hm).2 hE hx
end Go.Proofs.YtlaplgaccjmbhaaGreatDoor.Px
namespace Go.Proofs.YtlaplgaccjmbhaaGreatDoor
open Go.ChangeShapes Go.WideShapes Go.ChangeAt Go.RowKit
open Go.ChangeMaps (open_string)

namespace tableFooters
theorem own : ownKnob Tryz.prog.godebug = none := by kernel_rfl
set_option maxRecDepth 100000 in
theorem lifted (os : Os) (started : os.Started) (H : Type) (enc : TypeId × Value → H) :
    ReturnsInHanded {} Tryz.checked os 14 .any (fun w args => (Rows.tableFootersSpec.pre enc Tryz.prog Tryz.f14 Rows.tableFootersRow.domain false w args ∧ laidMetH Tryz.prog Rows.tableFootersRow.laid w) ∧ sizedMet enc Tryz.prog Tryz.f14 (OpenSpec.ofChange Rows.tableFootersSpec) false w args)
      (Rows.tableFootersSpec.post enc Tryz.prog Tryz.f14 false true false false) := by
  refine handed_both (X := fun w _ => laidMetH Tryz.prog Rows.tableFootersRow.laid w) (fun _ _ _ hh h => h.of_heap hh) own started (by kernel_rfl) Tryz.func14
    (ChangeSpec.witness_shaped (enc := enc) (C := Tryz.checked) (os := os) (X := fun w _ => laidMetH Tryz.prog Rows.tableFootersRow.laid w) false ((World.doorLaid Tryz.prog 4000 os).layVars Tryz.prog [("unicode/utf8.first", Rows.laid_unicode_utf8_first)]) #[.agg #[.slice none 0 0, .slice none 0 0, .slice none 0 0, .int .i32 0, .int .u8 0, .int .u8 0], .int .u8 0, .int .u8 0, .bool false] 8 (door_os os)
      (World.shaped_of_ZipB (by kernel_rfl) (by kernel_rfl)) (by kernel_rfl) (by kernel_rfl) (by kernel_rfl) (door_met os _)) ?_
  intro W base args ds gs before hval0 hW hSh _ hL
  have hMx := maxLen_cell hSh
  have hval : ∀ (j : Nat) t v, Tryz.f14.params[j]? = some t → args[j]? = some v → Value.okWide Tryz.prog W .any base t v := hval0
  have hEnv : Px.EnvAt W := Px.env_of hL
  have hW' := hW
  obtain ⟨p, q, hA0, hV, rfl, _, _⟩ := hW
  have hA : DataW.TrodAll enc Tryz.prog W 0 (fun _ => true) true Tryz.f14.params.toList args.toList ds p := hA0
  rw [Tryz.params14] at hA hval
  obtain ⟨v0, vs0, d0, ds0, p0, q0, hargs, rfl, rfl, h0, r0⟩ := trodAll_cons hA
  obtain ⟨v1, vs1, d1, ds1, p1, q1, rfl, rfl, rfl, h1, r1⟩ := trodAll_cons r0
  obtain ⟨v2, vs2, d2, ds2, p2, q2, rfl, rfl, rfl, h2, r2⟩ := trodAll_cons r1
  obtain ⟨v3, vs3, d3, ds3, p3, q3, rfl, rfl, rfl, h3, r3⟩ := trodAll_cons r2
  obtain ⟨rfl, rfl, rfl⟩ := trodAll_nil r3
  obtain rfl : args = #[v0, v1, v2, v3] := by cases args; simp_all
  obtain ⟨rfl, rfl⟩ := trodVars_none hV
  obtain ⟨x0, tv0, sv0, nv0, rfl, hx0, hd0⟩ := Px.open_d40 (hval 0 75 v0 rfl rfl) h0
  obtain ⟨n1, rfl, rfl, rfl, hn1⟩ := open_int Tryz.underlying5 (hval 1 5 v1 rfl rfl) h1
  obtain ⟨n2, rfl, rfl, rfl, hn2⟩ := open_int Tryz.underlying5 (hval 2 5 v2 rfl rfl) h2
  obtain ⟨b3, rfl, rfl, rfl⟩ := open_bool Tryz.underlying4 (hval 3 4 v3 rfl rfl) h3
  refine (Px.tableFooters_walk x0 tv0 sv0 nv0 hx0 hd0 n1 hn1 n2 hn2 b3 hEnv hMx).mono fun e W' ⟨he, hB⟩ => ?_
  subst he
  refine ⟨_, rfl, post_law (by kernel_rfl) ?_ rfl hW' rfl rfl Tryz.underlying4 hB⟩
  rw [Tryz.params14]
  intro t ht
  have hall : ([75, 5, 5, 4].all fun u => Tryz.prog.readableRec u && decide (u < Tryz.prog.types.size)) = true := by kernel_rfl
  have h1 := List.all_eq_true.1 hall t ht
  have h2 : Tryz.prog.readableRec t = true ∧ t < Tryz.prog.types.size := by simpa using h1
  exact h2
set_option maxHeartbeats 8000000 in
theorem facts : joinedFacts Tryz.pinned.checked.prog 14 Tryz.f14 Rows.tableFootersSpec Rows.tableFootersRow = true := by
  simp only [joinedFacts, Bool.and_eq_true]
  and_intros
  all_goals (as_aux_lemma => kernel_rfl)
theorem named : Tryz.pinned.checked.prog.funcNamed Rows.tableFootersRow.func = some 14 := by kernel_rfl
theorem said : Rows.TableFootersSaid :=
  OpenClaim.holds_of_wide 14 Tryz.f14 rfl rfl rfl rfl rfl rfl rfl ⟨rfl, rfl, rfl, rfl, rfl⟩ rfl rfl rfl rfl rfl named Tryz.func14 facts
    (of_decide_eq_true (by kernel_rfl)) (by unfold Func.isWrapper; first | (rw [if_pos (by decide +kernel)]; kernel_rfl) | (rw [if_neg (by decide +kernel)]; exact ⟨rfl, rfl⟩))
    (fun os started H enc _ => lifted os started H enc)
theorem plain (f : FuncId) (fn : Func) (hf : Tryz.pinned.checked.prog.funcNamed "analemma/analemmalaw40.TableFooters" = some f) (hfn : Tryz.pinned.checked.prog.funcs[f]? = some fn) :
    true = Tryz.pinned.checked.prog.looks [] ∧ ∀ (j : Nat) t, fn.params[j]? = some t → Tryz.pinned.checked.prog.wantsStandIn t = false := by
  obtain rfl : f = 14 := Option.some.inj ((show Tryz.prog.funcNamed "analemma/analemmalaw40.TableFooters" = some 14 by kernel_rfl).symm.trans hf) |>.symm
  obtain rfl : fn = Tryz.f14 := (Option.some.inj (Tryz.func14.symm.trans hfn)).symm
  refine ⟨by kernel_rfl, fun j t ht => ?_⟩
  rw [Tryz.params14] at ht
  have hm : t ∈ [75, 5, 5, 4] := by simpa using Array.mem_of_getElem? ht
  have hall : ([75, 5, 5, 4].all fun u => !Tryz.prog.wantsStandIn u) = true := by kernel_rfl
  exact (show Tryz.prog.wantsStandIn t = false by simpa using List.all_eq_true.1 hall t hm)
theorem card : Rows.TableFootersCardSaid :=
  Claim7.holds_tied_plain_at .later [] _ _ _ _ said (fun _ h => by cases h) (by kernel_rfl) (fun _ h => by cases h) tableFooters_row_tie rfl ⟨rfl, rfl⟩ (by kernel_rfl) rfl plain (by kernel_rfl)
end tableFooters
#print axioms tableFooters.card
end Go.Proofs.YtlaplgaccjmbhaaGreatDoor
