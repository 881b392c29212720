/- The texts of tables, plain: their lines; tables by numbers that differ have different texts. No program in sight. Tables by numbers (chapter 40), plain: what their types are; one thing of a right table that is not as it has to be. No program in sight. Right tables, plain: their changes one by one; they are the tables of their own changes. No program in sight. Slices that a call owns: a cell of one is stored; a list of integers is appended to one. Small laws for the walks of chapter 40. -/
import Derived.Test.YtlaplgaccjmbhaaGreatDoorSG22
import Derived.Test.YtlaplgaccjmbhaaGreatDoorSG15
import Derived.Test.YtlaplgaccjmbhaaGreatDoorSG20
import Derived.Test.YtlaplgaccjmbhaaGreatDoorSG21
import Derived.Test.YtlaplgaccjmbhaaGreatDoorSG26
import Derived.Test.YtlaplgaccjmbhaaGreatDoorSG23
namespace Go.Proofs.YtlaplgaccjmbhaaGreatDoor.Tb
open Px
theorem cut_at {c : UInt8} : ∀ {a b r s : List UInt8}, c ∉ a → c ∉ b → a ++ c :: r = b ++ c :: s → a = b ∧ r = s
  | [], [], r, s, _, _, h => by simpa using h
  | [], y :: b, r, s, _, hb, h => by
    simp only [List.nil_append, List.cons_append, List.cons.injEq] at h
    exact absurd (h.1 ▸ List.mem_cons_self ..) hb
  | x :: a, [], r, s, ha, _, h => by
    simp only [List.nil_append, List.cons_append, List.cons.injEq] at h
    exact absurd (h.1 ▸ List.mem_cons_self ..) ha
  | x :: a, y :: b, r, s, ha, hb, h => by
    simp only [List.cons_append, List.cons.injEq] at h
    obtain ⟨rfl, h2⟩ := h
    obtain ⟨e1, e2⟩ := cut_at (fun q => ha (List.mem_cons_of_mem _ q)) (fun q => hb (List.mem_cons_of_mem _ q)) h2
    exact ⟨by rw [e1], e2⟩
/-- the number that digits say -/
def valN (l : List UInt8) : Nat := l.foldl (fun x c => 10 * x + (c.toNat - 48)) 0
theorem valN_snoc (l : List UInt8) (c : UInt8) : valN (l ++ [c]) = 10 * valN l + (c.toNat - 48) := by simp [valN]
theorem dig_toNat {n : Nat} (h : n < 10) : (UInt8.ofNat (48 + n)).toNat = 48 + n := UInt8.toNat_ofNat_of_lt' (by show 48 + n < 256; omega)
theorem digits_val (u : Nat) : valN (Lib.decDigits u) = u := by
  induction u using Nat.strongRecOn with
  | _ u ih =>
    unfold Lib.decDigits
    by_cases h : u < 10
    · rw [dif_pos h]
      show 10 * 0 + ((UInt8.ofNat (48 + u)).toNat - 48) = u
      rw [dig_toNat h]
      omega
    · rw [dif_neg h, valN_snoc, ih (u / 10) (by omega), dig_toNat (by omega)]
      omega
theorem digits_mem (u : Nat) : ∀ c ∈ Lib.decDigits u, 48 ≤ c.toNat ∧ c.toNat ≤ 57 := by
  induction u using Nat.strongRecOn with
  | _ u ih =>
    unfold Lib.decDigits
    by_cases h : u < 10
    · rw [dif_pos h]
      intro c hc
      rw [List.mem_singleton.1 hc, dig_toNat h]
      omega
    · rw [dif_neg h]
      intro c hc
      rcases List.mem_append.1 hc with hc | hc
      · exact ih (u / 10) (by omega) c hc
      · rw [List.mem_singleton.1 hc, dig_toNat (by omega)]
        omega
theorem itoa_mem (n : Int) : ∀ c ∈ Lib.itoa n, c.toNat = 45 ∨ 48 ≤ c.toNat ∧ c.toNat ≤ 57 := by
  intro c hc
  unfold Lib.itoa at hc
  by_cases h : n < 0
  · rw [if_pos h] at hc
    rcases List.mem_cons.1 hc with rfl | hc
    · exact .inl rfl
    · exact .inr (digits_mem _ c hc)
  · rw [if_neg h] at hc
    exact .inr (digits_mem _ c hc)
theorem itoa_not (n : Int) {k : Nat} (hk : k < 45) : UInt8.ofNat k ∉ Lib.itoa n := fun h => by
  have := itoa_mem n _ h
  rw [UInt8.toNat_ofNat_of_lt' (by show k < 256; omega)] at this
  omega
theorem itoa_inj {m n : Int} (h : Lib.itoa m = Lib.itoa n) : m = n := by
  have hno : ∀ (u v : Nat), 45 :: Lib.decDigits u ≠ Lib.decDigits v := fun u v e => by
    have := digits_mem v 45 (e ▸ List.mem_cons_self ..)
    have e45 : (45 : UInt8).toNat = 45 := rfl
    omega
  unfold Lib.itoa at h
  by_cases h1 : m < 0
  · rw [if_pos h1] at h
    by_cases h2 : n < 0
    · rw [if_pos h2] at h
      have := congrArg valN (List.cons.inj h).2
      rw [digits_val, digits_val] at this
      omega
    · rw [if_neg h2] at h
      exact absurd h (hno _ _)
  · rw [if_neg h1] at h
    by_cases h2 : n < 0
    · rw [if_pos h2] at h
      exact absurd h.symm (hno _ _)
    · rw [if_neg h2] at h
      have := congrArg valN h
      rw [digits_val, digits_val] at this
      omega
/-- the differences from UTC of tables by numbers, as text -/
def offs97 : List (List UInt8) := (List.range 97).map (fun (k : Nat) => Off.printO (900 * ((k : Int) - 48)))
theorem offs_nodup : decide offs97.Nodup = true := by kernel_rfl
theorem offs_plain : offs97.all (fun l => !l.contains 32 && !l.contains 10) = true := by kernel_rfl
/-- what the types of tables by numbers are -/
structure FineL (l : Lc) : Prop where
  off : ∃ k : Nat, k < 97 ∧ l.off = 900 * ((k : Int) - 48)
  abbr : nameOk l.abbr.data.toList = true
theorem off_not {o : Int} (h : ∃ k : Nat, k < 97 ∧ o = 900 * ((k : Int) - 48)) : (32 : UInt8) ∉ Off.printO o ∧ (10 : UInt8) ∉ Off.printO o := by
  obtain ⟨k, hk, rfl⟩ := h
  have := List.all_eq_true.1 offs_plain _ (List.mem_map.2 ⟨k, List.mem_range.2 hk, rfl⟩)
  simpa using this
theorem off_inj {o p : Int} (ho : ∃ k : Nat, k < 97 ∧ o = 900 * ((k : Int) - 48)) (hp : ∃ k : Nat, k < 97 ∧ p = 900 * ((k : Int) - 48)) (h : Off.printO o = Off.printO p) : o = p := by
  obtain ⟨k, hk, rfl⟩ := ho
  obtain ⟨j, hj, rfl⟩ := hp
  have hn := of_decide_eq_true offs_nodup
  have e : offs97[k]'(by simp [offs97, hk]) = offs97[j]'(by simp [offs97, hj]) := by
    unfold offs97
    rw [List.getElem_map, List.getElem_map, List.getElem_range, List.getElem_range]
    exact h
  rw [(List.getElem_inj hn).1 e]
theorem name_not {l : List UInt8} (h : nameOk l = true) : (10 : UInt8) ∉ l ∧ (32 : UInt8) ∉ l := by
  unfold nameOk at h
  simp only [Bool.and_eq_true, List.all_eq_true] at h
  have e1 : inB 10 = false := by kernel_rfl
  have e2 : inB 32 = false := by kernel_rfl
  exact ⟨fun hm => Bool.noConfusion (e1.symm.trans (h.2 _ hm)), fun hm => Bool.noConfusion (e2.symm.trans (h.2 _ hm))⟩
/-- the line of a type without its end -/
def typeB (i : Nat) (l : Lc) : List UInt8 := [116, 121, 112, 101, 32] ++ Lib.itoa i ++ [32] ++ Off.printO l.off ++ (if l.dst then [32, 100, 115, 116, 32] else [32, 115, 116, 100, 32]) ++ l.abbr.data.toList
def transB (t : Tr) : List UInt8 := [97, 116, 32] ++ Lib.itoa t.at' ++ [32] ++ Lib.itoa t.ty
def footB (f : List UInt8) : List UInt8 := [102, 111, 111, 116, 101, 114, 32] ++ f
theorem typeB_not {i : Nat} {l : Lc} (h : FineL l) : (10 : UInt8) ∉ typeB i l := by
  intro hm
  unfold typeB at hm
  simp only [List.mem_append] at hm
  rcases hm with ((((hm | hm) | hm) | hm) | hm) | hm
  · revert hm; decide
  · exact itoa_not i (k := 10) (by omega) hm
  · revert hm; decide
  · exact (off_not h.off).2 hm
  · revert hm; cases l.dst <;> decide
  · exact (name_not h.abbr).1 hm
theorem transB_not (t : Tr) : (10 : UInt8) ∉ transB t := by
  intro hm
  unfold transB at hm
  simp only [List.mem_append] at hm
  rcases hm with ((hm | hm) | hm) | hm
  · revert hm; decide
  · exact itoa_not _ (k := 10) (by omega) hm
  · revert hm; decide
  · exact itoa_not _ (k := 10) (by omega) hm
theorem footB_not {f : List UInt8} (h : (10 : UInt8) ∉ f) : (10 : UInt8) ∉ footB f := by
  intro hm
  unfold footB at hm
  rcases List.mem_append.1 hm with hm | hm
  · revert hm; decide
  · exact h hm
theorem typeB_line (i : Nat) (l : Lc) : lineT (typeW i l) = typeB i l ++ [10] := type_line i l
theorem transB_line (t : Tr) : lineT (transW t) = transB t ++ [10] := trans_line t
theorem footB_line (f : List UInt8) : lineT (footW f) = footB f ++ [10] := foot_line f
theorem typeB_inj {i : Nat} {l m : Lc} (hl : FineL l) (hm : FineL m) (h : typeB i l = typeB i m) : l = m := by
  unfold typeB at h
  simp only [List.append_assoc, List.append_cancel_left_eq] at h
  obtain ⟨lo, ld, la⟩ := l
  obtain ⟨mo, md, ma⟩ := m
  dsimp only at h
  have e1 : ∀ (d : Bool) (a : List UInt8), (if d = true then [32, 100, 115, 116, 32] else [32, 115, 116, 100, 32]) ++ a = (32 : UInt8) :: ((if d = true then [100, 115, 116, 32] else [115, 116, 100, 32]) ++ a) := fun d a => by cases d <;> rfl
  rw [e1, e1] at h
  obtain ⟨h1, h2⟩ := cut_at (off_not hl.off).1 (off_not hm.off).1 h
  have h3 := off_inj hl.off hm.off h1
  dsimp only at h3
  subst h3
  cases ld <;> cases md <;> simp at h2
  · rw [ByteArray.ext h2]
  · rw [ByteArray.ext h2]
theorem transB_inj {t u : Tr} (h : transB t = transB u) : t = u := by
  unfold transB at h
  simp only [List.append_assoc, List.append_cancel_left_eq] at h
  obtain ⟨h1, h2⟩ := cut_at (itoa_not _ (k := 32) (by omega)) (itoa_not _ (k := 32) (by omega)) (by simpa using h)
  obtain ⟨a, b⟩ := t
  obtain ⟨c, d⟩ := u
  dsimp only at h1 h2
  rw [itoa_inj h1, itoa_inj h2]
theorem foot_only {f g : List UInt8} (hf : (10 : UInt8) ∉ f) (hg : (10 : UInt8) ∉ g) (h : lineT (footW f) = lineT (footW g)) : f = g := by
  rw [footB_line, footB_line] at h
  obtain ⟨h1, _⟩ := cut_at (footB_not hf) (footB_not hg) h
  unfold footB at h1
  exact List.append_cancel_left h1
theorem trans_only {f g : List UInt8} (hf : (10 : UInt8) ∉ f) (hg : (10 : UInt8) ∉ g) : ∀ (a b : List Tr), transT a ++ lineT (footW f) = transT b ++ lineT (footW g) → a = b ∧ f = g
  | [], [], h => ⟨rfl, foot_only hf hg h⟩
  | [], y :: b, h => by
    have e : transT (y :: b) = lineT (transW y) ++ transT b := rfl
    rw [e, transB_line, footB_line] at h
    unfold transB footB transT at h
    simp at h
  | x :: a, [], h => by
    have e : transT (x :: a) = lineT (transW x) ++ transT a := rfl
    have e0 : transT [] = [] := rfl
    rw [e, e0, transB_line, footB_line g] at h
    unfold transB footB at h
    simp at h
  | x :: a, y :: b, h => by
    have e : ∀ (z : Tr) (c : List Tr), transT (z :: c) = lineT (transW z) ++ transT c := fun _ _ => rfl
    rw [e, e, transB_line, transB_line, List.append_assoc, List.append_assoc, List.append_assoc, List.append_assoc] at h
    obtain ⟨h1, h2⟩ := cut_at (transB_not x) (transB_not y) h
    obtain ⟨h3, h4⟩ := trans_only hf hg a b h2
    exact ⟨by rw [transB_inj h1, h3], h4⟩
theorem trans_head (a : List Tr) (f : List UInt8) : ∃ c r, transT a ++ lineT (footW f) = c :: r ∧ c ≠ 116 := by
  cases a with
  | nil => exact ⟨102, _, rfl, by decide⟩
  | cons x a =>
    refine ⟨97, [116, 32] ++ Lib.itoa x.at' ++ [32] ++ Lib.itoa x.ty ++ [10] ++ transT a ++ lineT (footW f), ?_, by decide⟩
    show lineT (transW x) ++ transT a ++ _ = _
    rw [transB_line]
    simp [transB]
theorem types_only {f g : List UInt8} (hf : (10 : UInt8) ∉ f) (hg : (10 : UInt8) ∉ g) (c d : List Tr) : ∀ (a b : List Lc) (i : Nat), (∀ l ∈ a, FineL l) → (∀ l ∈ b, FineL l) → typesT i a ++ (transT c ++ lineT (footW f)) = typesT i b ++ (transT d ++ lineT (footW g)) → a = b ∧ c = d ∧ f = g
  | [], [], _, _, _, h => ⟨rfl, trans_only hf hg c d h⟩
  | [], y :: b, i, _, _, h => by
    obtain ⟨x, r, e, hx⟩ := trans_head c f
    rw [e] at h
    unfold typesT at h
    rw [typeB_line] at h
    unfold typeB typesT at h
    simp only [List.nil_append, List.cons_append, List.cons.injEq] at h
    exact absurd h.1 hx
  | y :: b, [], i, _, _, h => by
    obtain ⟨x, r, e, hx⟩ := trans_head d g
    rw [e] at h
    unfold typesT at h
    rw [typeB_line] at h
    unfold typeB typesT at h
    simp only [List.nil_append, List.cons_append, List.cons.injEq] at h
    exact absurd h.1.symm hx
  | x :: a, y :: b, i, ha, hb, h => by
    unfold typesT at h
    rw [typeB_line, typeB_line, List.append_assoc, List.append_assoc, List.append_assoc, List.append_assoc] at h
    obtain ⟨h1, h2⟩ := cut_at (typeB_not (ha x (List.mem_cons_self ..))) (typeB_not (hb y (List.mem_cons_self ..))) h
    obtain ⟨h3, h4, h5⟩ := types_only hf hg c d a b (i + 1) (fun l hl => ha l (List.mem_cons_of_mem _ hl)) (fun l hl => hb l (List.mem_cons_of_mem _ hl)) h2
    exact ⟨by rw [typeB_inj (ha x (List.mem_cons_self ..)) (hb y (List.mem_cons_self ..)) h1, h3], h4, h5⟩
/-- what the tables by numbers are -/
structure FineT (x : Tab) : Prop where
  types : ∀ l ∈ x.types, FineL l
  foot : (10 : UInt8) ∉ x.foot
theorem text_inj {x y : Tab} (hx : FineT x) (hy : FineT y) (h : textL x = textL y) : x = y := by
  unfold textL at h
  rw [List.append_assoc, List.append_assoc] at h
  obtain ⟨h1, h2, h3⟩ := types_only hx.foot hy.foot x.trans y.trans x.types y.types 0 hx.types hy.types h
  obtain ⟨a, b, c⟩ := x
  obtain ⟨d, e, f⟩ := y
  dsimp only at h1 h2 h3
  rw [h1, h2, h3]
/-- the lines of a text, without their ends -/
def bodiesG : Nat → List Lc → List (List UInt8)
  | _, [] => []
  | i, l :: r => typeB i l :: bodiesG (i + 1) r
def bodies (x : Tab) : List (List UInt8) := bodiesG 0 x.types ++ x.trans.map transB ++ [footB x.foot]
theorem bodiesG_len : ∀ (r : List Lc) (i : Nat), (bodiesG i r).length = r.length
  | [], _ => rfl
  | _ :: r, i => by unfold bodiesG; rw [List.length_cons, List.length_cons, bodiesG_len r]
theorem bodiesG_at : ∀ (r : List Lc) (i k : Nat) (l : List UInt8), (bodiesG i r)[k]? = some l → ∃ s, l = [116, 121, 112, 101, 32] ++ s
  | [], _, _, _, h => by simp [bodiesG] at h
  | x :: r, i, 0, l, h => by
    simp only [bodiesG, List.getElem?_cons_zero, Option.some.injEq] at h
    subst h
    unfold typeB
    simp only [List.append_assoc]
    exact ⟨_, rfl⟩
  | x :: r, i, k + 1, l, h => by
    simp only [bodiesG, List.getElem?_cons_succ] at h
    exact bodiesG_at r (i + 1) k l h
theorem bodiesG_text : ∀ (r : List Lc) (i : Nat), typesT i r = (bodiesG i r).flatMap (fun l => l ++ [10])
  | [], _ => rfl
  | l :: r, i => by unfold typesT bodiesG; rw [typeB_line, bodiesG_text r, List.flatMap_cons]
theorem text_bodies (x : Tab) : textL x = (bodies x).flatMap (fun l => l ++ [10]) := by
  unfold textL bodies
  rw [bodiesG_text, List.flatMap_append, List.flatMap_append, footB_line]
  have : transT x.trans = (x.trans.map transB).flatMap (fun l => l ++ [10]) := by
    unfold transT
    rw [List.flatMap_map]
    congr 1
    funext t
    exact transB_line t
  rw [this]
  simp
theorem bodiesG_not : ∀ (r : List Lc) (i : Nat), (∀ l ∈ r, FineL l) → ∀ b ∈ bodiesG i r, (10 : UInt8) ∉ b
  | [], _, _, b, hb => by simp [bodiesG] at hb
  | l :: r, i, h, b, hb => by
    unfold bodiesG at hb
    rcases List.mem_cons.1 hb with rfl | hb
    · exact typeB_not (h l (List.mem_cons_self ..))
    · exact bodiesG_not r (i + 1) (fun x hx => h x (List.mem_cons_of_mem _ hx)) b hb
theorem bodies_not {x : Tab} (h : FineT x) : ∀ b ∈ bodies x, (10 : UInt8) ∉ b := by
  intro b hb
  unfold bodies at hb
  rcases List.mem_append.1 hb with hb | hb
  · rcases List.mem_append.1 hb with hb | hb
    · exact bodiesG_not _ _ h.types b hb
    · obtain ⟨t, _, rfl⟩ := List.mem_map.1 hb
      exact transB_not t
  · rw [List.mem_singleton.1 hb]
    exact footB_not h.foot
end Go.Proofs.YtlaplgaccjmbhaaGreatDoor.Tb
namespace Go.Proofs.YtlaplgaccjmbhaaGreatDoor.Tb
open Px
theorem lcE_name {l : Lc} (h : lcE l = 0) : -54000 ≤ l.off ∧ l.off ≤ 54000 ∧ nameOk l.abbr.data.toList = true := by
  unfold lcE at h
  by_cases h1 : l.off < -54000 ∨ 54000 < l.off
  · rw [if_pos h1] at h; cases h
  rw [if_neg h1] at h
  by_cases h2 : nameOk l.abbr.data.toList = false
  · rw [if_pos h2] at h; cases h
  · exact ⟨by omega, by omega, by simpa using h2⟩
theorem posix_900 : (List.range 4).all (fun k => (List.range 25).all (fun c => decide ((posixK k c).stdOff % 900 = 0) && decide ((posixK k c).dstOff % 900 = 0) && !(printL (posixK k c)).contains 10)) = true := by kernel_rfl
theorem posix_offs (n base : Int) : (posixN n base).stdOff % 900 = 0 ∧ (posixN n base).dstOff % 900 = 0 ∧ (10 : UInt8) ∉ printL (posixN n base) := by
  have h := List.all_eq_true.1 posix_900 (n % 4).toNat (List.mem_range.2 (by omega))
  have h2 := List.all_eq_true.1 h (base % 25).toNat (List.mem_range.2 (by omega))
  simp only [Bool.and_eq_true, decide_eq_true_eq, Bool.not_eq_true', List.contains_eq_mem, decide_eq_false_iff_not] at h2
  exact ⟨h2.1.1, h2.1.2, h2.2⟩
/-- the types of the table of a draft -/
theorem made_sub (d : D40) (h : d.In) : (∀ l ∈ d.made.types, l ∈ d.tys ∨ ∃ t, -36028797018963968 ≤ t ∧ t ≤ 36028797018963968 ∧ l = (atL d.pos t).1) ∧ d.made.types.length ≤ 11 := by
  by_cases hs : d.steps = []
  · have ef : d.first = (atL d.pos 0).1 := by unfold D40.first; rw [if_pos hs]
    have ec : d.changes = [] := by unfold D40.changes; rw [if_pos hs]
    have em : d.made = ⟨[(atL d.pos 0).1], [], printL d.pos⟩ := by unfold D40.made; rw [ec, ef]; rfl
    rw [em]
    refine ⟨fun l hl => .inr ⟨0, by omega, by omega, ?_⟩, by simp⟩
    exact List.mem_singleton.1 hl
  · have ef : d.first = locN 0 := by unfold D40.first; rw [if_neg hs]
    have hb := goT_bd (d.steps.take 40) d.begin_ (fun x hx => h.st x (List.mem_of_mem_take hx))
    have hl40 : (d.steps.take 40).length ≤ 40 := by rw [List.length_take]; omega
    have hbe := h.be
    have hE : d.end_ = goT d.begin_ (d.steps.take 40) := rfl
    have ec : d.changes = goD d.tys d.next d.begin_ 0 (d.steps.take 40) ++ [(d.end_ + 1, (atL d.pos (d.end_ + 1)).1)] := by unfold D40.changes; rw [if_neg hs]
    have hI : Incr none d.changes := by
      rw [ec, hE]
      exact goD_incr d.tys d.next _ (d.steps.take 40) d.begin_ 0 none (fun x hx => h.st x (List.mem_of_mem_take hx)) hbe.1 (by omega) (fun z hz => by cases hz)
    obtain ⟨ys, _, ok⟩ := of_ok d.changes [locN 0] [] (locN 0) none (by simp) (by simp) hI
    have em : d.made.types = (ofGo [locN 0] [] (locN 0) d.changes).1 := by unfold D40.made; rw [ef]
    have key : ∀ l ∈ d.made.types, l ∈ d.tys ∨ l = (atL d.pos (d.end_ + 1)).1 := by
      intro l hl
      rw [em] at hl
      rcases ok.sub l hl with hm | ⟨t, ht⟩
      · exact .inl (by rw [List.mem_singleton.1 hm]; exact List.mem_cons_self ..)
      · rw [ec] at ht
        rcases List.mem_append.1 ht with ht | ht
        · exact .inl (goD_mem (tys_pos d) d.next _ _ _ _ ht)
        · exact .inr (congrArg Prod.snd (List.mem_singleton.1 ht))
    refine ⟨fun l hl => (key l hl).imp id (fun e => ⟨d.end_ + 1, by omega, by omega, e⟩), ?_⟩
    have := nodup_le d.made.types ((atL d.pos (d.end_ + 1)).1 :: d.tys) (by rw [em]; exact ok.nodup) (fun x hx => by
      rcases key x hx with hx | hx
      · exact List.mem_cons_of_mem _ hx
      · rw [hx]; exact List.mem_cons_self ..)
    have := tys_len d
    rw [List.length_cons] at *
    omega
theorem off_900 {o : Int} (h0 : o % 900 = 0) (h1 : -43200 ≤ o) (h2 : o ≤ 43200) : ∃ k : Nat, k < 97 ∧ o = 900 * ((k : Int) - 48) := ⟨(o / 900 + 48).toNat, by omega, by omega⟩
theorem made_fine (d : D40) (h : d.In) : FineT d.made := by
  have hp := goodP_iff (posix_good d.foot d.base)
  obtain ⟨o1, o2, o3⟩ := posix_offs d.foot d.base
  have hr := (typesE_zero (check_zero (made_right d h)).1).2.2.2
  refine ⟨fun l hl => ⟨?_, (lcE_name (hr l hl)).2.2⟩, o3⟩
  rcases (made_sub d h).1 l hl with hm | ⟨t, t0, t1, rfl⟩
  · obtain ⟨n, rfl⟩ := tys_good d l hm
    have := (locN_good n).2.2.2
    refine off_900 ?_ this.1 this.2
    unfold locN
    dsimp only
    omega
  · obtain ⟨_, b0, b1, _, _⟩ := atL_good hp t0 t1
    refine off_900 ?_ (by unfold D40.pos; omega) (by unfold D40.pos; omega)
    unfold atL D40.pos
    rw [if_neg (by rw [hp.ok]; decide), if_neg (by omega)]
    split
    · exact o1
    · split
      · exact o2
      · exact o1
theorem made_seven (d : D40) (h : d.In) : ∀ l ∈ d.made.types, l.abbr.size ≤ 7 := by
  have hp := goodP_iff (posix_good d.foot d.base)
  intro l hl
  rcases (made_sub d h).1 l hl with hm | ⟨t, t0, t1, rfl⟩
  · obtain ⟨n, rfl⟩ := tys_good d l hm
    exact (locN_good n).2.1
  · have := (atL_good hp t0 t1).2.2.2.2
    unfold D40.pos
    omega
theorem ofGo_pre : ∀ (c : List (Int × Lc)) (ts : List Lc) (xs : List Tr) (b : Lc), ∃ us ys, ofGo ts xs b c = (ts ++ us, xs ++ ys)
  | [], ts, xs, b => ⟨[], [], by simp [ofGo]⟩
  | (t, l) :: r, ts, xs, b => by
    unfold ofGo
    by_cases e1 : l = b
    · rw [if_pos e1]
      exact ofGo_pre r ts xs b
    · rw [if_neg e1]
      by_cases e2 : l ∈ ts
      · rw [if_pos e2]
        obtain ⟨us, ys, e⟩ := ofGo_pre r ts (xs ++ [⟨t, (ts.idxOf l : Nat)⟩]) l
        exact ⟨us, ⟨t, (ts.idxOf l : Nat)⟩ :: ys, by rw [e]; simp⟩
      · rw [if_neg e2]
        obtain ⟨us, ys, e⟩ := ofGo_pre r (ts ++ [l]) (xs ++ [⟨t, (ts.length : Nat)⟩]) l
        exact ⟨l :: us, ⟨t, (ts.length : Nat)⟩ :: ys, by rw [e]; simp⟩
theorem of_new {ts : List Lc} {xs : List Tr} {b l : Lc} {t : Int} {r : List (Int × Lc)} (h1 : l ≠ b) (h2 : l ∉ ts) : ofGo ts xs b ((t, l) :: r) = ofGo (ts ++ [l]) (xs ++ [⟨t, (ts.length : Nat)⟩]) l r := by
  rw [ofGo, if_neg h1, if_neg h2]
theorem of_old {ts : List Lc} {xs : List Tr} {b l : Lc} {t : Int} {r : List (Int × Lc)} (h1 : l ≠ b) (h2 : l ∈ ts) : ofGo ts xs b ((t, l) :: r) = ofGo ts (xs ++ [⟨t, (ts.idxOf l : Nat)⟩]) l r := by
  rw [ofGo, if_neg h1, if_pos h2]
/-- a draft with three changes in front -/
def D40.more (d : D40) : D40 := ⟨200 :: 400 :: d.types, 5 :: 5 :: 5 :: d.steps, [1, 2, 1], d.begin_, d.foot, d.base⟩
theorem more_in {d : D40} (h : d.In) : d.more.In := by
  refine ⟨fun x hx => ?_, fun x hx => ?_, fun x hx => ?_, h.be, h.fo, h.ba⟩
  · have hx' : x ∈ 200 :: 400 :: d.types := hx
    simp only [List.mem_cons] at hx'
    rcases hx' with rfl | rfl | hx'
    · omega
    · omega
    · exact h.ty x hx'
  · have hx' : x ∈ 5 :: 5 :: 5 :: d.steps := hx
    simp only [List.mem_cons] at hx'
    rcases hx' with rfl | rfl | rfl | hx'
    · omega
    · omega
    · omega
    · exact h.st x hx'
  · have hx' : x ∈ [(1 : Int), 2, 1] := hx
    simp only [List.mem_cons, List.not_mem_nil, or_false] at hx'
    omega
theorem more_shape (d : D40) : ∃ l0 l1 l2 r t0 t1 t2 s, d.more.made.types = l0 :: l1 :: l2 :: r ∧ d.more.made.trans = ⟨t0, 1⟩ :: ⟨t1, 2⟩ :: ⟨t2, 1⟩ :: s := by
  have hs : d.more.steps ≠ [] := by unfold D40.more; simp
  have ef : d.more.first = locN 0 := by unfold D40.first; rw [if_neg hs]
  have et : d.more.tys = locN 0 :: locN 200 :: locN 400 :: (d.types.take 7).map locN := by
    unfold D40.tys D40.more
    simp
  have hn : ∀ a b : Int, (locN a).off ≠ (locN b).off → locN a ≠ locN b := fun a b h e => h (by rw [e])
  have n1 : locN 200 ≠ locN 0 := hn _ _ (by decide)
  have n2 : locN 400 ≠ locN 0 := hn _ _ (by decide)
  have n3 : locN 400 ≠ locN 200 := hn _ _ (by decide)
  have n4 : locN 200 ≠ locN 400 := hn _ _ (by decide)
  obtain ⟨n, hn⟩ : ∃ n, d.more.tys.length = n + 3 := ⟨((d.types.take 7).map locN).length, by rw [et]; simp⟩
  have m1 : 1 % (n + 3) = 1 := Nat.mod_eq_of_lt (by omega)
  have m2 : 2 % (n + 3) = 2 := Nat.mod_eq_of_lt (by omega)
  have ec : ∃ t0 t1 t2 c, d.more.changes = (t0, locN 200) :: (t1, locN 400) :: (t2, locN 200) :: c := by
    unfold D40.changes
    rw [if_neg hs]
    have e40 : d.more.steps.take 40 = 5 :: 5 :: 5 :: d.steps.take 37 := by unfold D40.more; simp
    rw [e40]
    have k0 : nxK d.more.next 0 = 1 := rfl
    have k1 : nxK d.more.next (0 + 1) = 2 := rfl
    have k2 : nxK d.more.next (0 + 1 + 1) = 1 := rfl
    simp only [goD, k0, k1, k2, hn, m1, m2]
    rw [et]
    exact ⟨_, _, _, _, rfl⟩
  obtain ⟨t0, t1, t2, c, ec⟩ := ec
  have eg : ofGo [locN 0] [] (locN 0) d.more.changes = ofGo [locN 0, locN 200, locN 400] [⟨t0, 1⟩, ⟨t1, 2⟩, ⟨t2, 1⟩] (locN 200) c := by
    have hi : [locN 0, locN 200, locN 400].idxOf (locN 200) = 1 := by
      have hb : (locN 0 == locN 200) = false := beq_eq_false_iff_ne.2 n1.symm
      simp [List.idxOf_cons, hb]
    rw [ec, of_new n1 (by simpa using n1)]
    show ofGo [locN 0, locN 200] [⟨t0, 1⟩] (locN 200) ((t1, locN 400) :: (t2, locN 200) :: c) = _
    rw [of_new n3 (by simp [n2, n3])]
    show ofGo [locN 0, locN 200, locN 400] [⟨t0, 1⟩, ⟨t1, 2⟩] (locN 400) ((t2, locN 200) :: c) = _
    rw [of_old n4 (by simp), hi]
    rfl
  obtain ⟨us, ys, e⟩ := ofGo_pre c [locN 0, locN 200, locN 400] [⟨t0, 1⟩, ⟨t1, 2⟩, ⟨t2, 1⟩] (locN 200)
  refine ⟨locN 0, locN 200, locN 400, us, t0, t1, t2, ys, ?_, ?_⟩
  · unfold D40.made
    rw [ef]
    show (ofGo [locN 0] [] (locN 0) d.more.changes).1 = _
    rw [eg, e]
    rfl
  · unfold D40.made
    rw [ef]
    show (ofGo [locN 0] [] (locN 0) d.more.changes).2 = _
    rw [eg, e]
    rfl
/-- a first type that is wrong -/
theorem typesGo_bad {E : Int} {l : Lc} (hl : lcE l = E) (hE : E ≠ 0) (b : List Lc) : ∀ (a pre : List Lc) (n : Nat), (∀ x ∈ a, lcE x = 0) → (pre ++ a).Nodup → typesGo pre n (a ++ l :: b) = E
  | [], pre, n, _, _ => by
    rw [List.nil_append]
    unfold typesGo
    rw [if_pos (by rw [hl]; exact hE), hl]
  | x :: a, pre, n, h, hn => by
    have hx : x ∉ pre := by
      rw [List.nodup_append] at hn
      intro hm
      exact hn.2.2 x hm x (List.mem_cons_self ..) rfl
    rw [List.cons_append]
    unfold typesGo
    rw [if_neg (by rw [h x (List.mem_cons_self ..)]; decide), if_neg hx]
    exact typesGo_bad hl hE b a _ _ (fun y hy => h y (List.mem_cons_of_mem _ hy)) (by rw [List.append_assoc]; exact hn)
theorem typesGo_twice {l : Lc} (hl : lcE l = 0) : ∀ (a pre : List Lc) (n : Nat), (∀ x ∈ a, lcE x = 0) → (pre ++ a).Nodup → l ∈ pre ++ a → typesGo pre n (a ++ [l]) = 10
  | [], pre, n, _, _, hm => by
    rw [List.nil_append]
    unfold typesGo
    rw [if_neg (by rw [hl]; decide), if_pos (by simpa using hm)]
  | x :: a, pre, n, h, hn, hm => by
    have hx : x ∉ pre := by
      rw [List.nodup_append] at hn
      intro hm
      exact hn.2.2 x hm x (List.mem_cons_self ..) rfl
    rw [List.cons_append]
    unfold typesGo
    rw [if_neg (by rw [h x (List.mem_cons_self ..)]; decide), if_neg hx]
    exact typesGo_twice hl a _ _ (fun y hy => h y (List.mem_cons_of_mem _ hy)) (by rw [List.append_assoc]; exact hn) (by rw [List.append_assoc]; exact hm)
theorem check_types_is {ts : List Lc} {r : List Tr} {f : List UInt8} {E : Int} (h : typesE ts = E) (hE : E ≠ 0) : checkE ⟨ts, r, f⟩ = E := by
  unfold checkE
  rw [if_pos (by show typesE ts ≠ 0; rw [h]; exact hE)]
  exact h
theorem check_trans_is {ts : List Lc} {r : List Tr} {f : List UInt8} {E : Int} (ht : typesE ts = 0) (h : transE ⟨ts, r, f⟩ = E) (hE : E ≠ 0) : checkE ⟨ts, r, f⟩ = E := by
  unfold checkE
  rw [if_neg (fun q => q ht), if_pos (by rw [h]; exact hE)]
  exact h
theorem typesE_at {a b : List Lc} {l l' : Lc} {E : Int} (h : typesE (a ++ l' :: b) = 0) (hl : lcE l = E) (hE : E ≠ 0) : typesE (a ++ l :: b) = E := by
  obtain ⟨h1, h2, h3, h4⟩ := typesE_zero h
  have hlen : (a ++ l :: b).length = (a ++ l' :: b).length := by simp
  unfold typesE
  rw [if_neg (by rw [hlen]; exact fun e => h1 (List.length_eq_zero_iff.1 e)), if_neg (by rw [hlen]; omega)]
  refine typesGo_bad hl hE b a [] 0 (fun x hx => h4 x (List.mem_append_left _ hx)) ?_
  rw [List.nil_append]
  exact (List.nodup_append.1 h3).1
theorem typesE_twice {ts : List Lc} {l : Lc} (h : typesE ts = 0) (h30 : ts.length ≤ 30) (hl : l ∈ ts) : typesE (ts ++ [l]) = 10 := by
  obtain ⟨h1, h2, h3, h4⟩ := typesE_zero h
  unfold typesE
  rw [if_neg (by simp), if_neg (by rw [List.length_append, List.length_singleton]; omega)]
  exact typesGo_twice (h4 l hl) ts [] 0 h4 (by simpa using h3) (by simpa using hl)
theorem typesE_more {ts : List Lc} {l : Lc} (h : typesE ts = 0) (h30 : ts.length ≤ 30) (h7 : ∀ x ∈ ts, x.abbr.size ≤ 7) (hl : l ∉ ts) (hl0 : lcE l = 0) (hl7 : l.abbr.size ≤ 7) : typesE (ts ++ [l]) = 0 := by
  obtain ⟨h1, h2, h3, h4⟩ := typesE_zero h
  refine typesE_ok (fun x hx => ?_) ?_ (by simp) (by rw [List.length_append, List.length_singleton]; omega) (fun x hx => ?_)
  · rcases List.mem_append.1 hx with hx | hx
    · exact h4 x hx
    · rw [List.mem_singleton.1 hx]; exact hl0
  · rw [List.nodup_append]
    exact ⟨h3, by simp, fun x hx y hy e => hl (by rw [← List.mem_singleton.1 hy, ← e]; exact hx)⟩
  · rcases List.mem_append.1 hx with hx | hx
    · exact h7 x hx
    · rw [List.mem_singleton.1 hx]; exact hl7
/-- one type more than the transitions name -/
theorem transGo_more {n : Int} : ∀ (l : List Tr) (before most : Int) (last : Option Int), transGo n before most last l = 0 → transGo (n + 1) before most last l = 4
  | [], before, most, last, h => by
    unfold transGo at h ⊢
    by_cases e : most + 1 ≠ n
    · rw [if_pos e] at h; cases h
    · rw [if_pos (by omega)]
  | x :: r, before, most, last, h => by
    unfold transGo at h ⊢
    by_cases h1 : x.at' < -36028797018963968 ∨ 36028797018963968 < x.at'
    · rw [if_pos h1] at h; cases h
    rw [if_neg h1] at h ⊢
    by_cases h2 : behindQ last x.at' = true
    · rw [if_pos h2] at h; cases h
    rw [if_neg h2] at h ⊢
    by_cases h3 : x.ty < 0 ∨ n ≤ x.ty ∨ x.ty = before
    · rw [if_pos h3] at h; cases h
    rw [if_neg h3] at h
    rw [if_neg (by omega)]
    by_cases h4 : most + 1 < x.ty
    · rw [if_pos h4] at h; cases h
    rw [if_neg h4] at h ⊢
    exact transGo_more r _ _ _ h
/-- a transition that lies beyond the limits -/
theorem transGo_far {n : Int} {y z : Tr} (hz : z.at' < -36028797018963968 ∨ 36028797018963968 < z.at') (s : List Tr) : ∀ (l : List Tr) (before most : Int) (last : Option Int), transGo n before most last (l ++ y :: s) = 0 → transGo n before most last (l ++ z :: s) = 3
  | [], before, most, last, _ => by
    rw [List.nil_append]
    unfold transGo
    rw [if_pos hz]
  | x :: r, before, most, last, h => by
    rw [List.cons_append] at h ⊢
    unfold transGo at h ⊢
    by_cases h1 : x.at' < -36028797018963968 ∨ 36028797018963968 < x.at'
    · rw [if_pos h1] at h; cases h
    rw [if_neg h1] at h ⊢
    by_cases h2 : behindQ last x.at' = true
    · rw [if_pos h2] at h; cases h
    rw [if_neg h2] at h ⊢
    by_cases h3 : x.ty < 0 ∨ n ≤ x.ty ∨ x.ty = before
    · rw [if_pos h3] at h; cases h
    rw [if_neg h3] at h ⊢
    by_cases h4 : most + 1 < x.ty
    · rw [if_pos h4] at h; cases h
    rw [if_neg h4] at h ⊢
    exact transGo_far hz s r _ _ _ h
/-- what is wrong with the first two transitions -/
theorem trans_two {n t0 t1 : Int} {s : List Tr} (h : transGo n 0 0 none (⟨t0, 1⟩ :: ⟨t1, 2⟩ :: s) = 0) :
    (∀ k, transGo n 0 0 none (⟨t0, 1⟩ :: ⟨t0, k⟩ :: s) = 12) ∧ (∀ k : Int, k ≤ 0 → transGo n 0 0 none (⟨t0, k⟩ :: ⟨t1, 2⟩ :: s) = 2) ∧ (∀ k : Int, n ≤ k → transGo n 0 0 none (⟨t0, 1⟩ :: ⟨t1, k⟩ :: s) = 2) ∧ transGo n 0 0 none (⟨t0, 2⟩ :: ⟨t1, 2⟩ :: s) = 12 := by
  have ok := transGo_ok _ _ _ _ h
  have r0 := ok.rng ⟨t0, 1⟩ (List.mem_cons_self ..)
  have r1 := ok.rng ⟨t1, 2⟩ (List.mem_cons_of_mem _ (List.mem_cons_self ..))
  have y1 := ok.ty ⟨t1, 2⟩ (List.mem_cons_of_mem _ (List.mem_cons_self ..))
  have i1 := (List.pairwise_cons.1 ok.inc).1 ⟨t1, 2⟩ (List.mem_cons_self ..)
  dsimp only at r0 r1 y1 i1
  have b0 : ∀ t, behindQ none t = false := fun _ => rfl
  have b1 : behindQ (some t0) t0 = true := by simp [behindQ]
  have b2 : behindQ (some t0) t1 = false := by simp [behindQ]; omega
  refine ⟨fun k => ?_, fun k hk => ?_, fun k hk => ?_, ?_⟩
  · unfold transGo
    dsimp only
    rw [if_neg (by omega), if_neg (by rw [b0]; decide), if_neg (by omega), if_neg (by omega)]
    unfold transGo
    dsimp only
    rw [if_neg (by omega), if_pos b1]
  · unfold transGo
    dsimp only
    rw [if_neg (by omega), if_neg (by rw [b0]; decide), if_pos (by omega)]
  · unfold transGo
    dsimp only
    rw [if_neg (by omega), if_neg (by rw [b0]; decide), if_neg (by omega), if_neg (by omega)]
    unfold transGo
    dsimp only
    rw [if_neg (by omega), if_neg (by rw [b2]; decide), if_pos (by omega)]
  · unfold transGo
    dsimp only
    rw [if_neg (by omega), if_neg (by rw [b0]; decide), if_neg (by omega), if_pos (by omega)]
theorem incr_rng : ∀ {c : List (Int × Lc)} {y : Option Int}, Incr y c → ∀ p ∈ c, -36028797018963968 ≤ p.1 ∧ p.1 ≤ 36028797018963968
  | [], _, _, p, hp => by cases hp
  | (t, l) :: r, y, ⟨h1, h2, _, h4⟩, p, hp => by
    rcases List.mem_cons.1 hp with rfl | hp
    · exact ⟨h1, h2⟩
    · exact incr_rng h4 p hp
/-- the changes of a draft are in the range of their Go types -/
theorem changes_fit (d : D40) (h : d.In) : (∀ l ∈ d.changes.map Prod.snd, -54000 ≤ l.off ∧ l.off ≤ 54000 ∧ l.abbr.size ≤ 7) ∧ (∀ t ∈ d.changes.map Prod.fst, -36028797018963968 ≤ t ∧ t ≤ 36028797018963968) ∧ d.changes.length ≤ 41 := by
  have hp := goodP_iff (posix_good d.foot d.base)
  by_cases hs : d.steps = []
  · have ec : d.changes = [] := by unfold D40.changes; rw [if_pos hs]
    rw [ec]
    exact ⟨(fun l hl => by cases hl), (fun l hl => by cases hl), by simp⟩
  · have hb := goT_bd (d.steps.take 40) d.begin_ (fun x hx => h.st x (List.mem_of_mem_take hx))
    have hl40 : (d.steps.take 40).length ≤ 40 := by rw [List.length_take]; omega
    have hbe := h.be
    have hE : d.end_ = goT d.begin_ (d.steps.take 40) := rfl
    have ec : d.changes = goD d.tys d.next d.begin_ 0 (d.steps.take 40) ++ [(d.end_ + 1, (atL d.pos (d.end_ + 1)).1)] := by unfold D40.changes; rw [if_neg hs]
    have hI : Incr none d.changes := by
      rw [ec, hE]
      exact goD_incr d.tys d.next _ (d.steps.take 40) d.begin_ 0 none (fun x hx => h.st x (List.mem_of_mem_take hx)) hbe.1 (by omega) (fun z hz => by cases hz)
    have glen : ∀ (r : List Int) (t : Int) (i : Nat), (goD d.tys d.next t i r).length = r.length := by
      intro r
      induction r with
      | nil => intros; rfl
      | cons x r ih => intro t i; unfold goD; rw [List.length_cons, List.length_cons, ih]
    refine ⟨fun l hl => ?_, fun t ht => ?_, by rw [ec, List.length_append, glen, List.length_singleton]; omega⟩
    · obtain ⟨p, hpm, rfl⟩ := List.mem_map.1 hl
      rw [ec] at hpm
      rcases List.mem_append.1 hpm with hq | hq
      · obtain ⟨n, e⟩ := tys_good d _ (goD_mem (tys_pos d) d.next _ _ _ _ hq)
        rw [e]
        obtain ⟨_, h2, _, h4, h5⟩ := locN_good n
        omega
      · rw [List.mem_singleton.1 hq]
        obtain ⟨_, b0, b1, _, b3⟩ := atL_good hp (t := d.end_ + 1) (by omega) (by omega)
        unfold D40.pos
        dsimp only
        omega
    · obtain ⟨p, hpm, rfl⟩ := List.mem_map.1 ht
      exact incr_rng hI p hpm
end Go.Proofs.YtlaplgaccjmbhaaGreatDoor.Tb
namespace Go.Proofs.YtlaplgaccjmbhaaGreatDoor.Tb
open Px
theorem trans_step {n : Int} : ∀ (l : List Tr) (before most : Int) (last : Option Int), transGo n before most last l = 0 → ∀ (k : Nat) (x : Tr), l[k]? = some x → x.ty ≠ (if k = 0 then before else (l.getD (k - 1) ⟨0, 0⟩).ty)
  | [], _, _, _, _, k, x, hx => by simp at hx
  | y :: r, before, most, last, h, k, x, hx => by
    unfold transGo at h
    by_cases h1 : y.at' < -36028797018963968 ∨ 36028797018963968 < y.at'
    · rw [if_pos h1] at h; cases h
    rw [if_neg h1] at h
    by_cases h2 : behindQ last y.at' = true
    · rw [if_pos h2] at h; cases h
    rw [if_neg h2] at h
    by_cases h3 : y.ty < 0 ∨ n ≤ y.ty ∨ y.ty = before
    · rw [if_pos h3] at h; cases h
    rw [if_neg h3] at h
    by_cases h4 : most + 1 < y.ty
    · rw [if_pos h4] at h; cases h
    rw [if_neg h4] at h
    cases k with
    | zero =>
      simp only [List.getElem?_cons_zero, Option.some.injEq] at hx
      subst hx
      rw [if_pos rfl]
      omega
    | succ k =>
      rw [List.getElem?_cons_succ] at hx
      have := trans_step r y.ty _ _ h k x hx
      rw [if_neg (by omega), Nat.add_sub_cancel]
      cases k with
      | zero => rw [if_pos rfl] at this; exact this
      | succ k => rw [if_neg (by omega), Nat.add_sub_cancel] at this; exact this
/-- the local time in front of a transition -/
def bef (x : Tab) (k : Nat) : Lc := if k = 0 then x.types.getD 0 Lc.zero else x.types.getD (x.trans.getD (k - 1) ⟨0, 0⟩).ty.toNat Lc.zero
theorem bef_next {x : Tab} {k : Nat} {t : Tr} (h : x.trans[k]? = some t) : bef x (k + 1) = x.types.getD t.ty.toNat Lc.zero := by
  unfold bef
  have e : x.trans.getD k ⟨0, 0⟩ = t := by rw [List.getD_eq_getElem?_getD, h, Option.getD_some]
  rw [if_neg (by omega), Nat.add_sub_cancel, e]
theorem ty_rng {x : Tab} (h : checkE x = 0) {k : Nat} {t : Tr} (hk : x.trans[k]? = some t) : 0 ≤ t.ty ∧ t.ty < x.types.length := (transGo_ok _ _ _ _ (check_zero h).2.1).ty t (List.mem_of_getElem? hk)
theorem bef_ne {x : Tab} (h : checkE x = 0) {k : Nat} {t : Tr} (hk : x.trans[k]? = some t) : x.types.getD t.ty.toNat Lc.zero ≠ bef x k := by
  obtain ⟨ht, hr, _⟩ := check_zero h
  obtain ⟨h0, _, hn, _⟩ := typesE_zero ht
  have hl : 0 < x.types.length := List.length_pos_iff.2 h0
  have r1 := ty_rng h hk
  have hs := trans_step _ _ _ _ hr k t hk
  unfold bef
  by_cases h0 : k = 0
  · rw [if_pos h0] at hs ⊢
    rw [getD_mem (by omega), getD_mem hl]
    intro e
    have := (List.getElem_inj hn).1 e
    omega
  · rw [if_neg h0] at hs ⊢
    have hlt : k - 1 < x.trans.length := by
      have := (List.getElem?_eq_some_iff.1 hk).1
      omega
    have hp : x.trans[k - 1]? = some (x.trans.getD (k - 1) ⟨0, 0⟩) := by rw [List.getD_eq_getElem?_getD, List.getElem?_eq_getElem hlt, Option.getD_some]
    have r2 := ty_rng h hp
    rw [getD_mem (by omega), getD_mem (by omega)]
    intro e
    have := (List.getElem_inj hn).1 e
    omega
theorem changes_take {x : Tab} {k : Nat} {t : Tr} (h : x.trans[k]? = some t) : x.changes.take (k + 1) = x.changes.take k ++ [(t.at', x.types.getD t.ty.toNat Lc.zero)] := by
  rw [List.take_add_one]
  unfold Tab.changes
  rw [List.getElem?_map, h]
  rfl
theorem changes_len (x : Tab) : x.changes.length = x.trans.length := by unfold Tab.changes; rw [List.length_map]
theorem zip_fst_snd : ∀ g : List (Int × Lc), (g.map Prod.fst).zip (g.map Prod.snd) = g
  | [] => rfl
  | x :: r => by rw [List.map_cons, List.map_cons, List.zip_cons_cons, zip_fst_snd r]
theorem ofT_self {x : Tab} (h : checkE x = 0) : ofT (x.types.getD 0 Lc.zero) (x.changes.map Prod.fst) (x.changes.map Prod.snd) x.foot = (x, 0) := by
  unfold ofT
  rw [if_neg (by simp), zip_fst_snd, right_again h]
  show (if checkE x = 0 then (x, 0) else _) = _
  rw [if_pos h]
/-- each change twice -/
def twice (g : List (Int × Lc)) : List (Int × Lc) := g.flatMap (fun c => [c, c])
theorem ofT_twice {x : Tab} (h : checkE x = 0) : ofT (x.types.getD 0 Lc.zero) ((twice x.changes).map Prod.fst) ((twice x.changes).map Prod.snd) x.foot = (x, 0) := by
  unfold ofT twice
  rw [if_neg (by simp), zip_fst_snd, of_twice, right_again h]
  show (if checkE x = 0 then (x, 0) else _) = _
  rw [if_pos h]
theorem twice_len (g : List (Int × Lc)) : (twice g).length = 2 * g.length := by
  unfold twice
  induction g with
  | nil => rfl
  | cons a r ih => rw [List.flatMap_cons, List.length_append, ih]; simp; omega
theorem twice_snoc (g : List (Int × Lc)) (c : Int × Lc) : twice (g ++ [c]) = twice g ++ [c] ++ [c] := by unfold twice; simp
theorem twice_mem {g : List (Int × Lc)} {c : Int × Lc} (h : c ∈ twice g) : c ∈ g := by
  unfold twice at h
  obtain ⟨d, hd, hc⟩ := List.mem_flatMap.1 h
  simp only [List.mem_cons, List.not_mem_nil, or_false, or_self] at hc
  rw [hc]
  exact hd
theorem changes_mem {x : Tab} (h : checkE x = 0) {c : Int × Lc} (hc : c ∈ x.changes) : (-36028797018963968 ≤ c.1 ∧ c.1 ≤ 36028797018963968) ∧ c.2 ∈ x.types := by
  unfold Tab.changes at hc
  obtain ⟨t, ht, rfl⟩ := List.mem_map.1 hc
  have ok := transGo_ok _ _ _ _ (check_zero h).2.1
  have := ok.ty t ht
  refine ⟨ok.rng t ht, ?_⟩
  dsimp only
  rw [getD_mem (by omega)]
  exact List.getElem_mem _
theorem made_trans_len (d : D40) (h : d.In) : d.made.trans.length ≤ 41 := by
  have h1 : ∀ (c : List (Int × Lc)) (ts : List Lc) (xs : List Tr) (b : Lc), (ofGo ts xs b c).2.length ≤ xs.length + c.length := by
    intro c
    induction c with
    | nil => intro ts xs b; simp [ofGo]
    | cons p r ih =>
      intro ts xs b
      obtain ⟨t, l⟩ := p
      unfold ofGo
      by_cases e1 : l = b
      · rw [if_pos e1]
        have := ih ts xs b
        rw [List.length_cons]
        omega
      · rw [if_neg e1]
        by_cases e2 : l ∈ ts
        · rw [if_pos e2]
          have := ih ts (xs ++ [⟨t, (ts.idxOf l : Nat)⟩]) l
          rw [List.length_append] at this
          simp only [List.length_cons, List.length_nil] at this ⊢
          omega
        · rw [if_neg e2]
          have := ih (ts ++ [l]) (xs ++ [⟨t, (ts.length : Nat)⟩]) l
          rw [List.length_append] at this
          simp only [List.length_cons, List.length_nil] at this ⊢
          omega
  have h2 := h1 d.changes [d.first] [] d.first
  have h3 := (changes_fit d h).2.2
  unfold D40.made
  dsimp only
  simp only [List.length_nil] at h2
  omega
end Go.Proofs.YtlaplgaccjmbhaaGreatDoor.Tb
namespace Go.Proofs.YtlaplgaccjmbhaaGreatDoor.Px
open Go.RowKit
open Civ Tb
theorem take_set {cur : Array Value} {m i : Nat} {u : Value} : (cur.setIfInBounds i u).toList.take m = (cur.toList.take m).set i u := by
  rw [Array.toList_setIfInBounds, List.take_set]
/-- a cell of a slice that the call owns is stored -/
theorem Kp.put {L : List (Nat × Obj)} {R : List Rw} {w X : World} {g n cap N sz : Nat} {e : TypeId} {xs : List Value} (h : Kp L (⟨.slice (some ⟨g, 0, none⟩) n cap, e, sz, N, xs⟩ :: R) w X) (h0 : 0 < N) (i : Nat) (u : Value) :
    Kp L (⟨.slice (some ⟨g, 0, none⟩) n cap, e, sz, N, xs.set i u⟩ :: R) w (X.setCell ⟨g, i, none⟩ u) := by
  obtain ⟨g', cap', cur, hv, hk, h1, h2, h3, h4⟩ := h.known_of h0
  simp only [Value.slice.injEq, Option.some.injEq, Addr.mk.injEq, and_true] at hv
  obtain ⟨rfl, rfl, rfl⟩ := hv
  have h5 := (hk.set 0 rfl i u rfl).own_block sz n cap h1 h2 (by rw [Array.size_setIfInBounds]; exact h3)
  rw [take_set, h4] at h5
  exact h5
/-- what a store to such a cell asks -/
theorem Kp.free {L : List (Nat × Obj)} {R : List Rw} {w X : World} {g n cap N sz : Nat} {e : TypeId} {xs : List Value} (h : Kp L (⟨.slice (some ⟨g, 0, none⟩) n cap, e, sz, N, xs⟩ :: R) w X) (h0 : 0 < N) (i : Nat) : X.frozen? ⟨g, i, none⟩ = false := by
  obtain ⟨g', cap', cur, hv, hk, h1, h2, h3, h4⟩ := h.known_of h0
  simp only [Value.slice.injEq, Option.some.injEq, Addr.mk.injEq, and_true] at hv
  obtain ⟨rfl, _, _⟩ := hv
  exact free_at (hk.at 0 rfl) i
/-- a list of integers appended to a slice that the call owns -/
theorem append_ints {L : List (Nat × Obj)} {R : List Rw} {v : Value} {n : Nat} {xs : List Value} {W X : World} {k : IntKind} {t e : TypeId} {by' : Nat} (ht : Tryz.prog.underlying t = some (.slice e)) (hinf : (Tryz.prog.info? e).map (fun i => (i.zero, i.size, i.bytes)) = some (some (.int k 0), 1, by')) (hb : 0 < by')
    (h : Kp L (⟨v, e, 1, n, xs⟩ :: R) W X) (l : List Int) (lv : Value) (hL : IsV X k lv l) (hnil : ∀ c, lv = .slice none l.length c → c = 0) (hmax : (n + l.length) * by' ≤ 140737488355328) :
    ∃ v' w1, (Builtin.append_ #[t, t] t #[v, lv]).run Tryz.prog X = .ok v' w1 ∧ Kp L (⟨v', e, 1, n + l.length, xs ++ l.map (Value.int k)⟩ :: R) W w1 := by
  obtain ⟨i0, hi, hz0, hz1, hz2⟩ := info_parts hinf
  obtain ⟨h0, a, c, rfl, h1, h2, h3⟩ := hL
  cases a with
  | none =>
    have hl : l.length = 0 := by
      rcases h3 with h3 | ⟨_, _, e, _⟩
      · exact h3
      · cases e
    have hc := hnil c rfl
    have hln : l = [] := List.length_eq_zero_iff.1 hl
    subst hln hc
    refine ⟨v, X, ?_, ?_⟩
    · exact run_append_owned_none (P := Tryz.prog) (w := X) W.heap.size t t e i0 1 ht hi v n xs (h.row 0 rfl)
    · simpa using h
  | some ad =>
    have hnews : ∀ (j : Nat) (u : Value), (l.map (Value.int k))[j]? = some u → X.cell? (ad.add j) = some u := by
      intro j u hu
      rcases h3 with h3 | ⟨b, o, e, _, hc⟩
      · have hln : l = [] := List.length_eq_zero_iff.1 h3
        subst hln
        simp at hu
      · cases e
        rw [WideShapes.add_plain]
        exact hc j u hu
    have hone : ∀ u ∈ l.map (Value.int k), u.oneCell' = true := by
      intro u hu
      obtain ⟨x, _, rfl⟩ := List.mem_map.1 hu
      rfl
    obtain ⟨v', w1, hr, hown, hgrow, _, hat⟩ := run_append_own_at (P := Tryz.prog) X W.heap.size t t e i0 (.int k 0) 1 by' ht hi hz0 hz1 hz2 rfl (by decide) v n xs (h.row 0 rfl) ad l.length c (l.map (Value.int k)) (by rw [List.length_map]; omega) hnews hone (by unfold maxLen; have := Nat.le_mul_of_pos_right (n + l.length) hb; omega) hmax h.below.size
    exact ⟨v', w1, hr, h.append hown hgrow hat⟩
end Go.Proofs.YtlaplgaccjmbhaaGreatDoor.Px
namespace Go.Proofs.YtlaplgaccjmbhaaGreatDoor.Px
open Go.RowKit
open Civ Tb
theorem bdrew3 (X : World) : Below X.heap.size X X.drew := Civ.below_drewN (Below.refl _ X) 1
theorem row_keep3 {L : List (Nat × Obj)} {R : List Rw} {W X Y : World} {b : Nat} {c0 c1 c2 : Value} {t : TypeId} (k : Nat) (K : Kp L R W X) (hk : L[k]? = some (b, .cells #[c0, c1, c2] t (0, 0))) (hB : Below X.heap.size X Y) :
    Y.cell? ⟨b, 0, none⟩ = some c0 ∧ Y.cell? ⟨b, 1, none⟩ = some c1 ∧ Y.cell? ⟨b, 2, none⟩ = some c2 ∧ Below X.heap.size X Y :=
  ⟨(row3 ((K.keep hB).at k hk)).1.1, (row3 ((K.keep hB).at k hk)).1.2.1, (row3 ((K.keep hB).at k hk)).1.2.2, hB⟩
theorem row_keep33 {L : List (Nat × Obj)} {R : List Rw} {W X Y : World} {b : Nat} {c0 c1 c2 : Value} {t : TypeId} {b' : Nat} {d0 d1 d2 : Value} {t' : TypeId} (k k' : Nat) (K : Kp L R W X) (hk : L[k]? = some (b, .cells #[c0, c1, c2] t (0, 0))) (hk' : L[k']? = some (b', .cells #[d0, d1, d2] t' (0, 0))) (hB : Below X.heap.size X Y) :
    Y.cell? ⟨b, 0, none⟩ = some c0 ∧ Y.cell? ⟨b, 1, none⟩ = some c1 ∧ Y.cell? ⟨b, 2, none⟩ = some c2 ∧ Y.cell? ⟨b', 0, none⟩ = some d0 ∧ Y.cell? ⟨b', 1, none⟩ = some d1 ∧ Y.cell? ⟨b', 2, none⟩ = some d2 ∧ Below X.heap.size X Y :=
  ⟨(row3 ((K.keep hB).at k hk)).1.1, (row3 ((K.keep hB).at k hk)).1.2.1, (row3 ((K.keep hB).at k hk)).1.2.2, row_keep3 k' K hk' hB⟩
theorem same_self (x : Tab) : sameB x x = true := by simp [sameB]
theorem bda (Z : World) (o : Obj) : Below Z.heap.size Z (Z.alloc o).drew := ((Below.refl _ Z).alloc (Nat.le_refl _) o).trans ((bdrew3 (Z.alloc o)).mono (by simp))
theorem tab_of {Z : World} {B nt nr : Nat} {tv rv : Value} {x : Tab} {S : List UInt8} {e e' : TypeId} (hS : x.foot = S) (hf : TabFit x) (h1 : Z.ownsRow B e 2 rv nr (x.trans.flatMap Tr.cells)) (h2 : Z.ownsRow B e' 3 tv nt (x.types.flatMap Lc.cells)) (e1 : nr = x.trans.length) (e2 : nt = x.types.length) : TabV Z tv rv (bs S) x :=
  ⟨LcV.own h2 e2, TrV.own h1 e1, by rw [hS], hf.lcs, hf.trs⟩
theorem row6 {X : World} {b : Nat} {T : TypeId} {x0 x1 x2 x3 x4 x5 : Value} (h : X.heap[b]? = some (.cells #[x0, x1, x2, x3, x4, x5] T (0, 0))) : X.cell? ⟨b, 0, none⟩ = some x0 ∧ X.cell? ⟨b, 1, none⟩ = some x1 ∧ X.cell? ⟨b, 2, none⟩ = some x2 ∧ X.cell? ⟨b, 3, none⟩ = some x3 ∧ X.cell? ⟨b, 4, none⟩ = some x4 ∧ X.cell? ⟨b, 5, none⟩ = some x5 :=
  ⟨cells_at h 0, cells_at h 1, cells_at h 2, cells_at h 3, cells_at h 4, cells_at h 5⟩
end Go.Proofs.YtlaplgaccjmbhaaGreatDoor.Px

