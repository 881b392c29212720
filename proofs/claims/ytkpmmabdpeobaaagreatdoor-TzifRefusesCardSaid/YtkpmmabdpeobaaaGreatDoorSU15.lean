/- Tables by numbers (chapter 40), plain: the drafts of the statements make right tables. No program in sight. -/
import Derived.Test.YtkpmmabdpeobaaaGreatDoorSU14
import Derived.Test.YtkpmmabdpeobaaaGreatDoorSU12
namespace Go.Proofs.YtkpmmabdpeobaaaGreatDoor.Tb
open Px
def abbr12 : List (List UInt8) := [[71, 77, 84], [66, 83, 84], [76, 77, 84], [87, 69, 83, 84], [67, 69, 83, 84], [65, 66, 67, 68, 69, 70], [43, 48, 49], [45, 48, 51, 51, 48], [43, 48, 53, 51, 48, 48, 48], [88, 121, 57], [45, 48, 48], [85, 84, 67]]
def locN (n : Int) : Lc := ⟨900 * (n % 97 - 48), decide (n / 97 % 2 = 1), bs (abbr12.getD (n / 194 % 12).toNat [])⟩
def posixK (k c : Nat) : Pos :=
 if k = 1 then ⟨bs [83, 84, 68], 1800 * ((c : Int) - 12), bs [68, 83, 84], 1800 * ((c : Int) - 12) + 3600, ⟨3, 0, 3, 5, 7200⟩, ⟨3, 0, 10, 5, 10800⟩⟩
 else if k = 2 then ⟨bs [83, 84, 68], 1800 * ((c : Int) - 12), bs [68, 83, 84], 1800 * ((c : Int) - 12) - 3600, ⟨3, 0, 10, 5, 7200⟩, ⟨3, 6, 3, 2, 3600⟩⟩
 else if k = 3 then ⟨bs [43, 48, 53], 1800 * ((c : Int) - 12), bs [43, 48, 54], 1800 * ((c : Int) - 12) + 1800, ⟨1, 60, 0, 0, 0⟩, ⟨2, 300, 0, 0, 86400⟩⟩
 else ⟨bs [83, 84, 68], 1800 * ((c : Int) - 12), bs [], 0, Dt.zero, Dt.zero⟩
def posixN (n base : Int) : Pos := posixK (n % 4).toNat (base % 25).toNat
def abbr4 : List (List UInt8) := [[83, 84, 68], [68, 83, 84], [43, 48, 53], [43, 48, 54]]
def goodP (abbrs : List (List UInt8)) (p : Pos) : Bool :=
 p.ok && decide (finG rfF (printL p) = (p, 0)) && decide ((printL p).length ≤ 100) && abbrs.contains p.std.data.toList && (p.dst.toList.isEmpty || abbrs.contains p.dst.data.toList) &&
  decide (-25200 ≤ p.stdOff) && decide (p.stdOff ≤ 25200) && decide (-25200 ≤ p.dstOff) && decide (p.dstOff ≤ 25200) && decide (p.std.size ≤ 3) && decide (p.dst.size ≤ 3)
theorem posix_all : (List.range 4).all (fun k => (List.range 25).all (fun c => goodP abbr4 (posixK k c))) = true := by kernel_rfl
theorem posix_good (n base : Int) : goodP abbr4 (posixN n base) = true := by
 have h := List.all_eq_true.1 posix_all (n % 4).toNat (List.mem_range.2 (by omega))
 exact List.all_eq_true.1 h (base % 25).toNat (List.mem_range.2 (by omega))
structure GoodP (abbrs : List (List UInt8)) (p : Pos) : Prop where
 ok : p.ok = true
 back : finG rfF (printL p) = (p, 0)
 len : (printL p).length ≤ 100
 std : p.std.data.toList ∈ abbrs
 dst : p.dst.toList.isEmpty = true ∨ p.dst.data.toList ∈ abbrs
 b0 : -25200 ≤ p.stdOff
 b1 : p.stdOff ≤ 25200
 b2 : -25200 ≤ p.dstOff
 b3 : p.dstOff ≤ 25200
 s0 : p.std.size ≤ 3
 s1 : p.dst.size ≤ 3
theorem goodP_iff {abbrs : List (List UInt8)} {p : Pos} (h : goodP abbrs p = true) : GoodP abbrs p := by
 unfold goodP at h
 simp only [Bool.and_eq_true, Bool.or_eq_true, decide_eq_true_eq, List.contains_eq_mem] at h
 obtain ⟨⟨⟨⟨⟨⟨⟨⟨⟨⟨h1, h2⟩, h3⟩, h4⟩, h5⟩, h6⟩, h7⟩, h8⟩, h9⟩, h10⟩, h11⟩ := h
 exact ⟨h1, h2, h3, h4, h5, h6, h7, h8, h9, h10, h11⟩
theorem atL_good {abbrs : List (List UInt8)} {p : Pos} (h : GoodP abbrs p) {t : Int} (t0 : -36028797018963968 ≤ t) (t1 : t ≤ 36028797018963968) :
 (atL p t).2 = 0 ∧ -25200 ≤ (atL p t).1.off ∧ (atL p t).1.off ≤ 25200 ∧ (atL p t).1.abbr.data.toList ∈ abbrs ∧ (atL p t).1.abbr.size ≤ 3 := by
 have e1 : ¬ p.ok = false := by rw [h.ok]; decide
 have e2 : ¬ (t < -36028797018963968 ∨ 36028797018963968 < t) := by omega
 unfold atL
 rw [if_neg e1, if_neg e2]
 by_cases e3 : p.dst.toList.isEmpty = true
 · rw [if_pos e3]
   exact ⟨rfl, h.b0, h.b1, h.std, h.s0⟩
 · rw [if_neg e3]
   have hd : p.dst.data.toList ∈ abbrs := by
    rcases h.dst with h | h
    · exact absurd h e3
    · exact h
   by_cases e4 : (lastP p t).2 = true
   · rw [if_pos e4]
     exact ⟨rfl, h.b2, h.b3, hd, h.s1⟩
   · rw [if_neg e4]
     exact ⟨rfl, h.b0, h.b1, h.std, h.s0⟩
structure D40 where
 types : List Int
 steps : List Int
 next : List Int
 begin_ : Int
 foot : Int
 base : Int
structure D40.In (d : D40) : Prop where
 ty : ∀ x ∈ d.types, 0 ≤ x ∧ x ≤ 65535
 st : ∀ x ∈ d.steps, 0 ≤ x ∧ x ≤ 4294967295
 nx : ∀ x ∈ d.next, 0 ≤ x ∧ x ≤ 255
 be : -2147483648 ≤ d.begin_ ∧ d.begin_ ≤ 2147483647
 fo : 0 ≤ d.foot ∧ d.foot ≤ 255
 ba : 0 ≤ d.base ∧ d.base ≤ 255
def D40.tys (d : D40) : List Lc := locN 0 :: (d.types.take 9).map locN
def nxK (nx : List Int) (i : Nat) : Nat := (nx.getD i i).toNat
def goD (ts : List Lc) (nx : List Int) : Int → Nat → List Int → List (Int × Lc)
 | _, _, [] => []
 | t, i, s :: r => (t + (1 + s), ts.getD (nxK nx i % ts.length) Lc.zero) :: goD ts nx (t + (1 + s)) (i + 1) r
def goT : Int → List Int → Int
 | t, [] => t
 | t, s :: r => goT (t + (1 + s)) r
def D40.pos (d : D40) : Pos := posixN d.foot d.base
def D40.end_ (d : D40) : Int := goT d.begin_ (d.steps.take 40)
def D40.first (d : D40) : Lc := if d.steps = [] then (atL d.pos 0).1 else locN 0
def D40.changes (d : D40) : List (Int × Lc) :=
 if d.steps = [] then [] else goD d.tys d.next d.begin_ 0 (d.steps.take 40) ++ [(d.end_ + 1, (atL d.pos (d.end_ + 1)).1)]
def D40.made (d : D40) : Tab := ⟨(ofGo [d.first] [] d.first d.changes).1, (ofGo [d.first] [] d.first d.changes).2, printL d.pos⟩
theorem goT_bd : ∀ (r : List Int) (t : Int), (∀ x ∈ r, 0 ≤ x ∧ x ≤ 4294967295) → t ≤ goT t r ∧ goT t r ≤ t + 4294967296 * r.length
 | [], t, _ => by simp [goT]
 | s :: r, t, h => by
   have h1 := h s (List.mem_cons_self ..)
   have h2 := goT_bd r (t + (1 + s)) (fun x hx => h x (List.mem_cons_of_mem _ hx))
   unfold goT
   rw [List.length_cons]
   omega
theorem goD_incr (ts : List Lc) (nx : List Int) (last : Lc) : ∀ (r : List Int) (t : Int) (i : Nat) (y : Option Int), (∀ x ∈ r, 0 ≤ x ∧ x ≤ 4294967295) → -2147483648 ≤ t → goT t r + 1 ≤ 36028797018963968 → (∀ z, y = some z → z ≤ t) →
 Incr y (goD ts nx t i r ++ [(goT t r + 1, last)])
 | [], t, i, y, _, h0, h1, hy => by
   unfold goT at h1
   simp only [goD, goT, List.nil_append, Incr]
   exact ⟨by omega, h1, fun z e => by have := hy z e; omega, trivial⟩
 | s :: r, t, i, y, h, h0, h1, hy => by
   have h2 := h s (List.mem_cons_self ..)
   have h3 := goT_bd r (t + (1 + s)) (fun x hx => h x (List.mem_cons_of_mem _ hx))
   unfold goT at h1
   simp only [goD, goT, List.cons_append, Incr]
   exact ⟨by omega, by omega, fun z e => by have := hy z e; omega, goD_incr ts nx last r (t + (1 + s)) (i + 1) (some (t + (1 + s))) (fun x hx => h x (List.mem_cons_of_mem _ hx)) (by omega) h1 (fun z e => by cases e; omega)⟩
theorem goD_mem {ts : List Lc} (hts : 0 < ts.length) (nx : List Int) : ∀ (r : List Int) (t : Int) (i : Nat) (x : Int × Lc), x ∈ goD ts nx t i r → x.2 ∈ ts
 | [], _, _, _, h => by simp [goD] at h
 | s :: r, t, i, x, h => by
   unfold goD at h
   rcases List.mem_cons.1 h with rfl | h
   · have := Nat.mod_lt (nxK nx i) hts
     dsimp only
     rw [getD_mem this]
     exact List.getElem_mem _
   · exact goD_mem hts nx r _ _ x h
theorem of_last (t : Int) (l : Lc) : ∀ (c : List (Int × Lc)) (ts : List Lc) (xs : List Tr) (b : Lc), l ∉ ts → l ≠ b → (∀ x ∈ c, x.2 ≠ l) →
 ofGo ts xs b (c ++ [(t, l)]) = ((ofGo ts xs b c).1 ++ [l], (ofGo ts xs b c).2 ++ [⟨t, ((ofGo ts xs b c).1.length : Nat)⟩])
 | [], ts, xs, b, h1, h2, _ => by simp [ofGo, h1, h2]
 | (u, y) :: r, ts, xs, b, h1, h2, h3 => by
   have hy : y ≠ l := h3 (u, y) (List.mem_cons_self ..)
   have hr : ∀ x ∈ r, x.2 ≠ l := fun x hx => h3 x (List.mem_cons_of_mem _ hx)
   rw [List.cons_append]
   unfold ofGo
   by_cases e1 : y = b
   · rw [if_pos e1, if_pos e1]
     exact of_last t l r ts xs b h1 h2 hr
   · rw [if_neg e1, if_neg e1]
     by_cases e2 : y ∈ ts
     · rw [if_pos e2, if_pos e2]
       exact of_last t l r ts _ y h1 hy.symm hr
     · rw [if_neg e2, if_neg e2]
       refine of_last t l r _ _ y ?_ hy.symm hr
       intro hm
       rcases List.mem_append.1 hm with hm | hm
       · exact h1 hm
       · rw [List.mem_singleton] at hm
         exact hy hm.symm
theorem abbr_all : abbr12.all (fun l => nameOk l && decide (l.length ≤ 7) && !abbr4.contains l) = true := by kernel_rfl
theorem getD_of {α : Type} {P : α → Prop} {l : List α} (h : ∀ x ∈ l, P x) {k : Nat} (hk : k < l.length) (d : α) : P (l.getD k d) := by
 rw [show l.getD k d = l[k] by simp [List.getD, List.getElem?_eq_getElem hk]]
 exact h _ (List.getElem_mem _)
theorem locN_good (n : Int) : lcE (locN n) = 0 ∧ (locN n).abbr.size ≤ 7 ∧ (locN n).abbr.data.toList ∉ abbr4 ∧ -43200 ≤ (locN n).off ∧ (locN n).off ≤ 43200 := by
 have h := getD_of (P := fun l => nameOk l = true ∧ l.length ≤ 7 ∧ l ∉ abbr4) (l := abbr12) (fun x hx => by
  have := List.all_eq_true.1 abbr_all x hx
  simpa [and_assoc] using this) (k := (n / 194 % 12).toNat) (by show _ < 12; omega) []
 obtain ⟨h1, h2, h3⟩ := h
 refine ⟨?_, ?_, h3, ?_, ?_⟩
 · unfold lcE locN
   rw [if_neg (by dsimp only; omega), if_neg (by dsimp only; rw [bs_list, h1]; decide)]
 · unfold locN
   dsimp only
   show (bs _).size ≤ 7
   have e : ∀ l : List UInt8, (bs l).size = l.length := fun l => List.size_toArray
   rw [e]
   exact h2
 · unfold locN
   dsimp only
   omega
 · unfold locN
   dsimp only
   omega
theorem abbr4_all : abbr4.all (fun l => nameOk l) = true := by kernel_rfl
theorem last_good {p : Pos} (h : GoodP abbr4 p) {t : Int} (t0 : -36028797018963968 ≤ t) (t1 : t ≤ 36028797018963968) : lcE (atL p t).1 = 0 := by
 obtain ⟨_, h2, h3, h4, _⟩ := atL_good h t0 t1
 unfold lcE
 rw [if_neg (by omega), if_neg (by rw [List.all_eq_true.1 abbr4_all _ h4]; decide)]
theorem tys_good (d : D40) : ∀ l ∈ d.tys, ∃ n, l = locN n := by
 intro l hl
 unfold D40.tys at hl
 rcases List.mem_cons.1 hl with rfl | hl
 · exact ⟨0, rfl⟩
 · obtain ⟨n, _, rfl⟩ := List.mem_map.1 hl
   exact ⟨n, rfl⟩
theorem tys_pos (d : D40) : 0 < d.tys.length := by unfold D40.tys; simp
theorem tys_len (d : D40) : d.tys.length ≤ 10 := by unfold D40.tys; simp; omega
theorem nodup_le {α : Type} [DecidableEq α] : ∀ (l m : List α), l.Nodup → (∀ x ∈ l, x ∈ m) → l.length ≤ m.length
 | [], m, _, _ => by simp
 | a :: r, m, h, hs => by
   obtain ⟨h1, h2⟩ := List.nodup_cons.1 h
   have ha := hs a (List.mem_cons_self ..)
   have ih := nodup_le r (m.erase a) h2 (fun x hx => by
    have hne : x ≠ a := fun e => h1 (e ▸ hx)
    exact (List.mem_erase_of_ne hne).2 (hs x (List.mem_cons_of_mem _ hx)))
   have hl := List.length_erase_of_mem ha
   have hp := List.length_pos_of_mem ha
   rw [List.length_cons]
   omega
theorem made_right (d : D40) (h : d.In) : checkE d.made = 0 := by
 have hp := goodP_iff (posix_good d.foot d.base)
 by_cases hs : d.steps = []
 · have ef : d.first = (atL d.pos 0).1 := by unfold D40.first; rw [if_pos hs]
   have ec : d.changes = [] := by unfold D40.changes; rw [if_pos hs]
   have em : d.made = ⟨[(atL d.pos 0).1], [], printL d.pos⟩ := by unfold D40.made; rw [ec, ef]; rfl
   rw [em]
   have hl : lcE (atL d.pos 0).1 = 0 := last_good hp (by omega) (by omega)
   obtain ⟨a1, _, _, _, a5⟩ := atL_good hp (t := 0) (by omega) (by omega)
   unfold checkE
   rw [if_neg (by
    dsimp only
    rw [typesE_ok (by intro l hl'; rw [List.mem_singleton] at hl'; rw [hl']; exact hl) (by simp) (by simp) (by simp) (by intro l hl'; rw [List.mem_singleton] at hl'; rw [hl']; unfold D40.pos; omega)]
    decide), if_neg (by unfold transE transGo; simp)]
   unfold footE Tab.last
   dsimp only
   unfold D40.pos
   rw [hp.back]
   rw [if_neg (fun h => h rfl)]
   rw [if_pos]
   show atL (posixN d.foot d.base) 0 = _
   exact Prod.ext rfl a1
 · have ef : d.first = locN 0 := by unfold D40.first; rw [if_neg hs]
   obtain ⟨e, he⟩ : ∃ e, d.end_ + 1 = e := ⟨_, rfl⟩
   have hb := goT_bd (d.steps.take 40) d.begin_ (fun x hx => h.st x (List.mem_of_mem_take hx))
   have hl40 : (d.steps.take 40).length ≤ 40 := by rw [List.length_take]; omega
   have hbe := h.be
   have hE : d.end_ = goT d.begin_ (d.steps.take 40) := rfl
   have e0 : -36028797018963968 ≤ e := by omega
   have e1 : e ≤ 36028797018963968 := by omega
   obtain ⟨l, hl⟩ : ∃ l, (atL d.pos e).1 = l := ⟨_, rfl⟩
   obtain ⟨g, hg⟩ : ∃ g, goD d.tys d.next d.begin_ 0 (d.steps.take 40) = g := ⟨_, rfl⟩
   have ec : d.changes = g ++ [(e, l)] := by unfold D40.changes; rw [if_neg hs, he, hl, hg]
   have hgm : ∀ x ∈ g, x.2 ∈ d.tys := fun x hx => goD_mem (tys_pos d) d.next _ _ _ x (by rw [hg]; exact hx)
   obtain ⟨a1, a2, a3, a4, a5⟩ := atL_good hp e0 e1
   have hlE : lcE l = 0 := by rw [← hl]; exact last_good hp e0 e1
   have hla : l.abbr.data.toList ∈ abbr4 := by rw [← hl]; exact a4
   have hl7 : l.abbr.size ≤ 7 := by rw [← hl]; unfold D40.pos; omega
   have hlt : l ∉ d.tys := by
    intro hm
    obtain ⟨n, rfl⟩ := tys_good d l hm
    exact (locN_good n).2.2.1 hla
   have h0t : locN 0 ∈ d.tys := List.mem_cons_self ..
   have hl0 : l ≠ locN 0 := fun e => hlt (e ▸ h0t)
   have hI : Incr none (g ++ [(e, l)]) := by
    have := goD_incr d.tys d.next l (d.steps.take 40) d.begin_ 0 none (fun x hx => h.st x (List.mem_of_mem_take hx)) hbe.1 (by omega) (fun z hz => by cases hz)
    rw [hg, ← hE, he] at this
    exact this
   have hL := of_last e l g [locN 0] [] (locN 0) (by rw [List.mem_singleton]; exact hl0) hl0 (fun x hx he' => hlt (he' ▸ hgm x hx))
   obtain ⟨ys, ey, ok⟩ := of_ok (g ++ [(e, l)]) [locN 0] [] (locN 0) none (by simp) (by simp) hI
   obtain ⟨T, hT⟩ : ∃ T, ofGo [locN 0] [] (locN 0) g = T := ⟨_, rfl⟩
   rw [hT] at hL
   rw [hL] at ey ok
   have em : d.made = ⟨T.1 ++ [l], T.2 ++ [⟨e, (T.1.length : Nat)⟩], printL d.pos⟩ := by unfold D40.made; rw [ec, ef, hL]
   rw [em]
   have hsub : ∀ x ∈ T.1 ++ [l], x ∈ d.tys ∨ x = l := by
    intro x hx
    rcases ok.sub x hx with h | ⟨u, hu⟩
    · rw [List.mem_singleton] at h
      subst h
      exact .inl h0t
    · rcases List.mem_append.1 hu with hu | hu
      · exact .inl (hgm _ hu)
      · rw [List.mem_singleton] at hu
        exact .inr (congrArg Prod.snd hu)
   have hlen : (T.1 ++ [l]).length ≤ 11 := by
    have := nodup_le (T.1 ++ [l]) (l :: d.tys) ok.nodup (fun x hx => by
     rcases hsub x hx with h | h
     · exact List.mem_cons_of_mem _ h
     · rw [h]; exact List.mem_cons_self ..)
    have := tys_len d
    rw [List.length_cons] at *
    omega
   have hgood : ∀ x ∈ T.1 ++ [l], lcE x = 0 ∧ x.abbr.size ≤ 7 := by
    intro x hx
    rcases hsub x hx with h | h
    · obtain ⟨n, rfl⟩ := tys_good d x h
      exact ⟨(locN_good n).1, (locN_good n).2.1⟩
    · rw [h]; exact ⟨hlE, hl7⟩
   unfold checkE
   rw [if_neg (by
    dsimp only
    rw [typesE_ok (fun x hx => (hgood x hx).1) ok.nodup (by simp) (by omega) (fun x hx => (hgood x hx).2)]
    decide), if_neg (by
    unfold transE
    dsimp only
    have hok := ok.ok
    rw [List.nil_append] at ey
    have h0 : (([locN 0].idxOf (locN 0) : Nat) : Int) = 0 := by simp
    rw [← ey, h0] at hok
    simp only [List.length_singleton] at hok
    intro hne
    exact hne hok)]
   unfold footE
   dsimp only
   unfold D40.pos
   rw [hp.back, if_neg (fun h => h rfl), if_pos]
   unfold Tab.last
   simp only [List.getLast?_append, List.getLast?_singleton, Option.some_or, Option.getD_some, Int.toNat_natCast]
   rw [getD_mem (by simp), List.getElem_append_right (by omega)]
   simp only [Nat.sub_self, List.getElem_singleton]
   exact Prod.ext hl a1
end Go.Proofs.YtkpmmabdpeobaaaGreatDoor.Tb
