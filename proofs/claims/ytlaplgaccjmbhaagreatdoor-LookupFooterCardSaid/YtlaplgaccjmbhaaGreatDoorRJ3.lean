/- Tables by numbers (chapter 45), plain: the drafts of the statements make right tables. No program in sight. What is looked up in the table of some changes, plain: the last change that is not behind, the footer at last; indexes. No program in sight. Tables by numbers (chapter 45), plain: tables that are not right any more; the last transitions alone. No program in sight. What the law LookupSteps asks, plain: up to which change it came, and which instants are looked up. No program in sight. -/
import Derived.Test.YtlaplgaccjmbhaaGreatDoorSG15
import Derived.Test.YtlaplgaccjmbhaaGreatDoorRJ0
import Derived.Test.YtlaplgaccjmbhaaGreatDoorRJO
namespace Go.Proofs.YtlaplgaccjmbhaaGreatDoor.Tb
open Px
/-- the local time before the last of some changes -/
def lastL (b : Lc) : List (Int × Lc) → Lc
  | [] => b
  | x :: r => lastL x.2 r
/-- a last change to another local time than the one before -/
theorem of_end (t : Int) (l : Lc) : ∀ (c : List (Int × Lc)) (ts : List Lc) (xs : List Tr) (b : Lc), l ≠ lastL b c →
    ∃ k : Nat, (ofGo ts xs b (c ++ [(t, l)])).2 = (ofGo ts xs b c).2 ++ [⟨t, (k : Int)⟩] ∧ (ofGo ts xs b (c ++ [(t, l)])).1[k]? = some l
  | [], ts, xs, b, h => by
    have hb : l ≠ b := h
    by_cases hm : l ∈ ts
    · refine ⟨ts.idxOf l, by simp [ofGo, hb, hm], ?_⟩
      have h1 := List.idxOf_lt_length_of_mem hm
      simp only [List.nil_append, ofGo, if_neg hb, if_pos hm]
      rw [List.getElem?_eq_getElem h1, List.getElem_idxOf]
    · exact ⟨ts.length, by simp [ofGo, hb, hm], by simp [ofGo, hb, hm]⟩
  | (u, y) :: r, ts, xs, b, h => by
    rw [List.cons_append]
    by_cases e1 : y = b
    · subst e1
      simp only [ofGo, if_true]
      exact of_end t l r ts xs y h
    · by_cases e2 : y ∈ ts
      · simp only [ofGo, if_neg e1, if_pos e2]
        exact of_end t l r ts _ y h
      · simp only [ofGo, if_neg e1, if_neg e2]
        exact of_end t l r _ _ y h
/-- the table of changes that increase, the last one to what the footer says, is right -/
theorem right_of {p : Pos} {first l : Lc} {g : List (Int × Lc)} {e : Int} (U : List Lc) (hback : finG rfF (printL p) = (p, 0))
    (hat : atL p e = (l, 0)) (hne : l ≠ lastL first g) (hI : Incr none (g ++ [(e, l)])) (hU : U.length ≤ 31) (h1 : first ∈ U) (h2 : ∀ x ∈ g, x.2 ∈ U) (h3 : l ∈ U)
    (hg : ∀ x ∈ U, lcE x = 0 ∧ x.abbr.size ≤ 7) :
    checkE ⟨(ofGo [first] [] first (g ++ [(e, l)])).1, (ofGo [first] [] first (g ++ [(e, l)])).2, printL p⟩ = 0 := by
  obtain ⟨ys, ey, ok⟩ := of_ok (g ++ [(e, l)]) [first] [] first none (by simp) (by simp) hI
  obtain ⟨k, k1, k2⟩ := of_end e l g [first] [] first hne
  obtain ⟨T, hT⟩ : ∃ T, ofGo [first] [] first (g ++ [(e, l)]) = T := ⟨_, rfl⟩
  rw [hT] at ey ok k1 k2 ⊢
  have hsub : ∀ x ∈ T.1, x ∈ U := by
    intro x hx
    rcases ok.sub x hx with h | ⟨u, hu⟩
    · rw [List.mem_singleton] at h
      rw [h]
      exact h1
    · rcases List.mem_append.1 hu with hu | hu
      · exact h2 _ hu
      · rw [List.mem_singleton] at hu
        rw [(Prod.mk.inj hu).2]
        exact h3
  have hlen := nodup_le T.1 U ok.nodup hsub
  have hn0 : T.1 ≠ [] := by
    intro e0
    rw [e0] at k2
    cases k2
  unfold checkE
  rw [if_neg (by
    dsimp only
    rw [typesE_ok (fun x hx => (hg x (hsub x hx)).1) ok.nodup hn0 (by omega) (fun x hx => (hg x (hsub x hx)).2)]
    decide), if_neg (by
    unfold transE
    dsimp only
    have hok := ok.ok
    rw [List.nil_append] at ey
    have h0 : (([first].idxOf first : Nat) : Int) = 0 := by simp
    rw [← ey, h0] at hok
    simp only [List.length_singleton] at hok
    intro hne
    exact hne hok)]
  unfold footE
  dsimp only
  rw [hback, if_neg (fun h => h rfl), if_pos]
  unfold Tab.last
  dsimp only
  rw [k1]
  simp only [List.getLast?_append, List.getLast?_singleton, Option.some_or, Option.getD_some, Int.toNat_natCast]
  rw [hat]
  rw [show T.1.getD k Lc.zero = l by simp [List.getD, k2]]
/-- the table without changes -/
theorem right_none {p : Pos} {l : Lc} (hback : finG rfF (printL p) = (p, 0)) (hat : atL p 0 = (l, 0)) (hg : lcE l = 0 ∧ l.abbr.size ≤ 7) : checkE ⟨[l], [], printL p⟩ = 0 := by
  unfold checkE
  rw [if_neg (by
    dsimp only
    rw [typesE_ok (by intro x hx; rw [List.mem_singleton] at hx; rw [hx]; exact hg.1) (by simp) (by simp) (by simp) (by intro x hx; rw [List.mem_singleton] at hx; rw [hx]; exact hg.2)]
    decide), if_neg (by unfold transE transGo; simp)]
  unfold footE Tab.last
  dsimp only
  rw [hback, if_neg (fun h => h rfl), if_pos]
  exact hat
/-- a draft of a table -/
structure D45 where
  foot : Drf
  first : Int
  gaps : List Int
  kinds : List Int
structure D45.In (d : D45) : Prop where
  fo : d.foot.In
  fi : -2147483648 ≤ d.first ∧ d.first ≤ 2147483647
  ga : ∀ x ∈ d.gaps, 0 ≤ x ∧ x ≤ 65535
  ki : ∀ x ∈ d.kinds, 0 ≤ x ∧ x ≤ 255
/-- a TZ, its offsets cut -/
def cutP (p : Pos) : Pos := ⟨p.std, p.stdOff.tmod 50000, p.dst, if p.dst.toList.isEmpty = true then p.dstOff else p.dstOff.tmod 50000, p.start, p.stop⟩
def D45.pos (d : D45) : Pos := cutP d.foot.made
def cutGood (x : Int) : Bool := secGoodB (-(x.tmod 50000)) && decide ((shortL (-(x.tmod 50000))).length ≤ 9) && decide (-50000 ≤ x.tmod 50000) && decide (x.tmod 50000 ≤ 50000)
theorem cut_all : (List.range 256).all (fun k => cutGood (offN k) && cutGood (offN k + 3600)) = true := by kernel_rfl
theorem cut_last : cutGood 89999 = true := by kernel_rfl
structure CutGood (x : Int) : Prop where
  sec : SecGood (-(x.tmod 50000))
  len : (shortL (-(x.tmod 50000))).length ≤ 9
  b0 : -50000 ≤ x.tmod 50000
  b1 : x.tmod 50000 ≤ 50000
theorem cutGood_iff {x : Int} (h : cutGood x = true) : CutGood x := by
  unfold cutGood at h
  simp only [Bool.and_eq_true, decide_eq_true_eq] at h
  exact ⟨secGood_of h.1.1.1, h.1.1.2, h.1.2, h.2⟩
theorem cut_off {n : Int} (h : U8 n) : CutGood (offN n) ∧ CutGood (offN n + 3600) := by
  unfold U8 at h
  have := List.all_eq_true.1 cut_all n.toNat (by rw [List.mem_range]; omega)
  rw [show ((n.toNat : Nat) : Int) = n by omega] at this
  simp only [Bool.and_eq_true] at this
  exact ⟨cutGood_iff this.1, cutGood_iff this.2⟩
theorem cut_dst {m n : Int} (h1 : U8 m) (h2 : U8 n) : CutGood (dstN m n) := by
  unfold dstN
  split
  · split
    · exact cutGood_iff cut_last
    · exact (cut_off h1).2
  · exact (cut_off h2).1
theorem CutGood.off {x : Int} (h : CutGood x) : offB (x.tmod 50000) = true := by
  have := h.b0
  have := h.b1
  rw [offB_iff]
  omega
/-- what such a TZ is -/
structure Cut (p : Pos) : Prop where
  ok : p.ok = true
  back : finG rfF (printL p) = (p, 0)
  len : (printL p).length ≤ 74
  std : p.std.data.toList ∈ names8
  dst : p.dst.toList.isEmpty = true ∨ p.dst.data.toList ∈ names8
  b0 : -50000 ≤ p.stdOff
  b1 : p.stdOff ≤ 50000
  b2 : -50000 ≤ p.dstOff
  b3 : p.dstOff ≤ 50000
  s0 : p.std.size ≤ 7
  s1 : p.dst.size ≤ 7
  more : (finG rfF (printL p ++ [32])).2 ≠ 0
/-- a string without daylight saving time, with a space behind it -/
theorem std_more {l : List UInt8} {o : Int} (hl : NameGood l) (ho : SecGood (-o)) : (parseG rfF (printL ⟨bs l, o, bs [], 0, Dt.zero, Dt.zero⟩ ++ [32])).b = true := by
  have hp : printL ⟨bs l, o, bs [], 0, Dt.zero, Dt.zero⟩ ++ [32] = quoteL l ++ (shortL (-o) ++ [32]) := by
    unfold printL
    dsimp only
    rw [bs_list, bs_list, if_pos (show ([] : List UInt8).isEmpty = true from rfl)]
    simp
  obtain ⟨a1, a2, a3⟩ := name_back hl (sec_head ho [32]).1
  obtain ⟨b1, b2, b3⟩ := sec_back ho (r := [32]) (hdn_cons _ (by decide))
  have dates : ∀ a o c d l b, b = true → (datesG rfF a o c d l b).b = true := by
    intro a o c d l b hb
    unfold datesG
    dsimp only
    rw [hb]
    simp
  have hn : rfF.db (nmS [32]) = true := by kernel_rfl
  rw [hp]
  unfold parseG
  rw [a2, b2, if_neg (by decide)]
  unfold dstG
  split
  · exact dates _ _ _ _ _ _ (by rw [hn]; simp)
  · exact dates _ _ _ _ _ _ (by rw [hn]; simp)
theorem name_mem (n : Int) : (nameN n).data.toList ∈ names8 := by
  unfold nameN
  rw [bs_list]
  exact names_all (P := fun l => l ∈ names8) (fun _ h => h) n
theorem cut_is (d : Drf) (h : d.In) : Cut (cutP d.made) := by
  have hsec : ∀ k x n, (madeDt k x n).sec = secN n := by
    intro k x n
    unfold madeDt
    split
    · rfl
    · split <;> rfl
  have q1 := (cut_off h.o0).1
  cases hn : d.non
  · have r1 := cut_dst h.o0 h.o1
    have hm : cutP d.made = ⟨bs (nameL8 d.n0), (offN d.o0).tmod 50000, bs (nameL8 d.n1), (dstN d.o0 d.o1).tmod 50000, madeDt d.k0 d.d0 d.s0, madeDt d.k1 d.d1 d.s1⟩ := by
      unfold cutP
      rw [if_neg (by rw [made_ne hn]; decide)]
      unfold Drf.made
      rw [hn, if_neg (by decide)]
      rfl
    have hok : (cutP d.made).ok = true := by
      rw [hm]
      unfold Pos.ok Pos.stdB Pos.dstB
      dsimp only
      rw [show nameOk (bs (nameL8 d.n0)).data.toList = true from name_ok d.n0, show nameOk (bs (nameL8 d.n1)).data.toList = true from name_ok d.n1, q1.off, r1.off, madeDt_ok h.d0 h.s0, madeDt_ok h.d1 h.s1]
      simp
    have g5 := madeDt_ok h.d0 h.s0 (k := d.k0)
    have g7 := madeDt_ok h.d1 h.s1 (k := d.k1)
    have g6 : SecGood (madeDt d.k0 d.d0 d.s0).sec := by rw [hsec]; exact (secN_good _).1
    have g8 : SecGood (madeDt d.k1 d.d1 d.s1).sec := by rw [hsec]; exact (secN_good _).1
    have hlen : (printL (cutP d.made)).length ≤ 74 := by
      rw [hm, print_front (nameGood8 _).ne]
      unfold frontL
      have e1 := quote_len (nameGood8 d.n0).ok
      have e2 := quote_len (nameGood8 d.n1).ok
      have e3 := text_len g5 (by rw [hsec]; exact (secN_good _).2)
      have e4 := text_len g7 (by rw [hsec]; exact (secN_good _).2)
      have e6 := q1.len
      have e5 : (offL ((offN d.o0).tmod 50000) ((dstN d.o0 d.o1).tmod 50000)).length ≤ 9 := by
        unfold offL
        split
        · simp
        · exact r1.len
      simp
      omega
    have hback : finG rfF (printL (cutP d.made)) = (cutP d.made, 0) := by
      unfold finG
      rw [if_neg (by omega)]
      have := parse_back (nameGood8 d.n0) (nameGood8 d.n1) q1.sec r1.sec g5 g6 g7 g8 (r := []) (hdn_nil _) (fun _ => by simp)
      rw [List.append_nil, ← hm] at this
      rw [this]
      unfold Pr.fin Pr.bad
      dsimp only
      rw [hok]
      rfl
    have hmore : (finG rfF (printL (cutP d.made) ++ [32])).2 ≠ 0 := by
      rw [fin_of (by rw [List.length_append]; simp; omega) (.inr (by
        rw [hm, parse_back (nameGood8 d.n0) (nameGood8 d.n1) q1.sec r1.sec g5 g6 g7 g8 (r := [32]) (hdn_cons _ (by decide)) (fun _ => by simp)]
        simp))]
      decide
    refine ⟨hok, hback, hlen, ?_, .inr ?_, ?_, ?_, ?_, ?_, ?_, ?_, hmore⟩
    all_goals rw [hm]
    · exact name_mem d.n0
    · exact name_mem d.n1
    · exact q1.b0
    · exact q1.b1
    · exact r1.b0
    · exact r1.b1
    · exact (name_size d.n0).2
    · exact (name_size d.n1).2
  · have hm : cutP d.made = ⟨bs (nameL8 d.n0), (offN d.o0).tmod 50000, bs [], 0, Dt.zero, Dt.zero⟩ := by
      unfold cutP Drf.made
      rw [hn, if_pos rfl]
      dsimp only
      rw [if_pos (by rw [ByteArray.toList_eq, bs_list]; rfl)]
      rfl
    have hok : (cutP d.made).ok = true := by
      rw [hm]
      unfold Pos.ok Pos.stdB Pos.noneB noneQ
      dsimp only
      rw [show nameOk (bs (nameL8 d.n0)).data.toList = true from name_ok d.n0, q1.off, ByteArray.toList_eq, bs_list]
      rfl
    have hlen : (printL (cutP d.made)).length ≤ 74 := by
      rw [hm]
      unfold printL
      dsimp only
      rw [bs_list, bs_list, if_pos (show ([] : List UInt8).isEmpty = true from rfl)]
      have e1 := quote_len (nameGood8 d.n0).ok
      have e6 := q1.len
      simp
      omega
    have hback : finG rfF (printL (cutP d.made)) = (cutP d.made, 0) := by
      unfold finG
      rw [if_neg (by omega)]
      have := parse_std (nameGood8 d.n0) q1.sec
      rw [← hm] at this
      rw [this]
      unfold Pr.fin Pr.bad
      dsimp only
      rw [hok]
      rfl
    have hmore : (finG rfF (printL (cutP d.made) ++ [32])).2 ≠ 0 := by
      rw [fin_of (by rw [List.length_append]; simp; omega) (.inl (by rw [hm]; exact std_more (nameGood8 d.n0) q1.sec))]
      decide
    refine ⟨hok, hback, hlen, ?_, .inl ?_, ?_, ?_, ?_, ?_, ?_, ?_, hmore⟩
    all_goals rw [hm]
    · exact name_mem d.n0
    · rw [ByteArray.toList_eq, bs_list]; rfl
    · exact q1.b0
    · exact q1.b1
    · exact (by decide : (-50000 : Int) ≤ 0)
    · exact (by decide : (0 : Int) ≤ 50000)
    · exact (name_size d.n0).2
    · exact (by decide : (bs []).size ≤ 7)
theorem names_good : names8.all (fun l => nameOk l) = true := by kernel_rfl
/-- the local time of such a TZ -/
theorem atL_cut {p : Pos} (h : Cut p) {t : Int} (t0 : -36028797018963968 ≤ t) (t1 : t ≤ 36028797018963968) :
    (atL p t).2 = 0 ∧ lcE (atL p t).1 = 0 ∧ (atL p t).1.abbr.data.toList ∈ names8 ∧ (atL p t).1.abbr.size ≤ 7 := by
  have hl : ∀ l : Lc, -50000 ≤ l.off → l.off ≤ 50000 → l.abbr.data.toList ∈ names8 → lcE l = 0 := by
    intro l h1 h2 h3
    unfold lcE
    rw [if_neg (by omega), if_neg (by rw [List.all_eq_true.1 names_good _ h3]; decide)]
  have e1 : ¬ p.ok = false := by rw [h.ok]; decide
  have e2 : ¬ (t < -36028797018963968 ∨ 36028797018963968 < t) := by omega
  unfold atL
  rw [if_neg e1, if_neg e2]
  by_cases e3 : p.dst.toList.isEmpty = true
  · rw [if_pos e3]
    exact ⟨rfl, hl _ h.b0 h.b1 h.std, h.std, h.s0⟩
  · rw [if_neg e3]
    have hd : p.dst.data.toList ∈ names8 := by
      rcases h.dst with h | h
      · exact absurd h e3
      · exact h
    by_cases e4 : (lastP p t).2 = true
    · rw [if_pos e4]
      exact ⟨rfl, hl _ h.b2 h.b3 hd, hd, h.s1⟩
    · rw [if_neg e4]
      exact ⟨rfl, hl _ h.b0 h.b1 h.std, h.std, h.s0⟩
def names3 : List (List UInt8) := [[76, 77, 84], [76, 77, 83, 84], [76, 68, 77, 84]]
/-- a local time by a kind below 3 -/
def kindL (k : Nat) : Lc := ⟨(k : Int) * 1800, decide (k = 1), bs (names3.getD k [])⟩
def firstL : Lc := ⟨59, false, bs [65, 65, 65]⟩
/-- which kind comes at a step -/
def kdN (kinds : List Int) (i : Nat) : Nat := if kinds = [] then i % 3 else (kinds.getD (i % kinds.length) 0).toNat % 3
theorem kdN_lt (kinds : List Int) (i : Nat) : kdN kinds i < 3 := by unfold kdN; split <;> omega
/-- the changes of some gaps -/
def goG (kinds : List Int) : Int → Nat → List Int → List (Int × Lc)
  | _, _, [] => []
  | t, i, s :: r => (t + (1 + s * 3000), kindL (kdN kinds i)) :: goG kinds (t + (1 + s * 3000)) (i + 1) r
/-- all of these but the last one, and the instant of the last one -/
def D45.all (d : D45) : List (Int × Lc) := goG d.kinds (d.first * 1000) 0 (d.gaps.take 30)
def D45.last (d : D45) : Int := (d.all.getLast?.getD (0, Lc.zero)).1
def D45.end_ (d : D45) : Lc := (atL d.pos d.last).1
def D45.fst (d : D45) : Lc := if d.all = [] then (atL d.pos 0).1 else firstL
def D45.chg (d : D45) : List (Int × Lc) := if d.all = [] then [] else d.all.dropLast ++ [(d.last, d.end_)]
def D45.made (d : D45) : Tab := ⟨(ofGo [d.fst] [] d.fst d.chg).1, (ofGo [d.fst] [] d.fst d.chg).2, printL d.pos⟩
theorem goG_len (kinds : List Int) : ∀ (r : List Int) (t : Int) (i : Nat), (goG kinds t i r).length = r.length
  | [], _, _ => rfl
  | s :: r, t, i => by unfold goG; rw [List.length_cons, List.length_cons, goG_len kinds r]
theorem goG_kind (kinds : List Int) : ∀ (r : List Int) (t : Int) (i : Nat) (x : Int × Lc), x ∈ goG kinds t i r → ∃ k, k < 3 ∧ x.2 = kindL k
  | [], _, _, x, h => by simp [goG] at h
  | s :: r, t, i, x, h => by
    unfold goG at h
    rcases List.mem_cons.1 h with rfl | h
    · exact ⟨_, kdN_lt kinds i, rfl⟩
    · exact goG_kind kinds r _ _ x h
theorem goG_incr (kinds : List Int) : ∀ (r : List Int) (t : Int) (i : Nat) (y : Option Int), (∀ x ∈ r, 0 ≤ x ∧ x ≤ 65535) → -2147483648000 ≤ t → t + 196605001 * r.length ≤ 36028797018963968 → (∀ z, y = some z → z ≤ t) → Incr y (goG kinds t i r)
  | [], _, _, _, _, _, _, _ => trivial
  | s :: r, t, i, y, h, h0, h1, hy => by
    have h2 := h s (List.mem_cons_self ..)
    rw [List.length_cons] at h1
    unfold goG
    exact ⟨by omega, by omega, fun z e => by have := hy z e; omega, goG_incr kinds r (t + (1 + s * 3000)) (i + 1) (some (t + (1 + s * 3000))) (fun x hx => h x (List.mem_cons_of_mem _ hx)) (by omega) (by omega) (fun z e => by cases e; omega)⟩
theorem last_ex {α : Type} {l : List α} (h : l ≠ []) : ∃ x, l.getLast? = some x ∧ l.dropLast ++ [x] = l := by
  have e := List.dropLast_concat_getLast h
  refine ⟨l.getLast h, ?_, e⟩
  conv => lhs; rw [← e]
  simp
theorem Incr.init {y : Option Int} : ∀ {c : List (Int × Lc)} {e : Int} {l m : Lc}, Incr y (c ++ [(e, l)]) → Incr y (c ++ [(e, m)])
  | [], _, _, _, h => h
  | (_, _) :: r, _, _, _, h => ⟨h.1, h.2.1, h.2.2.1, Incr.init (c := r) h.2.2.2⟩
theorem Incr.mem {y : Option Int} : ∀ {c : List (Int × Lc)}, Incr y c → ∀ x ∈ c, -36028797018963968 ≤ x.1 ∧ x.1 ≤ 36028797018963968
  | [], _, x, hx => by cases hx
  | (u, z) :: r, h, x, hx => by
    rcases List.mem_cons.1 hx with rfl | hx
    · exact ⟨h.1, h.2.1⟩
    · exact Incr.mem (c := r) h.2.2.2 x hx
theorem last_split {d : D45} (h : d.all ≠ []) : ∃ l, d.all = d.all.dropLast ++ [(d.last, l)] := by
  obtain ⟨x, hx, h1⟩ := last_ex h
  refine ⟨x.2, ?_⟩
  unfold D45.last
  rw [hx, Option.getD_some]
  exact h1.symm
theorem all_incr (d : D45) (h : d.In) : Incr none d.all := by
  have h1 := h.fi
  have h2 : (d.gaps.take 30).length ≤ 30 := by rw [List.length_take]; omega
  exact goG_incr d.kinds (d.gaps.take 30) (d.first * 1000) 0 none (fun x hx => h.ga x (List.mem_of_mem_take hx)) (by omega) (by omega) (fun z e => by cases e)
theorem chg_incr (d : D45) (h : d.In) : Incr none d.chg := by
  unfold D45.chg
  split
  · trivial
  · next hn =>
    obtain ⟨l, hl⟩ := last_split hn
    have := all_incr d h
    rw [hl] at this
    exact this.init
theorem last_bd (d : D45) (h : d.In) : -36028797018963968 ≤ d.last ∧ d.last ≤ 36028797018963968 := by
  by_cases hn : d.all = []
  · unfold D45.last
    rw [hn]
    exact ⟨by decide, by decide⟩
  · obtain ⟨l, hl⟩ := last_split hn
    have := (all_incr d h).mem (d.last, l) (by rw [hl]; simp)
    exact this
theorem names_apart : names8.all (fun l => !names3.contains l && !(l == [65, 65, 65]) && !(l == [90, 90, 90]) && !(l == [78, 79, 78, 69])) = true := by kernel_rfl
theorem name_apart {l : List UInt8} (h : l ∈ names8) : l ∉ names3 ∧ l ≠ [65, 65, 65] ∧ l ≠ [90, 90, 90] ∧ l ≠ [78, 79, 78, 69] := by
  have := List.all_eq_true.1 names_apart l h
  simpa [and_assoc] using this
theorem kind_mem {k : Nat} (h : k < 3) : (kindL k).abbr.data.toList ∈ names3 := by
  unfold kindL
  dsimp only
  rw [bs_list]
  exact getD_of (P := fun l => l ∈ names3) (fun _ h => h) h []
theorem kind_good {k : Nat} (h : k < 3) : lcE (kindL k) = 0 ∧ (kindL k).abbr.size ≤ 7 := by
  rcases (show k = 0 ∨ k = 1 ∨ k = 2 by omega) with rfl | rfl | rfl
  · exact ⟨by kernel_rfl, of_decide_eq_true (by kernel_rfl)⟩
  · exact ⟨by kernel_rfl, of_decide_eq_true (by kernel_rfl)⟩
  · exact ⟨by kernel_rfl, of_decide_eq_true (by kernel_rfl)⟩
/-- the local times that a draft may have -/
def D45.univ (d : D45) : List Lc := [firstL, kindL 0, kindL 1, kindL 2, d.end_]
theorem univ_good (d : D45) (h : d.In) : ∀ x ∈ d.univ, lcE x = 0 ∧ x.abbr.size ≤ 7 := by
  obtain ⟨b0, b1⟩ := last_bd d h
  obtain ⟨_, a2, _, a4⟩ := atL_cut (cut_is d.foot h.fo) b0 b1
  intro x hx
  simp only [D45.univ, List.mem_cons, List.not_mem_nil, or_false] at hx
  rcases hx with rfl | rfl | rfl | rfl | rfl
  · exact ⟨by kernel_rfl, of_decide_eq_true (by kernel_rfl)⟩
  · exact kind_good (by omega)
  · exact kind_good (by omega)
  · exact kind_good (by omega)
  · exact ⟨a2, a4⟩
theorem lastL_mem {U : List Lc} : ∀ (c : List (Int × Lc)) (b : Lc), b ∈ U → (∀ x ∈ c, x.2 ∈ U) → lastL b c ∈ U
  | [], _, hb, _ => hb
  | x :: r, _, _, h => lastL_mem r x.2 (h x (List.mem_cons_self ..)) (fun y hy => h y (List.mem_cons_of_mem _ hy))
theorem all_kind (d : D45) : ∀ x ∈ d.all, ∃ k, k < 3 ∧ x.2 = kindL k := fun x hx => goG_kind _ _ _ _ x hx
theorem drop_kind (d : D45) : ∀ x ∈ d.all.dropLast, x.2 ∈ [firstL, kindL 0, kindL 1, kindL 2] := by
  intro x hx
  obtain ⟨k, hk, e⟩ := all_kind d x (List.dropLast_subset _ hx)
  rw [e]
  rcases (show k = 0 ∨ k = 1 ∨ k = 2 by omega) with rfl | rfl | rfl <;> simp
theorem fst_is {d : D45} (hn : d.all ≠ []) : d.fst = firstL := by unfold D45.fst; rw [if_neg hn]
/-- the last change is to a local time that has not been there -/
theorem end_ne (d : D45) (h : d.In) (hn : d.all ≠ []) : d.end_ ≠ lastL d.fst d.all.dropLast := by
  obtain ⟨b0, b1⟩ := last_bd d h
  obtain ⟨_, _, a3, _⟩ := atL_cut (cut_is d.foot h.fo) b0 b1
  rw [fst_is hn]
  have hm := lastL_mem (U := [firstL, kindL 0, kindL 1, kindL 2]) d.all.dropLast firstL (by simp) (drop_kind d)
  obtain ⟨n1, n2, _, _⟩ := name_apart a3
  intro e
  have he : (atL (cutP d.foot.made) d.last).1 = lastL firstL d.all.dropLast := e
  rw [he] at n1 n2
  simp only [List.mem_cons, List.not_mem_nil, or_false] at hm
  rcases hm with hm | hm | hm | hm
  · rw [hm] at n2; exact n2 (by unfold firstL; rw [bs_list])
  · rw [hm] at n1; exact n1 (kind_mem (by omega))
  · rw [hm] at n1; exact n1 (kind_mem (by omega))
  · rw [hm] at n1; exact n1 (kind_mem (by omega))
/-- the table of a draft is right -/
theorem made45_right (d : D45) (h : d.In) : checkE d.made = 0 := by
  have hc := cut_is d.foot h.fo
  unfold D45.made D45.fst D45.chg
  by_cases hn : d.all = []
  · rw [if_pos hn, if_pos hn]
    obtain ⟨a1, a2, _, a4⟩ := atL_cut hc (t := 0) (by omega) (by omega)
    exact right_none hc.back (Prod.ext rfl a1) ⟨a2, a4⟩
  · rw [if_neg hn, if_neg hn]
    obtain ⟨b0, b1⟩ := last_bd d h
    obtain ⟨a1, a2, a3, a4⟩ := atL_cut hc b0 b1
    have hI := chg_incr d h
    unfold D45.chg at hI
    rw [if_neg hn] at hI
    have hne := end_ne d h hn
    rw [fst_is hn] at hne
    have hg := drop_kind d
    refine right_of d.univ hc.back (Prod.ext rfl a1) hne hI (by simp [D45.univ]) (by simp [D45.univ]) (fun x hx => ?_) (by simp [D45.univ]) (univ_good d h)
    have := hg x hx
    simp only [List.mem_cons, List.not_mem_nil, or_false] at this
    simp only [D45.univ, List.mem_cons, List.not_mem_nil, or_false]
    rcases this with h | h | h | h
    · exact .inl h
    · exact .inr (.inl h)
    · exact .inr (.inr (.inl h))
    · exact .inr (.inr (.inr (.inl h)))
end Go.Proofs.YtlaplgaccjmbhaaGreatDoor.Tb
namespace Go.Proofs.YtlaplgaccjmbhaaGreatDoor.Tb
open Px
/-- the last local time that came, of some changes -/
def inF (y : Int) (w : Lc) : List (Int × Lc) → Lc
  | [] => w
  | x :: r => inF y (if x.1 ≤ y then x.2 else w) r
/-- .. and of some transitions -/
def inT (ts : List Lc) (y : Int) (w : Lc) : List Tr → Lc
  | [] => w
  | x :: r => inT ts y (if x.at' ≤ y then ts.getD x.ty.toNat Lc.zero else w) r
theorem inT_late {ts : List Lc} {y : Int} {w : Lc} : ∀ {c : List Tr}, (∀ x ∈ c, y < x.at') → inT ts y w c = w
  | [], _ => rfl
  | x :: r, h => by
    have h1 := h x (List.mem_cons_self ..)
    unfold inT
    rw [if_neg (by omega)]
    exact inT_late (fun z hz => h z (List.mem_cons_of_mem _ hz))
theorem inF_snoc (y : Int) (x : Int × Lc) : ∀ (c : List (Int × Lc)) (w : Lc), inF y w (c ++ [x]) = if x.1 ≤ y then x.2 else inF y w c
  | [], _ => rfl
  | z :: r, w => by
    rw [List.cons_append]
    unfold inF
    exact inF_snoc y x r _
theorem Incr.late : ∀ {c : List (Int × Lc)} {t : Int}, Incr (some t) c → ∀ x ∈ c, t < x.1
  | [], _, _, x, hx => by cases hx
  | (u, l) :: r, t, h, x, hx => by
    have h1 := h.2.2.1 t rfl
    rcases List.mem_cons.1 hx with rfl | hx
    · exact h1
    · have := Incr.late h.2.2.2 x hx
      omega
theorem prefix_getD {ts ts' : List Lc} (h : ts <+: ts') {k : Nat} {l : Lc} (hk : ts[k]? = some l) : ts'.getD k Lc.zero = l := by
  obtain ⟨u, rfl⟩ := h
  have h1 := (List.getElem?_eq_some_iff.1 hk).1
  rw [List.getD_eq_getElem?_getD, List.getElem?_append_left h1, hk]
  rfl
/-- the transitions of some changes say the same local times -/
theorem of_in (y : Int) : ∀ (c : List (Int × Lc)) (ts : List Lc) (xs : List Tr) (b w : Lc) (last : Option Int), b ∈ ts → Incr last c → (w = b ∨ ∀ x ∈ c, y < x.1) →
    ∃ ys, (ofGo ts xs b c).2 = xs ++ ys ∧ ts <+: (ofGo ts xs b c).1 ∧ inT (ofGo ts xs b c).1 y w ys = inF y w c
  | [], ts, xs, b, w, _, _, _, _ => ⟨[], by simp [ofGo], List.prefix_refl _, rfl⟩
  | (t, l) :: r, ts, xs, b, w, last, hb, ⟨h1, h2, h3, h4⟩, hw => by
    have hlate := Incr.late h4
    obtain ⟨w', hw'⟩ : ∃ w', (if t ≤ y then l else w) = w' := ⟨_, rfl⟩
    have eF : inF y w ((t, l) :: r) = inF y w' r := by rw [← hw']; rfl
    rw [eF]
    have hnext : w' = l ∨ ∀ x ∈ r, y < x.1 := by
      by_cases hy : t ≤ y
      · rw [if_pos hy] at hw'
        exact .inl hw'.symm
      · exact .inr (fun x hx => by have := hlate x hx; omega)
    unfold ofGo
    by_cases e1 : l = b
    · rw [if_pos e1]
      have hww : w' = w := by
        rcases hw with hw | hw
        · rw [← hw', e1, ← hw, ite_self]
        · have := hw (t, l) (List.mem_cons_self ..)
          rw [← hw', if_neg (by dsimp only at this; omega)]
      rw [hww] at hnext ⊢
      rw [e1] at hnext
      exact of_in y r ts xs b w (some t) hb h4 hnext
    · rw [if_neg e1]
      by_cases e2 : l ∈ ts
      · rw [if_pos e2]
        obtain ⟨ys, ey, hp, hi⟩ := of_in y r ts (xs ++ [⟨t, (ts.idxOf l : Nat)⟩]) l w' (some t) e2 h4 hnext
        refine ⟨⟨t, (ts.idxOf l : Nat)⟩ :: ys, by rw [ey]; simp, hp, ?_⟩
        have hk : ts[ts.idxOf l]? = some l := by
          have := List.idxOf_lt_length_of_mem e2
          rw [List.getElem?_eq_getElem this, List.getElem_idxOf]
        unfold inT
        dsimp only
        rw [Int.toNat_natCast, prefix_getD hp hk, hw']
        exact hi
      · rw [if_neg e2]
        obtain ⟨ys, ey, hp, hi⟩ := of_in y r (ts ++ [l]) (xs ++ [⟨t, (ts.length : Nat)⟩]) l w' (some t) (by simp) h4 hnext
        refine ⟨⟨t, (ts.length : Nat)⟩ :: ys, by rw [ey]; simp, (List.prefix_append ts [l]).trans hp, ?_⟩
        have hk : (ts ++ [l])[ts.length]? = some l := by simp
        unfold inT
        dsimp only
        rw [Int.toNat_natCast, prefix_getD hp hk, hw']
        exact hi
theorem idx_zero {t : Int} {l : List Tr} (h : ∀ x ∈ l, t < x.at') : idxT l t = 0 := by
  unfold idxT
  rw [List.length_eq_zero_iff, List.filter_eq_nil_iff]
  intro x hx
  have := h x hx
  simp
  omega
theorem idx_cons {t : Int} {x : Tr} {l : List Tr} (h : x.at' ≤ t) : idxT (x :: l) t = idxT l t + 1 := by
  unfold idxT
  rw [List.filter_cons_of_pos (by simpa using h)]
  rfl
/-- in transitions that increase the index says which one is in force -/
theorem inT_idx (ts : List Lc) (y : Int) : ∀ (l : List Tr) (w : Lc), l.Pairwise (fun a b => a.at' < b.at') →
    inT ts y w l = if idxT l y = 0 then w else ts.getD (l.getD (idxT l y - 1) ⟨0, 0⟩).ty.toNat Lc.zero
  | [], w, _ => rfl
  | x :: r, w, hp => by
    obtain ⟨h1, h2⟩ := List.pairwise_cons.1 hp
    by_cases hx : x.at' ≤ y
    · have ih := inT_idx ts y r (ts.getD x.ty.toNat Lc.zero) h2
      unfold inT
      rw [if_pos hx, ih, idx_cons hx]
      by_cases h0 : idxT r y = 0
      · rw [if_pos h0, if_neg (by omega), h0]
        rfl
      · obtain ⟨m, hm⟩ : ∃ m, idxT r y = m + 1 := ⟨idxT r y - 1, by omega⟩
        rw [if_neg h0, if_neg (by omega), hm, Nat.add_sub_cancel, Nat.add_sub_cancel, List.getD_cons_succ]
    · have hl : ∀ z ∈ x :: r, y < z.at' := by
        intro z hz
        rcases List.mem_cons.1 hz with rfl | hz
        · omega
        · have := h1 z hz
          omega
      rw [idx_zero hl, if_pos rfl, inT_late hl]
/-- what is looked up in a right table -/
theorem look_right {x : Tab} (h : checkE x = 0) {y : Int} (y0 : -36028797018963968 ≤ y) (y1 : y ≤ 36028797018963968) :
    lookL x y = if idxT x.trans y = x.trans.length then atL (finG rfF x.foot).1 y else (inT x.types y (x.types.getD 0 Lc.zero) x.trans, 0) := by
  have hp := (transGo_ok _ _ _ _ (check_zero h).2.1).inc
  have hi : idxE x y = (idxT x.trans y, 0) := idxE_ok h (by omega)
  unfold lookL
  rw [hi, if_neg (fun q => q rfl)]
  dsimp only
  by_cases h1 : idxT x.trans y = x.trans.length
  · rw [if_pos h1, if_pos h1]
  · rw [if_neg h1, if_neg h1, inT_idx _ _ _ _ hp]
    by_cases h2 : idxT x.trans y = 0
    · rw [if_pos h2, if_pos h2]
    · rw [if_neg h2, if_neg h2]
theorem idx_all {l : List Tr} (hp : l.Pairwise (fun a b => a.at' < b.at')) {zs : List Tr} {z : Tr} (h : l = zs ++ [z]) (t : Int) : idxT l t = l.length ↔ z.at' ≤ t := by
  have hz : l[zs.length]? = some z := by rw [h]; simp
  have h1 := idx_first (t := t) hp zs.length z hz
  have h2 := idx_le l t
  have h3 : l.length = zs.length + 1 := by rw [h]; simp
  omega
/-- what is looked up in the table of a draft -/
theorem look_chg (d : D45) (h : d.In) {y : Int} (y0 : -36028797018963968 ≤ y) (y1 : y ≤ 36028797018963968) :
    lookL d.made y = if d.all = [] ∨ d.last ≤ y then atL d.pos y else (inF y d.fst d.chg, 0) := by
  have hr := made45_right d h
  have hp := (transGo_ok _ _ _ _ (check_zero hr).2.1).inc
  rw [look_right hr y0 y1]
  have hb : (finG rfF d.made.foot).1 = d.pos := by
    show (finG rfF (printL d.pos)).1 = d.pos
    unfold D45.pos
    rw [(cut_is d.foot h.fo).back]
  rw [hb]
  obtain ⟨ys, e1, e2, e3⟩ := of_in y d.chg [d.fst] [] d.fst d.fst none (by simp) (chg_incr d h) (.inl rfl)
  rw [List.nil_append] at e1
  have e0 : d.made.types.getD 0 Lc.zero = d.fst := prefix_getD e2 rfl
  have et : d.made.trans = ys := e1
  rw [e0, et, show inT d.made.types y d.fst ys = inF y d.fst d.chg from e3]
  by_cases hn : d.all = []
  · have hc : d.chg = [] := by unfold D45.chg; rw [if_pos hn]
    have hy : ys = [] := by rw [← e1, hc]; rfl
    rw [hy, if_pos (show idxT [] y = ([] : List Tr).length from rfl), if_pos (.inl hn)]
  · have hc : d.chg = d.all.dropLast ++ [(d.last, d.end_)] := by unfold D45.chg; rw [if_neg hn]
    obtain ⟨zs, k, hz⟩ : ∃ zs, ∃ k : Int, ys = zs ++ [⟨d.last, k⟩] := by
      obtain ⟨k, k1, _⟩ := of_end d.last d.end_ d.all.dropLast [d.fst] [] d.fst (end_ne d h hn)
      rw [← hc, e1] at k1
      exact ⟨_, _, k1⟩
    rw [et] at hp
    have := idx_all hp hz y
    dsimp only at this
    by_cases hl : d.last ≤ y
    · rw [if_pos (this.2 hl), if_pos (.inr hl)]
    · rw [if_neg (fun q => hl (this.1 q)), if_neg (fun q => q.elim hn hl)]
/-- indexes grow with instants -/
theorem idx_mono (l : List Tr) {t u : Int} (h : t ≤ u) : idxT l t ≤ idxT l u := by
  induction l with
  | nil => exact Nat.le_refl _
  | cons x r ih =>
    unfold idxT at ih ⊢
    by_cases h1 : x.at' ≤ t
    · rw [List.filter_cons_of_pos (by simpa using h1), List.filter_cons_of_pos (by simp only [decide_eq_true_eq]; omega)]
      simp only [List.length_cons]
      omega
    · rw [List.filter_cons_of_neg (by simpa using h1)]
      by_cases h2 : x.at' ≤ u
      · rw [List.filter_cons_of_pos (by simpa using h2)]
        simp only [List.length_cons]
        omega
      · rw [List.filter_cons_of_neg (by simpa using h2)]
        exact ih
/-- between transitions the local time stays -/
theorem look_same {x : Tab} (h : checkE x = 0) {t u : Int} (t0 : -36028797018963968 ≤ t) (t1 : t ≤ 36028797018963968) (u0 : -36028797018963968 ≤ u) (u1 : u ≤ 36028797018963968)
    (hi : idxT x.trans t = idxT x.trans u) (hl : idxT x.trans t < x.trans.length) : lookL x t = lookL x u := by
  have hp := (transGo_ok _ _ _ _ (check_zero h).2.1).inc
  have h1 : ¬ idxT x.trans t = x.trans.length := by omega
  have h2 : ¬ idxT x.trans u = x.trans.length := by omega
  rw [look_right h t0 t1, look_right h u0 u1, if_neg h1, if_neg h2, inT_idx _ _ _ _ hp, inT_idx _ _ _ _ hp, hi]
theorem look_ok {x : Tab} (h : checkE x = 0) {t : Int} (t0 : -36028797018963968 ≤ t) (t1 : t ≤ 36028797018963968) (hat : (atL (finG rfF x.foot).1 t).2 = 0) : (lookL x t).2 = 0 := by
  rw [look_right h t0 t1]
  split
  · exact hat
  · rfl
/-- the local time at a transition -/
theorem look_trans {x : Tab} (h : checkE x = 0) {i : Nat} {c : Tr} (hc : x.trans[i]? = some c) : lookL x c.at' = (x.types.getD c.ty.toNat Lc.zero, 0) := by
  have hok := transGo_ok _ _ _ _ (check_zero h).2.1
  have hp := hok.inc
  obtain ⟨c0, c1⟩ := hok.rng c (List.mem_of_getElem? hc)
  have hi := (List.getElem?_eq_some_iff.1 hc).1
  have h1 := (idx_first (t := c.at') hp i c hc).1 (Int.le_refl _)
  have h2 := idx_le x.trans c.at'
  have hidx : idxT x.trans c.at' = i + 1 := by
    rcases Nat.lt_or_ge (i + 1) (idxT x.trans c.at') with h3 | h3
    · obtain ⟨z, hz⟩ : ∃ z, x.trans[i + 1]? = some z := ⟨_, List.getElem?_eq_getElem (by omega)⟩
      have h4 := (idx_first (t := c.at') hp (i + 1) z hz).2 h3
      have h5 := List.pairwise_iff_getElem.1 hp i (i + 1) hi (by omega) (by omega)
      rw [(List.getElem?_eq_some_iff.1 hc).2, (List.getElem?_eq_some_iff.1 hz).2] at h5
      omega
    · omega
  rw [look_right h c0 c1, hidx]
  by_cases hl : i + 1 = x.trans.length
  · rw [if_pos hl]
    have hlast : x.last = c := last_of hl.symm hc
    have hf := (check_zero h).2.2
    unfold footE at hf
    rw [foot_zero hf, if_neg (fun q => q rfl)] at hf
    by_cases e : atL (finG rfF x.foot).1 x.last.at' = (x.types.getD x.last.ty.toNat Lc.zero, 0)
    · rw [hlast] at e
      exact e
    · rw [if_neg e] at hf
      cases hf
  · rw [if_neg hl, inT_idx _ _ _ _ hp, hidx, if_neg (by omega), Nat.add_sub_cancel]
    rw [show x.trans.getD i ⟨0, 0⟩ = c by simp [List.getD, hc]]
/-- two transitions one behind the other have different types -/
theorem trans_adj {n : Int} {z : Tr} : ∀ (l : List Tr) (before most : Int) (last : Option Int), transGo n before most last (l ++ [z]) = 0 → z.ty ≠ (l.getLast?.map Tr.ty).getD before
  | [], before, most, last, h => by
    intro e
    unfold transGo at h
    by_cases h1 : z.at' < -36028797018963968 ∨ 36028797018963968 < z.at'
    · rw [List.nil_append] at h
      simp only [] at h
      rw [if_pos h1] at h
      cases h
    · rw [List.nil_append] at h
      simp only [] at h
      rw [if_neg h1] at h
      by_cases h2 : behindQ last z.at' = true
      · rw [if_pos h2] at h; cases h
      rw [if_neg h2, if_pos (.inr (.inr e))] at h
      cases h
  | x :: r, before, most, last, h => by
    rw [List.cons_append] at h
    unfold transGo at h
    by_cases h1 : x.at' < -36028797018963968 ∨ 36028797018963968 < x.at'
    · rw [if_pos h1] at h; cases h
    rw [if_neg h1] at h
    by_cases h2 : behindQ last x.at' = true
    · rw [if_pos h2] at h; cases h
    rw [if_neg h2] at h
    by_cases h3 : x.ty < 0 ∨ n ≤ x.ty ∨ x.ty = before
    · rw [if_pos h3] at h; cases h
    rw [if_neg h3] at h
    by_cases h4 : most + 1 < x.ty
    · rw [if_pos h4] at h; cases h
    rw [if_neg h4] at h
    have ih := trans_adj r _ _ _ h
    cases r with
    | nil => exact ih
    | cons y s =>
      rw [List.getLast?_cons_cons]
      obtain ⟨w, hw, _⟩ := last_ex (l := y :: s) (by simp)
      rw [hw] at ih ⊢
      exact ih
end Go.Proofs.YtlaplgaccjmbhaaGreatDoor.Tb
namespace Go.Proofs.YtlaplgaccjmbhaaGreatDoor.Tb
open Px
theorem check_foot_ne {x : Tab} (h : checkE x = 0) {f : List UInt8} (hf : (finG rfF f).2 ≠ 0) : checkE ⟨x.types, x.trans, f⟩ ≠ 0 := by
  obtain ⟨h1, h2, _⟩ := check_zero h
  unfold checkE
  rw [if_neg (fun q => q h1), if_neg (fun q => q h2)]
  unfold footE
  rw [if_pos hf]
  exact hf
theorem check_types_ne {x : Tab} (h : typesE x.types ≠ 0) : checkE x ≠ 0 := by
  unfold checkE
  rw [if_pos h]
  exact h
theorem check_trans_ne {x : Tab} (h : transE x ≠ 0) : checkE x ≠ 0 := by
  intro h0
  exact h (check_zero h0).2.1
/-- no types -/
theorem spoilt_none (x : Tab) : checkE ⟨[], x.trans, x.foot⟩ ≠ 0 := check_types_ne (by show typesE [] ≠ 0; decide)
/-- a transition more, far behind -/
theorem spoilt_order {x : Tab} (h : checkE x = 0) (h0 : x.trans ≠ []) (k : Int) : checkE ⟨x.types, x.trans ++ [⟨-36028797018963968, k⟩], x.foot⟩ ≠ 0 := by
  refine check_trans_ne (fun hz => ?_)
  obtain ⟨y, hy⟩ := List.exists_mem_of_ne_nil _ h0
  have h1 := (transGo_ok _ _ _ _ (check_zero h).2.1).rng y hy
  have h2 := (transGo_ok _ _ _ _ hz).inc
  have h3 := (List.pairwise_append.1 h2).2.2 y hy ⟨-36028797018963968, k⟩ (by simp)
  dsimp only at h3
  omega
theorem spoilt_first {x : Tab} (h : checkE x = 0) (h0 : x.trans = []) : checkE ⟨x.types, [⟨-36028797018963968, 1⟩], x.foot⟩ ≠ 0 := by
  refine check_trans_ne (fun hz => ?_)
  have h1 : transE x = 0 := (check_zero h).2.1
  unfold transE at h1
  rw [h0] at h1
  unfold transGo at h1
  have h2 := (transGo_ok _ _ _ _ hz).ty ⟨-36028797018963968, 1⟩ (by simp)
  dsimp only at h2
  by_cases e : (0 : Int) + 1 ≠ (x.types.length : Int)
  · rw [if_pos e] at h1; cases h1
  · omega
/-- a first type that is spoilt -/
theorem spoilt_abbr (x : Tab) (l : Lc) (r : List Lc) : checkE ⟨⟨l.off, l.dst, bs [65]⟩ :: r, x.trans, x.foot⟩ ≠ 0 := by
  refine check_types_ne ?_
  show typesE (⟨l.off, l.dst, bs [65]⟩ :: r) ≠ 0
  unfold typesE
  by_cases h1 : (⟨l.off, l.dst, bs [65]⟩ :: r : List Lc).length = 0
  · simp at h1
  rw [if_neg h1]
  split
  · decide
  · have : lcE ⟨l.off, l.dst, bs [65]⟩ ≠ 0 := by
      unfold lcE
      split
      · decide
      · rw [if_pos (by show nameOk (bs [65]).data.toList = false; decide)]
        decide
    unfold typesGo
    rw [if_pos this]
    exact this
theorem trans_count : ∀ (l : List Tr) (n m before most : Int) (last : Option Int), transGo n before most last l = 0 → transGo m before most last l = 0 → n = m
  | [], n, m, before, most, last, h, k => by
    unfold transGo at h k
    by_cases e : most + 1 ≠ n
    · rw [if_pos e] at h; cases h
    by_cases e2 : most + 1 ≠ m
    · rw [if_pos e2] at k; cases k
    omega
  | x :: r, n, m, before, most, last, h, k => by
    unfold transGo at h k
    by_cases h1 : x.at' < -36028797018963968 ∨ 36028797018963968 < x.at'
    · rw [if_pos h1] at h; cases h
    rw [if_neg h1] at h k
    by_cases h2 : behindQ last x.at' = true
    · rw [if_pos h2] at h; cases h
    rw [if_neg h2] at h k
    by_cases h3 : x.ty < 0 ∨ n ≤ x.ty ∨ x.ty = before
    · rw [if_pos h3] at h; cases h
    by_cases h3' : x.ty < 0 ∨ m ≤ x.ty ∨ x.ty = before
    · rw [if_pos h3'] at k; cases k
    rw [if_neg h3] at h
    rw [if_neg h3'] at k
    by_cases h4 : most + 1 < x.ty
    · rw [if_pos h4] at h; cases h
    rw [if_neg h4] at h k
    exact trans_count r n m _ _ _ h k
/-- a type more -/
theorem spoilt_more {x : Tab} (h : checkE x = 0) (l : Lc) : checkE ⟨x.types ++ [l], x.trans, x.foot⟩ ≠ 0 := by
  refine check_trans_ne (fun hz => ?_)
  have h1 : transGo (x.types.length : Int) 0 0 none x.trans = 0 := (check_zero h).2.1
  have h2 : transGo ((x.types ++ [l]).length : Int) 0 0 none x.trans = 0 := hz
  have := trans_count _ _ _ _ _ _ h1 h2
  rw [List.length_append, List.length_singleton] at this
  omega
theorem right_types {x : Tab} (h : checkE x = 0) : ∀ l ∈ x.types, lcE l = 0 ∧ l.abbr.size ≤ 7 := by
  intro l hl
  have h1 := (typesE_zero (check_zero h).1).2.2.2 l hl
  refine ⟨h1, ?_⟩
  unfold lcE at h1
  by_cases h2 : l.off < -54000 ∨ 54000 < l.off
  · rw [if_pos h2] at h1; cases h1
  rw [if_neg h2] at h1
  cases hn : nameOk l.abbr.data.toList
  · rw [hn, if_pos rfl] at h1; cases h1
  · exact nameOk_size hn
theorem lastL_snoc (x : Int × Lc) : ∀ (c : List (Int × Lc)) (b : Lc), lastL b (c ++ [x]) = x.2
  | [], _ => rfl
  | y :: r, _ => lastL_snoc x r y.2
theorem incr_of : ∀ (l : List Tr) (last : Option Int) (f : Tr → Lc), l.Pairwise (fun a b => a.at' < b.at') → (∀ x ∈ l, -36028797018963968 ≤ x.at' ∧ x.at' ≤ 36028797018963968) → (∀ y, last = some y → ∀ x ∈ l, y < x.at') → Incr last (l.map (fun t => (t.at', f t)))
  | [], _, _, _, _, _ => trivial
  | x :: r, last, f, hp, hr, hl => by
    obtain ⟨h1, h2⟩ := List.pairwise_cons.1 hp
    have h3 := hr x (List.mem_cons_self ..)
    exact ⟨h3.1, h3.2, fun y hy => hl y hy x (List.mem_cons_self ..), incr_of r (some x.at') f h2 (fun z hz => hr z (List.mem_cons_of_mem _ hz)) (fun y hy z hz => by cases hy; exact h1 z hz)⟩
def zzzL : Lc := ⟨0, false, bs [90, 90, 90]⟩
theorem types_len (d : D45) (h : d.In) : d.made.types.length ≤ 5 ∧ ∀ x ∈ d.made.types, x.abbr.data.toList ≠ [90, 90, 90] := by
  obtain ⟨ys, _, ok⟩ := of_ok d.chg [d.fst] [] d.fst none (by simp) (by simp) (chg_incr d h)
  have hU : ∀ x ∈ d.made.types, x ∈ (if d.all = [] then [d.fst] else d.univ) := by
    intro x hx
    by_cases hn : d.all = []
    · rw [if_pos hn]
      have hc : d.chg = [] := by unfold D45.chg; rw [if_pos hn]
      have : d.made.types = [d.fst] := by unfold D45.made; rw [hc]; rfl
      rw [this] at hx
      exact hx
    · rw [if_neg hn]
      have hc : d.chg = d.all.dropLast ++ [(d.last, d.end_)] := by unfold D45.chg; rw [if_neg hn]
      rcases ok.sub x hx with h | ⟨u, hu⟩
      · rw [List.mem_singleton, fst_is hn] at h
        rw [h]
        simp [D45.univ]
      · rw [hc] at hu
        rcases List.mem_append.1 hu with hu | hu
        · have := drop_kind d _ hu
          simp only [List.mem_cons, List.not_mem_nil, or_false] at this
          simp only [D45.univ, List.mem_cons, List.not_mem_nil, or_false]
          rcases this with h | h | h | h
          · exact .inl h
          · exact .inr (.inl h)
          · exact .inr (.inr (.inl h))
          · exact .inr (.inr (.inr (.inl h)))
        · rw [List.mem_singleton] at hu
          rw [(Prod.mk.inj hu).2]
          simp [D45.univ]
  have hlen := nodup_le _ _ ok.nodup hU
  have hcut := cut_is d.foot h.fo
  obtain ⟨b0, b1⟩ := last_bd d h
  refine ⟨?_, fun x hx => ?_⟩
  · refine Nat.le_trans hlen ?_
    split
    · exact (by decide : 1 ≤ 5)
    · exact Nat.le_refl 5
  · have hx' := hU x hx
    by_cases hn : d.all = []
    · rw [if_pos hn, List.mem_singleton] at hx'
      rw [hx']
      unfold D45.fst
      rw [if_pos hn]
      exact (name_apart (atL_cut hcut (t := 0) (by omega) (by omega)).2.2.1).2.2.1
    · rw [if_neg hn] at hx'
      simp only [D45.univ, List.mem_cons, List.not_mem_nil, or_false] at hx'
      rcases hx' with rfl | rfl | rfl | rfl | rfl
      · decide
      · decide
      · decide
      · decide
      · exact (name_apart (atL_cut hcut b0 b1).2.2.1).2.2.1
/-- the table of the last transitions of a draft alone is right, and says the same from the last one on -/
theorem foot_alone (d : D45) (h : d.In) {k : Nat} (hk : k < d.made.trans.length) {c : List (Int × Lc)} (hc : c = (d.made.trans.drop k).map (fun t => (t.at', d.made.types.getD t.ty.toNat Lc.zero))) :
    checkE ⟨(ofGo [zzzL] [] zzzL c).1, (ofGo [zzzL] [] zzzL c).2, printL d.pos⟩ = 0 ∧
    ∀ t, d.made.last.at' ≤ t → t ≤ 36028797018963968 → lookL ⟨(ofGo [zzzL] [] zzzL c).1, (ofGo [zzzL] [] zzzL c).2, printL d.pos⟩ t = atL d.pos t := by
  have hr := made45_right d h
  obtain ⟨hty, htr, hft⟩ := check_zero hr
  have hback := (cut_is d.foot h.fo).back
  obtain ⟨hn, hz⟩ := types_len d h
  have hgood := right_types hr
  have htok := transGo_ok _ _ _ _ htr
  obtain ⟨X, hX⟩ : ∃ X, d.made = X := ⟨_, rfl⟩
  have hXf : X.foot = printL d.pos := by rw [← hX]; rfl
  rw [hX] at hk hc hr hty htr hft hn hz hgood htok ⊢
  have hne : X.trans ≠ [] := fun e => by rw [e] at hk; simp at hk
  obtain ⟨zs, q, hzs⟩ : ∃ zs q, X.trans = zs ++ [q] := by
    obtain ⟨q, _, hq⟩ := last_ex hne
    exact ⟨X.trans.dropLast, q, hq.symm⟩
  have hlast : X.last = q := by unfold Tab.last; rw [hzs]; simp
  have hkz : k ≤ zs.length := by rw [hzs] at hk; simp at hk; omega
  obtain ⟨l, hl⟩ : ∃ l, X.types.getD q.ty.toNat Lc.zero = l := ⟨_, rfl⟩
  obtain ⟨g, hg⟩ : ∃ g, (zs.drop k).map (fun t => (t.at', X.types.getD t.ty.toNat Lc.zero)) = g := ⟨_, rfl⟩
  have hcg : c = g ++ [(q.at', l)] := by rw [hc, hzs, List.drop_append_of_le_length hkz, List.map_append, hg, ← hl]; rfl
  have hfoot : finG rfF X.foot = (d.pos, 0) := by rw [hXf]; exact hback
  have hat : atL d.pos q.at' = (l, 0) := by
    unfold footE at hft
    rw [hfoot, if_neg (fun h => h rfl), hlast, hl] at hft
    by_cases e : atL (d.pos, (0 : Int)).1 q.at' = (l, 0)
    · exact e
    · rw [if_neg e] at hft; cases hft
  have hqm : q ∈ X.trans := by rw [hzs]; simp
  have hmem : ∀ t ∈ X.trans, X.types.getD t.ty.toNat Lc.zero ∈ X.types := by
    intro t ht
    have := htok.ty t ht
    rw [getD_mem (show t.ty.toNat < X.types.length by omega)]
    exact List.getElem_mem _
  have hlm : l ∈ X.types := by rw [← hl]; exact hmem q hqm
  have hnd := (typesE_zero hty).2.2.1
  have hne2 : l ≠ lastL zzzL g := by
    rcases List.eq_nil_or_concat (zs.drop k) with e | ⟨m, r, e⟩
    · rw [← hg, e]
      intro h2
      exact hz l hlm (by rw [h2]; exact (by decide : zzzL.abbr.data.toList = [90, 90, 90]))
    · rw [List.concat_eq_append] at e
      rw [← hg, e, List.map_append, List.map_singleton, lastL_snoc]
      have hrm : r ∈ X.trans := by
        rw [hzs]
        exact List.mem_append_left _ (List.mem_of_mem_drop (by rw [e]; simp))
      have hrl : zs.getLast? = some r := by
        have h1 : (zs.drop k).getLast? = some r := by rw [e]; simp
        rw [List.getLast?_drop] at h1
        split at h1
        · cases h1
        · exact h1
      have htr2 : transGo (X.types.length : Int) 0 0 none (zs ++ [q]) = 0 := by rw [← hzs]; exact htr
      have hadj := trans_adj zs 0 0 none htr2
      rw [hrl] at hadj
      have hq0 := htok.ty q hqm
      have hr0 := htok.ty r hrm
      rw [← hl]
      dsimp only
      rw [getD_mem (show q.ty.toNat < X.types.length by omega), getD_mem (show r.ty.toNat < X.types.length by omega)]
      intro e2
      have := (List.getElem_inj hnd).1 e2
      have h3 : q.ty ≠ r.ty := hadj
      omega
  have hI : Incr none (g ++ [(q.at', l)]) := by
    rw [← hcg, hc]
    refine incr_of _ _ _ (htok.inc.sublist (List.drop_sublist _ _)) (fun x hx => htok.rng x (List.mem_of_mem_drop hx)) (fun y hy => by cases hy)
  have hck : checkE ⟨(ofGo [zzzL] [] zzzL c).1, (ofGo [zzzL] [] zzzL c).2, printL d.pos⟩ = 0 := by
    rw [hcg]
    refine right_of (zzzL :: X.types) hback hat hne2 hI (by rw [List.length_cons]; omega) (List.mem_cons_self ..) (fun x hx => ?_) (List.mem_cons_of_mem _ hlm) (fun x hx => ?_)
    · rw [← hg] at hx
      obtain ⟨t, ht, rfl⟩ := List.mem_map.1 hx
      exact List.mem_cons_of_mem _ (hmem t (by rw [hzs]; exact List.mem_append_left _ (List.mem_of_mem_drop ht)))
    · rcases List.mem_cons.1 hx with rfl | hx
      · exact ⟨by kernel_rfl, of_decide_eq_true (by kernel_rfl)⟩
      · exact hgood x hx
  refine ⟨hck, fun t t0 t1 => ?_⟩
  have hrng := htok.rng q hqm
  rw [hlast] at t0
  rw [look_right hck (by omega) t1]
  obtain ⟨kk, k1, _⟩ := of_end q.at' l g [zzzL] [] zzzL hne2
  rw [← hcg] at k1
  have hp := (transGo_ok _ _ _ _ (check_zero hck).2.1).inc
  rw [if_pos ((idx_all hp k1 t).2 t0)]
  dsimp only
  rw [show finG rfF (printL d.pos) = (d.pos, 0) from hback]
/-- from the last transition on -/
theorem foot_self (d : D45) (h : d.In) {t : Int} (t0 : d.made.trans = [] ∨ d.made.last.at' ≤ t) (t1 : -36028797018963968 ≤ t) (t2 : t ≤ 36028797018963968) : lookL d.made t = atL d.pos t := by
  have hr := made45_right d h
  have hp := (transGo_ok _ _ _ _ (check_zero hr).2.1).inc
  rw [look_right hr t1 t2]
  have hf : finG rfF d.made.foot = (d.pos, 0) := (cut_is d.foot h.fo).back
  rw [hf]
  rw [if_pos]
  by_cases hn : d.made.trans = []
  · rw [hn]; rfl
  · obtain ⟨q, hq, hs0⟩ := last_ex hn
    have hs := hs0.symm
    have hlast : d.made.last = q := by unfold Tab.last; rw [hq]; rfl
    rw [hlast] at t0
    exact (idx_all hp hs t).2 (t0.resolve_left hn)
/-- the table without changes -/
theorem foot_none (d : D45) (h : d.In) {t : Int} (t1 : -36028797018963968 ≤ t) (t2 : t ≤ 36028797018963968) : checkE ⟨[(atL d.pos 0).1], [], printL d.pos⟩ = 0 ∧ lookL ⟨[(atL d.pos 0).1], [], printL d.pos⟩ t = atL d.pos t := by
  have hc := cut_is d.foot h.fo
  obtain ⟨a1, a2, _, a4⟩ := atL_cut hc (t := 0) (by omega) (by omega)
  have hck : checkE ⟨[(atL d.pos 0).1], [], printL d.pos⟩ = 0 := right_none hc.back (Prod.ext rfl a1) ⟨a2, a4⟩
  refine ⟨hck, ?_⟩
  rw [look_right hck t1 t2]
  dsimp only
  rw [show finG rfF (printL d.pos) = (d.pos, 0) from hc.back]
  rfl
end Go.Proofs.YtlaplgaccjmbhaaGreatDoor.Tb
namespace Go.Proofs.YtlaplgaccjmbhaaGreatDoor.Tb
open Px
/-- one more than the index of the last change that is not behind -/
def nF (y : Int) : Nat → Nat → List (Int × Lc) → Nat
  | _, n, [] => n
  | i, n, x :: r => nF y (i + 1) (if x.1 ≤ y then i + 1 else n) r
theorem nF_snoc (y : Int) (x : Int × Lc) : ∀ (c : List (Int × Lc)) (i n : Nat), nF y i n (c ++ [x]) = if x.1 ≤ y then i + c.length + 1 else nF y i n c
  | [], i, n => rfl
  | z :: r, i, n => by
    rw [List.cons_append]
    unfold nF
    rw [nF_snoc y x r, List.length_cons]
    split
    · omega
    · rfl
theorem nF_le (y : Int) : ∀ (c : List (Int × Lc)) (i n : Nat), n ≤ i → nF y i n c ≤ i + c.length
  | [], i, n, h => by unfold nF; simpa using h
  | z :: r, i, n, h => by
    unfold nF
    have := nF_le y r (i + 1) (if z.1 ≤ y then i + 1 else n) (by split <;> omega)
    rw [List.length_cons]
    omega
theorem steps_look (d : D45) (h : d.In) {y : Int} (y0 : -36028797018963968 ≤ y) (y1 : y ≤ 36028797018963968) :
    lookL d.made y = if nF y 0 0 d.chg = d.chg.length then atL d.pos y else (inF y d.fst d.chg, 0) := by
  rw [look_chg d h y0 y1]
  by_cases hn : d.all = []
  · have hc : d.chg = [] := by unfold D45.chg; rw [if_pos hn]
    rw [hc, if_pos (.inl hn), if_pos (show nF y 0 0 [] = ([] : List (Int × Lc)).length from rfl)]
  · have hc : d.chg = d.all.dropLast ++ [(d.last, d.end_)] := by unfold D45.chg; rw [if_neg hn]
    have hl : d.chg.length = d.all.dropLast.length + 1 := by rw [hc, List.length_append, List.length_singleton]
    have hs : nF y 0 0 d.chg = if d.last ≤ y then 0 + d.all.dropLast.length + 1 else nF y 0 0 d.all.dropLast := by rw [hc, nF_snoc]
    have hle := nF_le y d.all.dropLast 0 0 (Nat.le_refl 0)
    by_cases hy : d.last ≤ y
    · rw [if_pos hy] at hs
      rw [if_pos (.inr hy), if_pos (by omega)]
    · rw [if_neg hy] at hs
      rw [if_neg (fun q => q.elim hn hy), if_neg (by omega)]
theorem goG_bd (ks : List Int) : ∀ (r : List Int) (t : Int) (i : Nat), (∀ x ∈ r, 0 ≤ x ∧ x ≤ 65535) → ∀ x ∈ goG ks t i r, t + 1 ≤ x.1 ∧ x.1 ≤ t + 196605001 * r.length
  | [], _, _, _, x, hx => by simp [goG] at hx
  | s :: r, t, i, h, x, hx => by
    have h2 := h s (List.mem_cons_self ..)
    rw [List.length_cons]
    unfold goG at hx
    rcases List.mem_cons.1 hx with rfl | hx
    · dsimp only
      have : (0 : Int) ≤ (r.length : Int) := by omega
      constructor <;> omega
    · have := goG_bd ks r _ _ (fun x hx => h x (List.mem_cons_of_mem _ hx)) x hx
      omega
theorem chg_bd (d : D45) (h : d.In) : ∀ x ∈ d.chg, -2147483648000 ≤ x.1 - 1 ∧ x.1 + 1 ≤ 9000000000000 := by
  have hf := h.fi
  have hl : (d.gaps.take 30).length ≤ 30 := by rw [List.length_take]; omega
  have hall : ∀ x ∈ d.all, -2147483648000 ≤ x.1 - 1 ∧ x.1 + 1 ≤ 9000000000000 := by
    intro x hx
    have := goG_bd d.kinds (d.gaps.take 30) (d.first * 1000) 0 (fun x hx => h.ga x (List.mem_of_mem_take hx)) x hx
    omega
  intro x hx
  unfold D45.chg at hx
  split at hx
  · cases hx
  · next hn =>
    rcases List.mem_append.1 hx with hx | hx
    · exact hall x (List.dropLast_subset _ hx)
    · rw [List.mem_singleton] at hx
      obtain ⟨l, hl⟩ := last_split hn
      have := hall (d.last, l) (by rw [hl]; simp)
      rw [hx]
      exact this
/-- the instants that are looked up -/
def insts (t : Int) (c : List (Int × Lc)) : List Int := [t, -36028797018963968, 36028797018963968, 0] ++ c.flatMap (fun x => [x.1 - 1, x.1, x.1 + 1])
theorem insts_snoc (t : Int) (c : List (Int × Lc)) (x : Int × Lc) : insts t (c ++ [x]) = insts t c ++ [x.1 - 1, x.1, x.1 + 1] := by unfold insts; simp
theorem insts_len (t : Int) : ∀ c : List (Int × Lc), (insts t c).length = 4 + c.length * 3 := by
  intro c
  unfold insts
  rw [List.length_append]
  have : ∀ c : List (Int × Lc), (c.flatMap (fun x => [x.1 - 1, x.1, x.1 + 1])).length = c.length * 3 := by
    intro c
    induction c with
    | nil => rfl
    | cons x r ih => rw [List.flatMap_cons, List.length_append, ih, List.length_cons]; simp; omega
  rw [this]
  rfl
theorem insts_bd (d : D45) (h : d.In) {t : Int} (t0 : -36028797018963968 ≤ t) (t1 : t ≤ 36028797018963968) : ∀ y ∈ insts t d.chg, -36028797018963968 ≤ y ∧ y ≤ 36028797018963968 := by
  intro y hy
  unfold insts at hy
  rcases List.mem_append.1 hy with hy | hy
  · simp only [List.mem_cons, List.not_mem_nil, or_false] at hy
    omega
  · obtain ⟨x, hx, hy⟩ := List.mem_flatMap.1 hy
    have := chg_bd d h x hx
    simp only [List.mem_cons, List.not_mem_nil, or_false] at hy
    omega
end Go.Proofs.YtlaplgaccjmbhaaGreatDoor.Tb

