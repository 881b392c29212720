/- The string of a right TZ is read as this TZ, plain; with more behind it, it is read as far. No program in sight. -/
import Derived.Test.YtgllbagmmpicaaaGreatDoorPmP
namespace Go.Proofs.YtgllbagmmpicaaaGreatDoor.Px
open Go.RowKit
open Civ
open Off (run past digQ valD parseO dec)

/-- what is behind is not read on -/
def Hdn (q : UInt8 → Bool) (r : List UInt8) : Prop := ∀ c, r.head? = some c → q c = false
theorem hdn_nil (q : UInt8 → Bool) : Hdn q [] := fun c h => by cases h
theorem hdn_cons {q : UInt8 → Bool} {c : UInt8} (r : List UInt8) (h : q c = false) : Hdn q (c :: r) := fun x hx => by
  rw [List.head?_cons] at hx; cases hx; exact h
theorem run_app {q : UInt8 → Bool} {r : List UInt8} (hr : Hdn q r) : ∀ l : List UInt8, l.all q = true → run q (l ++ r) = l ∧ past q (l ++ r) = r
  | [], _ => by
    rw [List.nil_append]
    unfold run past
    cases r with
    | nil => exact ⟨rfl, rfl⟩
    | cons c r =>
      have := hr c rfl
      rw [List.takeWhile_cons_of_neg (by rw [this]; decide), List.dropWhile_cons_of_neg (by rw [this]; decide)]
      exact ⟨rfl, rfl⟩
  | a :: l, h => by
    rw [List.all_cons, Bool.and_eq_true] at h
    obtain ⟨i1, i2⟩ := run_app hr l h.2
    unfold run past at *
    rw [List.cons_append, List.takeWhile_cons_of_pos h.1, List.dropWhile_cons_of_pos h.1, i1, i2]
    exact ⟨rfl, rfl⟩
theorem next_yes (c : UInt8) (l : List UInt8) : nextB c (c :: l) = true := by unfold nextB; simp
theorem next_no {c : UInt8} {l : List UInt8} (h : l.head? ≠ some c) : nextB c l = false := by
  unfold nextB
  rw [beq_eq_false_iff_ne]
  exact h
theorem nextR_yes (c : UInt8) (l : List UInt8) : nextR c (c :: l) = l := by unfold nextR; rw [next_yes, if_pos rfl]; rfl
theorem nextR_no {c : UInt8} {l : List UInt8} (h : l.head? ≠ some c) : nextR c l = l := by unfold nextR; rw [next_no h, if_neg (by decide)]
theorem head_app {l r : List UInt8} (h : l ≠ []) : (l ++ r).head? = l.head? := by
  obtain ⟨a, t, rfl⟩ := List.exists_cons_of_ne_nil h
  rfl
/-- a name that can be printed and read -/
structure NameGood (l : List UInt8) : Prop where
  ne : l ≠ []
  ok : nameOk l = true
  inn : l.all inB = true
  first : l.all letC = true → l.head? ≠ some 60
  lets : l.all letC = true → ∀ c, l.head? = some c → secQ c = false
theorem nameGood8 (n : Int) : NameGood (nameL8 n) := by
  have h := names_all (P := fun l => l ≠ [] ∧ nameOk l = true ∧ l.all inB = true ∧ l.head? ≠ some 60 ∧ (l.all letC = true → (l.head?.map secQ) = some false)) (by decide) n
  exact ⟨h.1, h.2.1, h.2.2.1, fun _ => h.2.2.2.1, fun hl c hc => by
    have := h.2.2.2.2 hl
    rw [hc] at this
    exact Option.some.inj this⟩
theorem name_back {l : List UInt8} (h : NameGood l) {r : List UInt8} (hr : Hdn letC r) : nmS (quoteL l ++ r) = l ∧ nmR (quoteL l ++ r) = r ∧ nmB (quoteL l ++ r) = false := by
  unfold quoteL
  by_cases hl : l.all letC = true
  · rw [if_pos hl]
    have h1 : (l ++ r).head? ≠ some 60 := by rw [head_app h.ne]; exact h.first hl
    obtain ⟨a, b⟩ := run_app hr l hl
    unfold nmS nmR nmB nmT nmP
    rw [next_no h1, if_neg (by decide), if_neg (by decide), nextR_no h1]
    exact ⟨a, b, rfl⟩
  · rw [if_neg hl, show (60 :: l ++ [62] : List UInt8) ++ r = 60 :: (l ++ 62 :: r) by simp]
    obtain ⟨a, b⟩ := run_app (q := inB) (hdn_cons (c := 62) r (by decide)) l h.inn
    unfold nmS nmR nmB nmT nmP
    rw [next_yes, if_pos rfl, if_pos rfl, nextR_yes, b, nextR_yes, next_yes]
    exact ⟨a, rfl, rfl⟩
/-- an amount of time that can be printed and read -/
structure SecGood (x : Int) : Prop where
  all : (shortL x).all secQ = true
  val : parseO (shortL x) = (x, 0)
def secGoodB (x : Int) : Bool := (shortL x).all secQ && decide (parseO (shortL x) = (x, 0))
theorem secGood_of {x : Int} (h : secGoodB x = true) : SecGood x := by
  unfold secGoodB at h
  rw [Bool.and_eq_true, decide_eq_true_eq] at h
  exact ⟨h.1, h.2⟩
theorem off_all : (List.range 256).all (fun k => secGoodB (-offN k) && secGoodB (-(offN k + 3600)) && decide ((shortL (-offN k)).length ≤ 9) && decide ((shortL (-(offN k + 3600))).length ≤ 9)) = true := by kernel_rfl
theorem off_good {n : Int} (h : U8 n) : SecGood (-offN n) ∧ SecGood (-(offN n + 3600)) ∧ (shortL (-offN n)).length ≤ 9 ∧ (shortL (-(offN n + 3600))).length ≤ 9 := by
  unfold U8 at h
  have := List.all_eq_true.1 off_all n.toNat (by rw [List.mem_range]; omega)
  rw [show ((n.toNat : Nat) : Int) = n by omega] at this
  simp only [Bool.and_eq_true, decide_eq_true_eq] at this
  exact ⟨secGood_of this.1.1.1, secGood_of this.1.1.2, this.1.2, this.2⟩
theorem dst_good {m n : Int} (h1 : U8 m) (h2 : U8 n) : SecGood (-dstN m n) ∧ (shortL (-dstN m n)).length ≤ 9 := by
  unfold dstN
  obtain ⟨a, b, c, d⟩ := off_good h1
  obtain ⟨e, _, f, _⟩ := off_good h2
  split
  · split
    · exact ⟨secGood_of (by kernel_rfl), by decide⟩
    · exact ⟨b, d⟩
  · exact ⟨e, f⟩
theorem secN_good (n : Int) : SecGood (secN n) ∧ (shortL (secN n)).length ≤ 10 := by
  have := secs_all (P := fun x => secGoodB x = true ∧ (shortL x).length ≤ 10) (by decide) n
  exact ⟨secGood_of this.1, this.2⟩
theorem SecGood.ne {x : Int} (h : SecGood x) : shortL x ≠ [] := by
  intro e
  have := h.val
  rw [e, show parseO [] = (0, 5) from by kernel_rfl] at this
  cases this
theorem sec_back {x : Int} (h : SecGood x) {r : List UInt8} (hr : Hdn secQ r) : scV (shortL x ++ r) = x ∧ scR (shortL x ++ r) = r ∧ scB (shortL x ++ r) = false := by
  obtain ⟨a, b⟩ := run_app hr _ h.all
  unfold scV scR scB
  rw [a, b, h.val]
  exact ⟨rfl, rfl, by simp⟩
theorem sec_byte (c : UInt8) : secQ c = true → letC c = false ∧ c ≠ 44 ∧ c ≠ 62 := of_decide_eq_true (every_byte (fun c => decide (secQ c = true → letC c = false ∧ c ≠ 44 ∧ c ≠ 62)) (by kernel_rfl) c)
theorem dig_sec {c : UInt8} (h : secQ c = false) : digQ c = false := by
  unfold secQ at h
  simp only [Bool.or_eq_false_iff] at h
  exact h.2
theorem sec_head {x : Int} (h : SecGood x) (r : List UInt8) : Hdn letC (shortL x ++ r) ∧ (shortL x ++ r).head? ≠ some 44 := by
  obtain ⟨a, t, e⟩ := List.exists_cons_of_ne_nil h.ne
  have ha := h.all
  rw [e, List.all_cons, Bool.and_eq_true] at ha
  obtain ⟨b1, b2, _⟩ := sec_byte a ha.1
  rw [e]
  refine ⟨hdn_cons _ b1, ?_⟩
  intro hh
  rw [List.cons_append, List.head?_cons] at hh
  exact b2 (Option.some.inj hh)
theorem quote_head {l : List UInt8} (h : NameGood l) (r : List UInt8) : Hdn secQ (quoteL l ++ r) ∧ quoteL l ++ r ≠ [] := by
  unfold quoteL
  by_cases hl : l.all letC = true
  · rw [if_pos hl]
    refine ⟨fun c hc => ?_, by simp [h.ne]⟩
    rw [head_app h.ne] at hc
    exact h.lets hl c hc
  · rw [if_neg hl]
    exact ⟨hdn_cons _ (by decide), by simp⟩
theorem num_all : (List.range 400).all (fun k => !refB (dec k) && decide (valD (dec k) = k)) = true := by kernel_rfl
theorem num_back {k : Nat} (hk : k < 400) {r : List UInt8} (hr : Hdn digQ r) : rfF.v (dec k ++ r) = k ∧ rfF.b (dec k ++ r) = false ∧ nuR (dec k ++ r) = r := by
  obtain ⟨a, b⟩ := run_app hr _ (dec_all k (by omega))
  have := List.all_eq_true.1 num_all k (by rw [List.mem_range]; omega)
  simp only [Bool.and_eq_true, decide_eq_true_eq, Bool.not_eq_true'] at this
  unfold Fl.v Fl.b nuS nuR rfF
  dsimp only
  unfold refV
  rw [a, b, this.1, if_neg (by decide), this.2]
  exact ⟨rfl, rfl, rfl⟩
def timeL (s : Int) : List UInt8 := if s = 7200 then [] else 47 :: shortL s
theorem time_back {s : Int} (hs : SecGood s) {r : List UInt8} (hr : Hdn secQ r) (h47 : s = 7200 → r.head? ≠ some 47) (k d m w : Int) (b : Bool) :
    timeG k d m w (timeL s ++ r) b = ⟨⟨k, d, m, w, s⟩, r, b⟩ := by
  unfold timeG timeL
  by_cases h : s = 7200
  · rw [if_pos h, List.nil_append, next_no (h47 h), if_neg (by decide), h]
  · rw [if_neg h, List.cons_append, next_yes, if_pos rfl, List.drop_one, List.tail_cons]
    obtain ⟨a, b, c⟩ := sec_back hs hr
    rw [a, b, c, Bool.or_false]
theorem time_head (s : Int) {r : List UInt8} (hr : Hdn secQ r) : Hdn digQ (timeL s ++ r) := by
  unfold timeL
  split
  · exact fun c hc => dig_sec (hr c hc)
  · exact hdn_cons _ (by decide)
theorem dec_ne (n : Nat) (h : n < 400) : dec n ≠ [] := by
  have := (dec_digits n).2.1
  rwa [Off.dec_lib (by omega)] at this
theorem dec_head {n : Nat} (h : n < 400) {c : UInt8} (hc : digQ c = false) (r : List UInt8) : (dec n ++ r).head? ≠ some c := by
  obtain ⟨a, t, e⟩ := List.exists_cons_of_ne_nil (dec_ne n h)
  have ha := dec_all n (by omega)
  rw [e, List.all_cons, Bool.and_eq_true] at ha
  rw [e, List.cons_append, List.head?_cons]
  intro hh
  rw [Option.some.inj hh, hc] at ha
  cases ha.1
theorem text_split (d : Dt) (r : List UInt8) : textL d ++ r =
    if d.kind = 1 then 74 :: (dec d.day.toNat ++ (timeL d.sec ++ r)) else if d.kind = 3 then 77 :: (dec d.month.toNat ++ 46 :: (dec d.week.toNat ++ 46 :: (dec d.day.toNat ++ (timeL d.sec ++ r)))) else dec d.day.toNat ++ (timeL d.sec ++ r) := by
  unfold textL
  rw [show (if d.sec = 7200 then [] else 47 :: shortL d.sec) = timeL d.sec from rfl]
  split
  · simp
  · split
    · simp
    · simp
/-- a date, up to its time -/
theorem date_time {d : Dt} (h : d.ok = true) {r : List UInt8} (hr : Hdn digQ (timeL d.sec ++ r)) :
    dateG rfF (textL d ++ r) = timeG d.kind d.day d.month d.week (timeL d.sec ++ r) false := by
  rw [text_split]
  obtain ⟨k, dd, m, w, s⟩ := d
  rw [Dt.ok_iff] at h
  dsimp only at h hr ⊢
  obtain ⟨_, ⟨rfl, h1, h2, rfl, rfl⟩ | ⟨rfl, h1, h2, rfl, rfl⟩ | ⟨rfl, h1, h2, h3, h4, h5, h6⟩⟩ := h
  · rw [if_pos rfl]
    obtain ⟨a, b, c⟩ := num_back (k := dd.toNat) (by omega) hr
    unfold dateG headG
    rw [next_yes, if_pos rfl, List.drop_one, List.tail_cons]
    dsimp only
    rw [a, b, c, show ((dd.toNat : Nat) : Int) = dd by omega]
    rfl
  · rw [if_neg (by decide), if_neg (by decide)]
    obtain ⟨a, b, c⟩ := num_back (k := dd.toNat) (by omega) hr
    unfold dateG headG
    rw [next_no (dec_head (by omega) (by decide) _), if_neg (by decide), next_no (dec_head (by omega) (by decide) _), if_neg (by decide)]
    dsimp only
    rw [a, b, c, show ((dd.toNat : Nat) : Int) = dd by omega]
    rfl
  · rw [if_neg (by decide), if_pos rfl]
    obtain ⟨a, b, c⟩ := num_back (k := dd.toNat) (by omega) hr
    obtain ⟨a1, b1, c1⟩ := num_back (k := w.toNat) (by omega) (hdn_cons (q := digQ) (c := 46) (dec dd.toNat ++ (timeL s ++ r)) (by decide))
    obtain ⟨a2, b2, c2⟩ := num_back (k := m.toNat) (by omega) (hdn_cons (q := digQ) (c := 46) (dec w.toNat ++ 46 :: (dec dd.toNat ++ (timeL s ++ r))) (by decide))
    unfold dateG headG
    rw [next_no (by rw [List.head?_cons]; decide), if_neg (by decide), next_yes, if_pos rfl, List.drop_one, List.tail_cons]
    dsimp only
    rw [c2, nextR_yes, c1, nextR_yes, next_yes, next_yes, a, b, c, a1, b1, a2, b2, show ((dd.toNat : Nat) : Int) = dd by omega, show ((w.toNat : Nat) : Int) = w by omega, show ((m.toNat : Nat) : Int) = m by omega]
    rfl
theorem date_back {d : Dt} (h : d.ok = true) (hs : SecGood d.sec) {r : List UInt8} (hr : Hdn secQ r) (h47 : d.sec = 7200 → r.head? ≠ some 47) : dateG rfF (textL d ++ r) = ⟨d, r, false⟩ := by
  rw [date_time h (time_head _ hr), time_back hs hr h47]
/-- a date with a slash behind it -/
theorem date_slash {d : Dt} (h : d.ok = true) (hs : SecGood d.sec) : (dateG rfF (textL d ++ [47])).b = true ∨ (dateG rfF (textL d ++ [47])).l ≠ [] := by
  by_cases h2 : d.sec = 7200
  · left
    rw [date_time h (time_head _ (hdn_cons _ (by decide)))]
    unfold timeG timeL
    rw [if_pos h2, List.nil_append, next_yes, if_pos rfl]
    exact (show (false || scB ([47].drop 1)) = true by kernel_rfl)
  · right
    rw [date_back h hs (hdn_cons _ (by decide)) (fun e => absurd e h2)]
    simp
def offL (o e : Int) : List UInt8 := if e = o + 3600 then [] else shortL (-e)
/-- the string of a TZ with daylight saving time, its second date open -/
def frontL (l : List UInt8) (o : Int) (c : List UInt8) (e : Int) (s : Dt) (M : List UInt8) : List UInt8 := quoteL l ++ (shortL (-o) ++ (quoteL c ++ (offL o e ++ 44 :: (textL s ++ 44 :: M))))
theorem print_front {l c : List UInt8} {o e : Int} {s t : Dt} (hc : c ≠ []) : printL ⟨bs l, o, bs c, e, s, t⟩ = frontL l o c e s (textL t) := by
  unfold printL frontL offL
  dsimp only
  rw [bs_list, bs_list, if_neg (by simpa using hc)]
  simp
theorem front_app (l c : List UInt8) (o e : Int) (s : Dt) (M r : List UInt8) : frontL l o c e s M ++ r = frontL l o c e s (M ++ r) := by unfold frontL; simp
theorem parse_front {l c : List UInt8} {o e : Int} {s : Dt} (hl : NameGood l) (hc : NameGood c) (ho : SecGood (-o)) (he : SecGood (-e)) (hs : s.ok = true) (hss : SecGood s.sec) (M : List UInt8) :
    parseG rfF (frontL l o c e s M) = ⟨⟨bs l, o, bs c, e, s, (dateG rfF M).d⟩, (dateG rfF M).l, (dateG rfF M).b⟩ := by
  obtain ⟨a1, a2, a3⟩ := name_back hl (sec_head ho (quoteL c ++ (offL o e ++ 44 :: (textL s ++ 44 :: M)))).1
  obtain ⟨b1, b2, b3⟩ := sec_back ho (quote_head hc (offL o e ++ 44 :: (textL s ++ 44 :: M))).1
  have hoff : Hdn letC (offL o e ++ 44 :: (textL s ++ 44 :: M)) := by
    unfold offL
    split
    · exact hdn_cons _ (by decide)
    · exact (sec_head he _).1
  obtain ⟨c1, c2, c3⟩ := name_back hc hoff
  have hd := date_back hs hss (r := 44 :: M) (hdn_cons _ (by decide)) (fun _ => by rw [List.head?_cons]; decide)
  have hdates : ∀ b : Bool, datesG rfF l o c e (44 :: (textL s ++ 44 :: M)) b = ⟨⟨bs l, o, bs c, e, s, (dateG rfF M).d⟩, (dateG rfF M).l, b || (dateG rfF M).b⟩ := by
    intro b
    unfold datesG
    rw [nextR_yes, hd, next_yes]
    dsimp only
    rw [nextR_yes, next_yes]
    simp
  unfold parseG
  unfold frontL
  rw [a1, a2, a3, b1, b2, b3, if_neg (fun h => (quote_head hc _).2 (List.isEmpty_iff.1 h)), c1, c2, c3, show rfF.mb l = false by show (!nameOk l) = false; rw [hl.ok]; rfl, show rfF.db c = false by show (!nameOk c) = false; rw [hc.ok]; rfl,
    show - -o = o by omega]
  unfold dstG skipG offL
  by_cases h : e = o + 3600
  · rw [if_pos h, List.nil_append, next_yes, Bool.true_or, if_pos rfl, ← h, hdates]
    rfl
  · obtain ⟨d1, d2, d3⟩ := sec_back he (r := 44 :: (textL s ++ 44 :: M)) (hdn_cons _ (by decide))
    rw [if_neg h, next_no (sec_head he _).2, if_neg (by rw [show (shortL (-e) ++ 44 :: (textL s ++ 44 :: M)).isEmpty = false by simp]; simp), d1, d2, d3, show - -e = e by omega, hdates]
    rfl
/-- the string of a right TZ, with more behind it -/
theorem parse_back {l c : List UInt8} {o e : Int} {s t : Dt} (hl : NameGood l) (hc : NameGood c) (ho : SecGood (-o)) (he : SecGood (-e)) (hs : s.ok = true) (hss : SecGood s.sec) (ht : t.ok = true) (hts : SecGood t.sec)
    {r : List UInt8} (hr : Hdn secQ r) (h47 : t.sec = 7200 → r.head? ≠ some 47) : parseG rfF (printL ⟨bs l, o, bs c, e, s, t⟩ ++ r) = ⟨⟨bs l, o, bs c, e, s, t⟩, r, false⟩ := by
  rw [print_front hc.ne, front_app, parse_front hl hc ho he hs hss, date_back ht hts hr h47]
theorem parse_std {l : List UInt8} {o : Int} (hl : NameGood l) (ho : SecGood (-o)) : parseG rfF (printL ⟨bs l, o, bs [], 0, Dt.zero, Dt.zero⟩) = ⟨⟨bs l, o, bs [], 0, Dt.zero, Dt.zero⟩, [], false⟩ := by
  obtain ⟨a1, a2, a3⟩ := name_back hl (sec_head ho []).1
  obtain ⟨b1, b2, b3⟩ := sec_back ho (hdn_nil secQ)
  rw [List.append_nil] at a1 a2 a3 b1 b2 b3
  unfold printL
  dsimp only
  rw [bs_list, bs_list, if_pos (show ([] : List UInt8).isEmpty = true from rfl)]
  unfold parseG
  rw [a1, a2, a3, b1, b2, b3, if_pos (show ([] : List UInt8).isEmpty = true from rfl), show rfF.mb l = false by show (!nameOk l) = false; rw [hl.ok]; rfl, show - -o = o by omega]
  rfl
theorem quote_len {l : List UInt8} (h : nameOk l = true) : (quoteL l).length ≤ 9 := by
  have h2 : l.length ≤ 7 := by
    unfold nameOk at h
    simp only [Bool.and_eq_true, decide_eq_true_eq] at h
    omega
  have := quoteL_len l
  omega
theorem dec_one {n : Nat} (h : n < 10) : (dec n).length = 1 := by unfold dec; rw [if_pos h]; rfl
theorem dec_two {n : Nat} (h : n < 100) : (dec n).length ≤ 2 := by
  unfold dec
  by_cases h2 : n < 10
  · rw [if_pos h2]; simp
  · rw [if_neg h2, if_pos h]; simp
theorem text_len {d : Dt} (h : d.ok = true) (hs : (shortL d.sec).length ≤ 10) : (textL d).length ≤ 18 := by
  have e := text_split d []
  rw [List.append_nil, List.append_nil] at e
  rw [e]
  have ht : (timeL d.sec).length ≤ 11 := by
    unfold timeL
    split
    · simp
    · simp; omega
  rw [Dt.ok_iff] at h
  have h3 := Off.dec_len d.day.toNat
  obtain ⟨_, ⟨h1, h⟩ | ⟨h1, h⟩ | ⟨h1, h⟩⟩ := h
  · rw [if_pos h1]; simp; omega
  · rw [if_neg (by omega), if_neg (by omega)]; simp; omega
  · rw [if_neg (by omega), if_pos h1]
    have d1 := dec_one (n := d.day.toNat) (by omega)
    have d2 := dec_one (n := d.week.toNat) (by omega)
    have d3 := dec_two (n := d.month.toNat) (by omega)
    simp; omega
/-- the facts of a draft with daylight saving time -/
theorem made_two {d : Drf} (h : d.In) (hn : d.non = false) : ∃ l o c e s t, d.made = ⟨bs l, o, bs c, e, s, t⟩ ∧ NameGood l ∧ NameGood c ∧ SecGood (-o) ∧ SecGood (-e) ∧ s.ok = true ∧ SecGood s.sec ∧ t.ok = true ∧ SecGood t.sec ∧
    (printL d.made).length ≤ 74 := by
  have hsec : ∀ k x n, (madeDt k x n).sec = secN n := by
    intro k x n
    unfold madeDt
    split
    · rfl
    · split <;> rfl
  have hm : d.made = ⟨bs (nameL8 d.n0), offN d.o0, bs (nameL8 d.n1), dstN d.o0 d.o1, madeDt d.k0 d.d0 d.s0, madeDt d.k1 d.d1 d.s1⟩ := by
    unfold Drf.made; rw [hn, if_neg (by decide)]; rfl
  obtain ⟨q1, _, q2, _⟩ := off_good h.o0
  obtain ⟨r1, r2⟩ := dst_good h.o0 h.o1
  refine ⟨_, _, _, _, _, _, hm, nameGood8 _, nameGood8 _, q1, r1, madeDt_ok h.d0 h.s0, by rw [hsec]; exact (secN_good _).1, madeDt_ok h.d1 h.s1, by rw [hsec]; exact (secN_good _).1, ?_⟩
  rw [hm, print_front (nameGood8 _).ne]
  unfold frontL
  have e1 := quote_len (nameGood8 d.n0).ok
  have e2 := quote_len (nameGood8 d.n1).ok
  have e3 := text_len (madeDt_ok h.d0 h.s0 (k := d.k0)) (by rw [hsec]; exact (secN_good _).2)
  have e4 := text_len (madeDt_ok h.d1 h.s1 (k := d.k1)) (by rw [hsec]; exact (secN_good _).2)
  have e5 : (offL (offN d.o0) (dstN d.o0 d.o1)).length ≤ 9 := by
    unfold offL
    split
    · simp
    · exact r2
  simp
  omega
/-- the canonical string of a draft's TZ is read as this TZ -/
theorem made_back {d : Drf} (h : d.In) : finG rfF (printL d.made) = (d.made, 0) ∧ (printL d.made).length ≤ 74 := by
  cases hn : d.non
  · obtain ⟨l, o, c, e, s, t, hm, g1, g2, g3, g4, g5, g6, g7, g8, g9⟩ := made_two h hn
    have hok := made_ok d h
    refine ⟨?_, g9⟩
    unfold finG
    rw [if_neg (by omega)]
    have := parse_back g1 g2 g3 g4 g5 g6 g7 g8 (r := []) (hdn_nil _) (fun _ => by simp)
    rw [List.append_nil, ← hm] at this
    rw [this]
    unfold Pr.fin Pr.bad
    dsimp only
    rw [hok]
    rfl
  · have hok := made_ok d h
    have hm : d.made = ⟨bs (nameL8 d.n0), offN d.o0, bs [], 0, Dt.zero, Dt.zero⟩ := by
      unfold Drf.made; rw [hn, if_pos rfl]; rfl
    obtain ⟨q1, _, q2, _⟩ := off_good h.o0
    have hlen : (printL d.made).length ≤ 74 := by
      rw [hm]
      unfold printL
      dsimp only
      rw [bs_list, bs_list, if_pos (show ([] : List UInt8).isEmpty = true from rfl)]
      have e1 := quote_len (nameGood8 d.n0).ok
      simp
      omega
    refine ⟨?_, hlen⟩
    unfold finG
    rw [if_neg (by omega)]
    have := parse_std (nameGood8 d.n0) q1
    rw [← hm] at this
    rw [this]
    unfold Pr.fin Pr.bad
    dsimp only
    rw [hok]
    rfl
theorem made_print {d : Drf} (h : d.In) : printP d.made = (printL d.made, 0) := by unfold printP; rw [made_ok d h, if_pos rfl]
/-- another TZ has another string -/
theorem made_inj {d e : Drf} (h : d.In) (k : e.In) : printL d.made = printL e.made ↔ d.made = e.made := by
  constructor
  · intro he
    have h1 := (made_back h).1
    have h2 := (made_back k).1
    rw [he, h2] at h1
    exact (Prod.mk.inj h1).1.symm
  · intro he; rw [he]
end Go.Proofs.YtgllbagmmpicaaaGreatDoor.Px
