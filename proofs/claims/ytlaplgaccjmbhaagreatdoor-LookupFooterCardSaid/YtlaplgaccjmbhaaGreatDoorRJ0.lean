/- The TZs that a draft makes, the plain laws: each is right. No program in sight. The string of a right TZ is read as this TZ, plain; with more behind it, it is read as far. No program in sight. The TZ of a draft: the functions inside Made. The method (analemmalaw37.Draft).Made: the TZ of a draft. A TZ by numbers that is handed to a law, opened. Strings that are not right, plain: the canonical string of a draft with a byte more, or less. No program in sight. -/
import Derived.Test.YtlaplgaccjmbhaaGreatDoorSG5
import Derived.Test.YtlaplgaccjmbhaaGreatDoorSG12
import Derived.Deep.DeepCutAuto
import Derived.Deep.DeepFit
import Derived.Deep.RegionWith
import Derived.Test.YtlaplgaccjmbhaaGreatDoorSG9
import Derived.Test.YtlaplgaccjmbhaaGreatDoorSG14
import Derived.Test.YtlaplgaccjmbhaaGreatDoorRG14x
import Derived.Deep.RegionHeld3
import Derived.Outline
import Derived.Test.YtlaplgaccjmbhaaGreatDoorSG13
import Derived.OpenShut
namespace Go.Proofs.YtlaplgaccjmbhaaGreatDoor.Px
open Go.RowKit
open Civ
/-- a TZ by numbers -/
structure Drf where
  n0 : Int
  n1 : Int
  o0 : Int
  o1 : Int
  k0 : Int
  k1 : Int
  d0 : Int
  d1 : Int
  s0 : Int
  s1 : Int
  non : Bool
def Drf.val (d : Drf) : Value := .agg #[.int .u8 d.n0, .int .u8 d.n1, .int .u8 d.o0, .int .u8 d.o1, .int .u8 d.k0, .int .u8 d.k1, .int .u8 d.d0, .int .u8 d.d1, .int .u8 d.s0, .int .u8 d.s1, .bool d.non]
def U8 (x : Int) : Prop := 0 ≤ x ∧ x ≤ 255
structure Drf.In (d : Drf) : Prop where
  n0 : U8 d.n0
  n1 : U8 d.n1
  o0 : U8 d.o0
  o1 : U8 d.o1
  k0 : U8 d.k0
  k1 : U8 d.k1
  d0 : U8 d.d0
  d1 : U8 d.d1
  s0 : U8 d.s0
  s1 : U8 d.s1
def names8 : List (List UInt8) := [[67, 69, 84], [67, 69, 83, 84], [43, 48, 53], [45, 48, 51, 51, 48], [65, 66, 67, 68, 69, 70, 71], [65, 49, 45], [88, 88, 88], [103, 109, 116]]
def nameL8 (n : Int) : List UInt8 := names8.getD (n % 8).toNat []
def nameN (n : Int) : ByteArray := bs (nameL8 n)
def offN (n : Int) : Int := (n - 128) * 700
def secs8 : List Int := [7200, 0, 86400, 3600, -3600, 604799, -604799, 5400]
def secN (s : Int) : Int := secs8.getD (s % 8).toNat 0
def madeDt (k d s : Int) : Dt :=
  if k % 3 = 0 then ⟨1, 1 + (d + s * 40) % 365, 0, 0, secN s⟩
  else if k % 3 = 1 then ⟨2, (d + s * 40) % 366, 0, 0, secN s⟩
  else ⟨3, d / 60 % 7, 1 + d % 12, 1 + d / 12 % 5, secN s⟩
def dstN (o0 o1 : Int) : Int := if o1 % 3 = 0 then (if 89999 < offN o0 + 3600 then 89999 else offN o0 + 3600) else offN o1
/-- the TZ -/
def Drf.made (d : Drf) : Pos :=
  if d.non then ⟨nameN d.n0, offN d.o0, bs [], 0, Dt.zero, Dt.zero⟩
  else ⟨nameN d.n0, offN d.o0, nameN d.n1, dstN d.o0 d.o1, madeDt d.k0 d.d0 d.s0, madeDt d.k1 d.d1 d.s1⟩
theorem names_all {P : List UInt8 → Prop} (h : ∀ l ∈ names8, P l) (n : Int) : P (nameL8 n) := by
  have h8 : (n % 8).toNat < 8 := by omega
  unfold nameL8
  obtain ⟨k, hk⟩ : ∃ k, (n % 8).toNat = k := ⟨_, rfl⟩
  rw [hk] at h8 ⊢
  apply h
  have : names8.getD k [] = names8[k]'(h8) := by simp [names8, h8]
  rw [this]
  exact List.getElem_mem _
theorem secs_all {P : Int → Prop} (h : ∀ l ∈ secs8, P l) (n : Int) : P (secN n) := by
  have h8 : (n % 8).toNat < 8 := by omega
  unfold secN
  obtain ⟨k, hk⟩ : ∃ k, (n % 8).toNat = k := ⟨_, rfl⟩
  rw [hk] at h8 ⊢
  apply h
  have : secs8.getD k 0 = secs8[k]'(h8) := by simp [secs8, h8]
  rw [this]
  exact List.getElem_mem _
theorem name_ok (n : Int) : nameOk (nameN n).data.toList = true := by
  unfold nameN
  rw [bs_list]
  exact names_all (P := fun l => nameOk l = true) (by decide) n
theorem name_size (n : Int) : 3 ≤ (nameN n).size ∧ (nameN n).size ≤ 7 := by
  have := names_all (P := fun l => 3 ≤ l.length ∧ l.length ≤ 7) (by decide) n
  unfold nameN bs
  exact this
theorem name_ne (n : Int) : (nameN n).toList.isEmpty = false := by
  unfold nameN
  rw [ByteArray.toList_eq, bs_list]
  exact names_all (P := fun l => l.isEmpty = false) (by decide) n
theorem off_ok {n : Int} (h : U8 n) : offB (offN n) = true := by
  unfold U8 at h
  rw [offB_iff]
  unfold offN
  omega
theorem dst_ok {m n : Int} (h1 : U8 m) (h2 : U8 n) : offB (dstN m n) = true := by
  unfold U8 at h1 h2
  rw [offB_iff]
  unfold dstN offN
  split
  · split <;> omega
  · omega
theorem sec_bd (n : Int) : -604799 ≤ secN n ∧ secN n ≤ 604799 := secs_all (P := fun x => -604799 ≤ x ∧ x ≤ 604799) (by decide) n
theorem madeDt_ok {k d s : Int} (_ : U8 d) (_ : U8 s) : (madeDt k d s).ok = true := by
  have := sec_bd s
  rw [Dt.ok_iff]
  unfold madeDt
  split
  · dsimp only; omega
  · split
    · dsimp only; omega
    · dsimp only; omega
theorem made_size (d : Drf) : d.made.std.size ≤ 7 ∧ d.made.dst.size ≤ 7 := by
  unfold Drf.made
  split
  · exact ⟨(name_size _).2, show (bs []).size ≤ 7 by decide⟩
  · exact ⟨(name_size _).2, (name_size _).2⟩
theorem made_ne {d : Drf} (h : d.non = false) : d.made.dst.toList.isEmpty = false := by
  unfold Drf.made
  rw [h, if_neg (by decide)]
  exact name_ne _
end Go.Proofs.YtlaplgaccjmbhaaGreatDoor.Px
namespace Go.Proofs.YtlaplgaccjmbhaaGreatDoor.Px
open Go.RowKit
open Civ
open Off (run past digQ valD parseO dec)
/-- what is behind is not read on -/
def Hdn (q : UInt8 → Bool) (r : List UInt8) : Prop := ∀ c, r.head? = some c → q c = false
theorem hdn_nil (q : UInt8 → Bool) : Hdn q [] := fun c h => by cases h
theorem hdn_cons {q : UInt8 → Bool} {c : UInt8} (r : List UInt8) (h : q c = false) : Hdn q (c :: r) := fun x hx => by
  rw [List.head?_cons] at hx; cases hx; exact h
theorem run_app {q : UInt8 → Bool} {r : List UInt8} (hr : Hdn q r) : ∀ l : List UInt8, l.all q = true → run q (l ++ r) = l ∧ past q (l ++ r) = r
  | [], _ => by
    rw [List.nil_append]
    unfold run past
    cases r with
    | nil => exact ⟨rfl, rfl⟩
    | cons c r =>
      have := hr c rfl
      rw [List.takeWhile_cons_of_neg (by rw [this]; decide), List.dropWhile_cons_of_neg (by rw [this]; decide)]
      exact ⟨rfl, rfl⟩
  | a :: l, h => by
    rw [List.all_cons, Bool.and_eq_true] at h
    obtain ⟨i1, i2⟩ := run_app hr l h.2
    unfold run past at *
    rw [List.cons_append, List.takeWhile_cons_of_pos h.1, List.dropWhile_cons_of_pos h.1, i1, i2]
    exact ⟨rfl, rfl⟩
theorem next_yes (c : UInt8) (l : List UInt8) : nextB c (c :: l) = true := by unfold nextB; simp
theorem next_no {c : UInt8} {l : List UInt8} (h : l.head? ≠ some c) : nextB c l = false := by
  unfold nextB
  rw [beq_eq_false_iff_ne]
  exact h
theorem nextR_yes (c : UInt8) (l : List UInt8) : nextR c (c :: l) = l := by unfold nextR; rw [next_yes, if_pos rfl]; rfl
theorem nextR_no {c : UInt8} {l : List UInt8} (h : l.head? ≠ some c) : nextR c l = l := by unfold nextR; rw [next_no h, if_neg (by decide)]
theorem head_app {l r : List UInt8} (h : l ≠ []) : (l ++ r).head? = l.head? := by
  obtain ⟨a, t, rfl⟩ := List.exists_cons_of_ne_nil h
  rfl
/-- a name that can be printed and read -/
structure NameGood (l : List UInt8) : Prop where
  ne : l ≠ []
  ok : nameOk l = true
  inn : l.all inB = true
  first : l.all letC = true → l.head? ≠ some 60
  lets : l.all letC = true → ∀ c, l.head? = some c → secQ c = false
theorem nameGood8 (n : Int) : NameGood (nameL8 n) := by
  have h := names_all (P := fun l => l ≠ [] ∧ nameOk l = true ∧ l.all inB = true ∧ l.head? ≠ some 60 ∧ (l.all letC = true → (l.head?.map secQ) = some false)) (by decide) n
  exact ⟨h.1, h.2.1, h.2.2.1, fun _ => h.2.2.2.1, fun hl c hc => by
    have := h.2.2.2.2 hl
    rw [hc] at this
    exact Option.some.inj this⟩
theorem name_back {l : List UInt8} (h : NameGood l) {r : List UInt8} (hr : Hdn letC r) : nmS (quoteL l ++ r) = l ∧ nmR (quoteL l ++ r) = r ∧ nmB (quoteL l ++ r) = false := by
  unfold quoteL
  by_cases hl : l.all letC = true
  · rw [if_pos hl]
    have h1 : (l ++ r).head? ≠ some 60 := by rw [head_app h.ne]; exact h.first hl
    obtain ⟨a, b⟩ := run_app hr l hl
    unfold nmS nmR nmB nmT nmP
    rw [next_no h1, if_neg (by decide), if_neg (by decide), nextR_no h1]
    exact ⟨a, b, rfl⟩
  · rw [if_neg hl, show (60 :: l ++ [62] : List UInt8) ++ r = 60 :: (l ++ 62 :: r) by simp]
    obtain ⟨a, b⟩ := run_app (q := inB) (hdn_cons (c := 62) r (by decide)) l h.inn
    unfold nmS nmR nmB nmT nmP
    rw [next_yes, if_pos rfl, if_pos rfl, nextR_yes, b, nextR_yes, next_yes]
    exact ⟨a, rfl, rfl⟩
/-- an amount of time that can be printed and read -/
structure SecGood (x : Int) : Prop where
  all : (shortL x).all secQ = true
  val : parseO (shortL x) = (x, 0)
def secGoodB (x : Int) : Bool := (shortL x).all secQ && decide (parseO (shortL x) = (x, 0))
theorem secGood_of {x : Int} (h : secGoodB x = true) : SecGood x := by
  unfold secGoodB at h
  rw [Bool.and_eq_true, decide_eq_true_eq] at h
  exact ⟨h.1, h.2⟩
theorem secN_good (n : Int) : SecGood (secN n) ∧ (shortL (secN n)).length ≤ 10 := by
  have := secs_all (P := fun x => secGoodB x = true ∧ (shortL x).length ≤ 10) (by decide) n
  exact ⟨secGood_of this.1, this.2⟩
theorem SecGood.ne {x : Int} (h : SecGood x) : shortL x ≠ [] := by
  intro e
  have := h.val
  rw [e, show parseO [] = (0, 5) from by kernel_rfl] at this
  cases this
theorem sec_back {x : Int} (h : SecGood x) {r : List UInt8} (hr : Hdn secQ r) : scV (shortL x ++ r) = x ∧ scR (shortL x ++ r) = r ∧ scB (shortL x ++ r) = false := by
  obtain ⟨a, b⟩ := run_app hr _ h.all
  unfold scV scR scB
  rw [a, b, h.val]
  exact ⟨rfl, rfl, by simp⟩
theorem sec_byte (c : UInt8) : secQ c = true → letC c = false ∧ c ≠ 44 ∧ c ≠ 62 := of_decide_eq_true (every_byte (fun c => decide (secQ c = true → letC c = false ∧ c ≠ 44 ∧ c ≠ 62)) (by kernel_rfl) c)
theorem dig_sec {c : UInt8} (h : secQ c = false) : digQ c = false := by
  unfold secQ at h
  simp only [Bool.or_eq_false_iff] at h
  exact h.2
theorem sec_head {x : Int} (h : SecGood x) (r : List UInt8) : Hdn letC (shortL x ++ r) ∧ (shortL x ++ r).head? ≠ some 44 := by
  obtain ⟨a, t, e⟩ := List.exists_cons_of_ne_nil h.ne
  have ha := h.all
  rw [e, List.all_cons, Bool.and_eq_true] at ha
  obtain ⟨b1, b2, _⟩ := sec_byte a ha.1
  rw [e]
  refine ⟨hdn_cons _ b1, ?_⟩
  intro hh
  rw [List.cons_append, List.head?_cons] at hh
  exact b2 (Option.some.inj hh)
theorem quote_head {l : List UInt8} (h : NameGood l) (r : List UInt8) : Hdn secQ (quoteL l ++ r) ∧ quoteL l ++ r ≠ [] := by
  unfold quoteL
  by_cases hl : l.all letC = true
  · rw [if_pos hl]
    refine ⟨fun c hc => ?_, by simp [h.ne]⟩
    rw [head_app h.ne] at hc
    exact h.lets hl c hc
  · rw [if_neg hl]
    exact ⟨hdn_cons _ (by decide), by simp⟩
theorem num_all : (List.range 400).all (fun k => !refB (dec k) && decide (valD (dec k) = k)) = true := by kernel_rfl
theorem num_back {k : Nat} (hk : k < 400) {r : List UInt8} (hr : Hdn digQ r) : rfF.v (dec k ++ r) = k ∧ rfF.b (dec k ++ r) = false ∧ nuR (dec k ++ r) = r := by
  obtain ⟨a, b⟩ := run_app hr _ (dec_all k (by omega))
  have := List.all_eq_true.1 num_all k (by rw [List.mem_range]; omega)
  simp only [Bool.and_eq_true, decide_eq_true_eq, Bool.not_eq_true'] at this
  unfold Fl.v Fl.b nuS nuR rfF
  dsimp only
  unfold refV
  rw [a, b, this.1, if_neg (by decide), this.2]
  exact ⟨rfl, rfl, rfl⟩
def timeL (s : Int) : List UInt8 := if s = 7200 then [] else 47 :: shortL s
theorem time_back {s : Int} (hs : SecGood s) {r : List UInt8} (hr : Hdn secQ r) (h47 : s = 7200 → r.head? ≠ some 47) (k d m w : Int) (b : Bool) :
    timeG k d m w (timeL s ++ r) b = ⟨⟨k, d, m, w, s⟩, r, b⟩ := by
  unfold timeG timeL
  by_cases h : s = 7200
  · rw [if_pos h, List.nil_append, next_no (h47 h), if_neg (by decide), h]
  · rw [if_neg h, List.cons_append, next_yes, if_pos rfl, List.drop_one, List.tail_cons]
    obtain ⟨a, b, c⟩ := sec_back hs hr
    rw [a, b, c, Bool.or_false]
theorem time_head (s : Int) {r : List UInt8} (hr : Hdn secQ r) : Hdn digQ (timeL s ++ r) := by
  unfold timeL
  split
  · exact fun c hc => dig_sec (hr c hc)
  · exact hdn_cons _ (by decide)
theorem dec_ne (n : Nat) (h : n < 400) : dec n ≠ [] := by
  have := (dec_digits n).2.1
  rwa [Off.dec_lib (by omega)] at this
theorem dec_head {n : Nat} (h : n < 400) {c : UInt8} (hc : digQ c = false) (r : List UInt8) : (dec n ++ r).head? ≠ some c := by
  obtain ⟨a, t, e⟩ := List.exists_cons_of_ne_nil (dec_ne n h)
  have ha := dec_all n (by omega)
  rw [e, List.all_cons, Bool.and_eq_true] at ha
  rw [e, List.cons_append, List.head?_cons]
  intro hh
  rw [Option.some.inj hh, hc] at ha
  cases ha.1
theorem text_split (d : Dt) (r : List UInt8) : textL d ++ r =
    if d.kind = 1 then 74 :: (dec d.day.toNat ++ (timeL d.sec ++ r)) else if d.kind = 3 then 77 :: (dec d.month.toNat ++ 46 :: (dec d.week.toNat ++ 46 :: (dec d.day.toNat ++ (timeL d.sec ++ r)))) else dec d.day.toNat ++ (timeL d.sec ++ r) := by
  unfold textL
  rw [show (if d.sec = 7200 then [] else 47 :: shortL d.sec) = timeL d.sec from rfl]
  split
  · simp
  · split
    · simp
    · simp
/-- a date, up to its time -/
theorem date_time {d : Dt} (h : d.ok = true) {r : List UInt8} (hr : Hdn digQ (timeL d.sec ++ r)) :
    dateG rfF (textL d ++ r) = timeG d.kind d.day d.month d.week (timeL d.sec ++ r) false := by
  rw [text_split]
  obtain ⟨k, dd, m, w, s⟩ := d
  rw [Dt.ok_iff] at h
  dsimp only at h hr ⊢
  obtain ⟨_, ⟨rfl, h1, h2, rfl, rfl⟩ | ⟨rfl, h1, h2, rfl, rfl⟩ | ⟨rfl, h1, h2, h3, h4, h5, h6⟩⟩ := h
  · rw [if_pos rfl]
    obtain ⟨a, b, c⟩ := num_back (k := dd.toNat) (by omega) hr
    unfold dateG headG
    rw [next_yes, if_pos rfl, List.drop_one, List.tail_cons]
    dsimp only
    rw [a, b, c, show ((dd.toNat : Nat) : Int) = dd by omega]
    rfl
  · rw [if_neg (by decide), if_neg (by decide)]
    obtain ⟨a, b, c⟩ := num_back (k := dd.toNat) (by omega) hr
    unfold dateG headG
    rw [next_no (dec_head (by omega) (by decide) _), if_neg (by decide), next_no (dec_head (by omega) (by decide) _), if_neg (by decide)]
    dsimp only
    rw [a, b, c, show ((dd.toNat : Nat) : Int) = dd by omega]
    rfl
  · rw [if_neg (by decide), if_pos rfl]
    obtain ⟨a, b, c⟩ := num_back (k := dd.toNat) (by omega) hr
    obtain ⟨a1, b1, c1⟩ := num_back (k := w.toNat) (by omega) (hdn_cons (q := digQ) (c := 46) (dec dd.toNat ++ (timeL s ++ r)) (by decide))
    obtain ⟨a2, b2, c2⟩ := num_back (k := m.toNat) (by omega) (hdn_cons (q := digQ) (c := 46) (dec w.toNat ++ 46 :: (dec dd.toNat ++ (timeL s ++ r))) (by decide))
    unfold dateG headG
    rw [next_no (by rw [List.head?_cons]; decide), if_neg (by decide), next_yes, if_pos rfl, List.drop_one, List.tail_cons]
    dsimp only
    rw [c2, nextR_yes, c1, nextR_yes, next_yes, next_yes, a, b, c, a1, b1, a2, b2, show ((dd.toNat : Nat) : Int) = dd by omega, show ((w.toNat : Nat) : Int) = w by omega, show ((m.toNat : Nat) : Int) = m by omega]
    rfl
theorem date_back {d : Dt} (h : d.ok = true) (hs : SecGood d.sec) {r : List UInt8} (hr : Hdn secQ r) (h47 : d.sec = 7200 → r.head? ≠ some 47) : dateG rfF (textL d ++ r) = ⟨d, r, false⟩ := by
  rw [date_time h (time_head _ hr), time_back hs hr h47]
def offL (o e : Int) : List UInt8 := if e = o + 3600 then [] else shortL (-e)
/-- the string of a TZ with daylight saving time, its second date open -/
def frontL (l : List UInt8) (o : Int) (c : List UInt8) (e : Int) (s : Dt) (M : List UInt8) : List UInt8 := quoteL l ++ (shortL (-o) ++ (quoteL c ++ (offL o e ++ 44 :: (textL s ++ 44 :: M))))
theorem print_front {l c : List UInt8} {o e : Int} {s t : Dt} (hc : c ≠ []) : printL ⟨bs l, o, bs c, e, s, t⟩ = frontL l o c e s (textL t) := by
  unfold printL frontL offL
  dsimp only
  rw [bs_list, bs_list, if_neg (by simpa using hc)]
  simp
theorem front_app (l c : List UInt8) (o e : Int) (s : Dt) (M r : List UInt8) : frontL l o c e s M ++ r = frontL l o c e s (M ++ r) := by unfold frontL; simp
theorem parse_front {l c : List UInt8} {o e : Int} {s : Dt} (hl : NameGood l) (hc : NameGood c) (ho : SecGood (-o)) (he : SecGood (-e)) (hs : s.ok = true) (hss : SecGood s.sec) (M : List UInt8) :
    parseG rfF (frontL l o c e s M) = ⟨⟨bs l, o, bs c, e, s, (dateG rfF M).d⟩, (dateG rfF M).l, (dateG rfF M).b⟩ := by
  obtain ⟨a1, a2, a3⟩ := name_back hl (sec_head ho (quoteL c ++ (offL o e ++ 44 :: (textL s ++ 44 :: M)))).1
  obtain ⟨b1, b2, b3⟩ := sec_back ho (quote_head hc (offL o e ++ 44 :: (textL s ++ 44 :: M))).1
  have hoff : Hdn letC (offL o e ++ 44 :: (textL s ++ 44 :: M)) := by
    unfold offL
    split
    · exact hdn_cons _ (by decide)
    · exact (sec_head he _).1
  obtain ⟨c1, c2, c3⟩ := name_back hc hoff
  have hd := date_back hs hss (r := 44 :: M) (hdn_cons _ (by decide)) (fun _ => by rw [List.head?_cons]; decide)
  have hdates : ∀ b : Bool, datesG rfF l o c e (44 :: (textL s ++ 44 :: M)) b = ⟨⟨bs l, o, bs c, e, s, (dateG rfF M).d⟩, (dateG rfF M).l, b || (dateG rfF M).b⟩ := by
    intro b
    unfold datesG
    rw [nextR_yes, hd, next_yes]
    dsimp only
    rw [nextR_yes, next_yes]
    simp
  unfold parseG
  unfold frontL
  rw [a1, a2, a3, b1, b2, b3, if_neg (fun h => (quote_head hc _).2 (List.isEmpty_iff.1 h)), c1, c2, c3, show rfF.mb l = false by show (!nameOk l) = false; rw [hl.ok]; rfl, show rfF.db c = false by show (!nameOk c) = false; rw [hc.ok]; rfl,
    show - -o = o by omega]
  unfold dstG skipG offL
  by_cases h : e = o + 3600
  · rw [if_pos h, List.nil_append, next_yes, Bool.true_or, if_pos rfl, ← h, hdates]
    rfl
  · obtain ⟨d1, d2, d3⟩ := sec_back he (r := 44 :: (textL s ++ 44 :: M)) (hdn_cons _ (by decide))
    rw [if_neg h, next_no (sec_head he _).2, if_neg (by rw [show (shortL (-e) ++ 44 :: (textL s ++ 44 :: M)).isEmpty = false by simp]; simp), d1, d2, d3, show - -e = e by omega, hdates]
    rfl
/-- the string of a right TZ, with more behind it -/
theorem parse_back {l c : List UInt8} {o e : Int} {s t : Dt} (hl : NameGood l) (hc : NameGood c) (ho : SecGood (-o)) (he : SecGood (-e)) (hs : s.ok = true) (hss : SecGood s.sec) (ht : t.ok = true) (hts : SecGood t.sec)
    {r : List UInt8} (hr : Hdn secQ r) (h47 : t.sec = 7200 → r.head? ≠ some 47) : parseG rfF (printL ⟨bs l, o, bs c, e, s, t⟩ ++ r) = ⟨⟨bs l, o, bs c, e, s, t⟩, r, false⟩ := by
  rw [print_front hc.ne, front_app, parse_front hl hc ho he hs hss, date_back ht hts hr h47]
theorem parse_std {l : List UInt8} {o : Int} (hl : NameGood l) (ho : SecGood (-o)) : parseG rfF (printL ⟨bs l, o, bs [], 0, Dt.zero, Dt.zero⟩) = ⟨⟨bs l, o, bs [], 0, Dt.zero, Dt.zero⟩, [], false⟩ := by
  obtain ⟨a1, a2, a3⟩ := name_back hl (sec_head ho []).1
  obtain ⟨b1, b2, b3⟩ := sec_back ho (hdn_nil secQ)
  rw [List.append_nil] at a1 a2 a3 b1 b2 b3
  unfold printL
  dsimp only
  rw [bs_list, bs_list, if_pos (show ([] : List UInt8).isEmpty = true from rfl)]
  unfold parseG
  rw [a1, a2, a3, b1, b2, b3, if_pos (show ([] : List UInt8).isEmpty = true from rfl), show rfF.mb l = false by show (!nameOk l) = false; rw [hl.ok]; rfl, show - -o = o by omega]
  rfl
theorem quote_len {l : List UInt8} (h : nameOk l = true) : (quoteL l).length ≤ 9 := by
  have h2 : l.length ≤ 7 := by
    unfold nameOk at h
    simp only [Bool.and_eq_true, decide_eq_true_eq] at h
    omega
  have := quoteL_len l
  omega
theorem dec_one {n : Nat} (h : n < 10) : (dec n).length = 1 := by unfold dec; rw [if_pos h]; rfl
theorem dec_two {n : Nat} (h : n < 100) : (dec n).length ≤ 2 := by
  unfold dec
  by_cases h2 : n < 10
  · rw [if_pos h2]; simp
  · rw [if_neg h2, if_pos h]; simp
theorem text_len {d : Dt} (h : d.ok = true) (hs : (shortL d.sec).length ≤ 10) : (textL d).length ≤ 18 := by
  have e := text_split d []
  rw [List.append_nil, List.append_nil] at e
  rw [e]
  have ht : (timeL d.sec).length ≤ 11 := by
    unfold timeL
    split
    · simp
    · simp; omega
  rw [Dt.ok_iff] at h
  have h3 := Off.dec_len d.day.toNat
  obtain ⟨_, ⟨h1, h⟩ | ⟨h1, h⟩ | ⟨h1, h⟩⟩ := h
  · rw [if_pos h1]; simp; omega
  · rw [if_neg (by omega), if_neg (by omega)]; simp; omega
  · rw [if_neg (by omega), if_pos h1]
    have d1 := dec_one (n := d.day.toNat) (by omega)
    have d2 := dec_one (n := d.week.toNat) (by omega)
    have d3 := dec_two (n := d.month.toNat) (by omega)
    simp; omega
end Go.Proofs.YtlaplgaccjmbhaaGreatDoor.Px
namespace Go.Proofs.YtlaplgaccjmbhaaGreatDoor.Px
open Go.RowKit
open Civ
theorem eight (n : Int) : n % 8 = 0 ∨ n % 8 = 1 ∨ n % 8 = 2 ∨ n % 8 = 3 ∨ n % 8 = 4 ∨ n % 8 = 5 ∨ n % 8 = 6 ∨ n % 8 = 7 := by omega
set_option maxHeartbeats 1000000 in
theorem made_name (n : Int) (h : U8 n) (w : World) :
    Calls Tryz.prog 96 #[.int .u8 n] w fun e w' => e = .returned (.string (nameN n)) ∧ Below w.heap.size w w' := by
  have h8 := eight n
  have t8 : n.tmod 8 = n % 8 := Int.tmod_eq_emod_of_nonneg h.1
  unfold nameN nameL8
  have HR := Lib.hid (rowAt_alloc w #[.string ⟨#[67, 69, 84]⟩, .string ⟨#[67, 69, 83, 84]⟩, .string ⟨#[43, 48, 53]⟩, .string ⟨#[45, 48, 51, 51, 48]⟩, .string ⟨#[65, 66, 67, 68, 69, 70, 71]⟩, .string ⟨#[65, 49, 45]⟩, .string ⟨#[88, 88, 88]⟩, .string ⟨#[103, 109, 116]⟩] 9)
  rcases h8 with h8 | h8 | h8 | h8 | h8 | h8 | h8 | h8
  all_goals
    rw [h8] at t8
    rw [h8]
    clear h8 h
    go_enter Tryz.func96, Tryz.ntmps96
    go_wp2_with fail
    go_ret
    exact ⟨rfl, (Below.refl _ w).alloc (Nat.le_refl _) _⟩
set_option maxHeartbeats 1000000 in
theorem made_off (n : Int) (h : U8 n) (w : World) :
    Calls Tryz.prog 97 #[.int .u8 n] w fun e w' => e = .returned (.int .i64 (offN n)) ∧ w = w' := by
  obtain ⟨h0, h1⟩ := h
  have q1 : IntKind.i64.wrap (n - 128) = n - 128 := IntWalk.i64_in _ (by omega)
  have q2 : IntKind.i64.wrap ((n - 128) * 700) = (n - 128) * 700 := IntWalk.i64_in _ (by omega)
  unfold offN
  go_enter Tryz.func97, Tryz.ntmps97
  go_wp2_with fail
  go_ret
  exact ⟨rfl, rfl⟩
set_option maxHeartbeats 4000000 in
theorem made_date (k d s : Int) (hk : U8 k) (hd : U8 d) (hs : U8 s) (w : World) :
    Calls Tryz.prog 98 #[.int .u8 k, .int .u8 d, .int .u8 s] w fun e w' => e = .returned (madeDt k d s).val ∧ Below w.heap.size w w' := by
  have h8 := eight s
  have k3 : k.tmod 3 = k % 3 := Int.tmod_eq_emod_of_nonneg hk.1
  have t8 : s.tmod 8 = s % 8 := Int.tmod_eq_emod_of_nonneg hs.1
  have HS := Lib.hid (show secN s = secs8.getD (s % 8).toNat 0 from rfl)
  obtain ⟨K, hK⟩ : ∃ K, k % 3 = K := ⟨_, rfl⟩
  have K0 : 0 ≤ K := by omega
  have K1 : K < 3 := by omega
  rw [hK] at k3
  obtain ⟨S, hS⟩ : ∃ S, secN s = S := ⟨_, rfl⟩
  rw [hS] at HS
  obtain ⟨k0, k1⟩ := hk
  obtain ⟨d0, d1⟩ := hd
  obtain ⟨s0, s1⟩ := hs
  have HM := Lib.hid (show madeDt k d s = if K = 0 then ⟨1, 1 + (d + s * 40) % 365, 0, 0, S⟩ else if K = 1 then ⟨2, (d + s * 40) % 366, 0, 0, S⟩ else ⟨3, d / 60 % 7, 1 + d % 12, 1 + d / 12 % 5, S⟩ by unfold madeDt; rw [hK, hS])
  obtain ⟨D, hD⟩ : ∃ D, madeDt k d s = D := ⟨_, rfl⟩
  rw [hD] at HM
  rw [hD]
  clear hK hS hD
  have q1 : IntKind.i64.wrap (1 + K) = 1 + K := IntWalk.i64_in _ (by omega)
  go_enter Tryz.func98, Tryz.ntmps98
  go_upto_region 1 with fail
  go_cut [7] (fun v wx => v = .pointer (some ⟨w.heap.size + 2, 0, none⟩) ∧ wx = (((w.alloc (.cells #[.int .i64 0, .int .i64 0, .int .i64 0, .int .i64 0, .int .i64 0] 48)).alloc (.cells #[.int .i64 7200, .int .i64 0, .int .i64 86400, .int .i64 3600, .int .i64 (-3600), .int .i64 604799, .int .i64 (-604799), .int .i64 5400] 2)).alloc (.cells #[.int .i64 (1 + K), .int .i64 0, .int .i64 0, .int .i64 0, .int .i64 S] 48)))
  case first =>
    rcases h8 with h8 | h8 | h8 | h8 | h8 | h8 | h8 | h8
    all_goals
      rw [h8] at t8 HS
      clear h8 HM
      go_wp2_with fail
      go_meet
      exact ⟨rfl, by rw [HS.out]; rfl⟩
  case rest =>
    obtain ⟨rfl, rfl⟩ := hcut
    have HB := Lib.hid ((((Below.refl _ w).alloc (Nat.le_refl _) (.cells #[.int .i64 0, .int .i64 0, .int .i64 0, .int .i64 0, .int .i64 0] 48)).alloc (by simp) (.cells #[.int .i64 7200, .int .i64 0, .int .i64 86400, .int .i64 3600, .int .i64 (-3600), .int .i64 604799, .int .i64 (-604799), .int .i64 5400] 2)).alloc (by simp; omega) (.cells #[.int .i64 (1 + K), .int .i64 0, .int .i64 0, .int .i64 0, .int .i64 S] 48))
    clear h8 t8 HS q1 k3
    by_cases K2 : K = 0
    · subst K2
      have q1 : IntKind.i64.wrap (s * 40) = s * 40 := IntWalk.i64_in _ (by omega)
      have q2 : IntKind.i64.wrap (d + s * 40) = d + s * 40 := IntWalk.i64_in _ (by omega)
      have q3 : (d + s * 40).tmod 365 = (d + s * 40) % 365 := Int.tmod_eq_emod_of_nonneg (by omega)
      have q4 : IntKind.i64.wrap (1 + (d + s * 40) % 365) = 1 + (d + s * 40) % 365 := IntWalk.i64_in _ (by omega)
      go_wp2_with fail
      refine bodyPost_ret (v := D.val) (by rw [HM.out]; simp [results, Tryz.results98, go_sem, Dt.val]) rfl ⟨rfl, ?_⟩
      exact (((Below.refl _ w).alloc (Nat.le_refl _) _).alloc (by simp) _).alloc (by simp; omega) _
    · by_cases K3 : K = 1
      · subst K3
        have q1 : IntKind.i64.wrap (s * 40) = s * 40 := IntWalk.i64_in _ (by omega)
        have q2 : IntKind.i64.wrap (d + s * 40) = d + s * 40 := IntWalk.i64_in _ (by omega)
        have q3 : (d + s * 40).tmod 366 = (d + s * 40) % 366 := Int.tmod_eq_emod_of_nonneg (by omega)
        go_wp2_with fail
        refine bodyPost_ret (v := D.val) (by rw [HM.out]; simp [results, Tryz.results98, go_sem, Dt.val]) rfl ⟨rfl, ?_⟩
        exact (((Below.refl _ w).alloc (Nat.le_refl _) _).alloc (by simp) _).alloc (by simp; omega) _
      · obtain rfl : K = 2 := by omega
        have q1 : d.tmod 12 = d % 12 := Int.tmod_eq_emod_of_nonneg (by omega)
        have q2 : d.tdiv 12 = d / 12 := Int.tdiv_eq_ediv_of_nonneg (by omega)
        have q3 : d.tdiv 60 = d / 60 := Int.tdiv_eq_ediv_of_nonneg (by omega)
        have q4 : (d / 12).tmod 5 = d / 12 % 5 := Int.tmod_eq_emod_of_nonneg (by omega)
        have q5 : (d / 60).tmod 7 = d / 60 % 7 := Int.tmod_eq_emod_of_nonneg (by omega)
        have q6 : IntKind.i64.wrap (1 + d % 12) = 1 + d % 12 := IntWalk.i64_in _ (by omega)
        have q7 : IntKind.i64.wrap (1 + d / 12 % 5) = 1 + d / 12 % 5 := IntWalk.i64_in _ (by omega)
        go_wp2_with fail
        refine bodyPost_ret (v := D.val) (by rw [HM.out]; simp [results, Tryz.results98, go_sem, Dt.val]) rfl ⟨rfl, ?_⟩
        exact (((Below.refl _ w).alloc (Nat.le_refl _) _).alloc (by simp) _).alloc (by simp; omega) _
end Go.Proofs.YtlaplgaccjmbhaaGreatDoor.Px
namespace Go.Proofs.YtlaplgaccjmbhaaGreatDoor.Px
open Go.RowKit
open Civ
def Drf.cells (d : Drf) : Array Value := #[.int .u8 d.n0, .int .u8 d.n1, .int .u8 d.o0, .int .u8 d.o1, .int .u8 d.k0, .int .u8 d.k1, .int .u8 d.d0, .int .u8 d.d1, .int .u8 d.s0, .int .u8 d.s1, .bool d.non]
/-- the blocks of the method Made: the draft's, the result's, and the TZ's, which lies in block b -/
structure Md (w : World) (d : Drf) (b : Nat) (p : Pos) (X : World) : Prop where
  below : Below w.heap.size w X
  box : X.heap[w.heap.size]? = some (.cells d.cells 37 (0, 0))
  res : X.heap[w.heap.size + 1]? = some (.cells Pos.zero.cells 50 (0, 0))
  pos : X.heap[b]? = some (.cells p.cells 50 (0, 0))
  lt : w.heap.size + 1 < b
theorem Md.call {w : World} {d : Drf} {b : Nat} {p : Pos} {X Y Z : World} (h : Md w d b p X) (hB : Below Y.heap.size Y Z) (he : Y.heap = X.heap) (ho : Y.os = X.os) (ht : Y.tape = X.tape) (hp : Y.output = X.output) : Md w d b p Z :=
  have hC : Below X.heap.size X Z := below_over hB he ho ht hp
  ⟨h.below.trans (hC.mono h.below.size), heap_keep h.box hC, heap_keep h.res hC, heap_keep h.pos hC, h.lt⟩
theorem Md.set {w : World} {d : Drf} {b : Nat} {p : Pos} {X : World} (h : Md w d b p X) (i : Nat) (u : Value) (p' : Pos) (he : p.cells.setIfInBounds i u = p'.cells) : Md w d b p' (X.setCell ⟨b, i, none⟩ u) :=
  ⟨h.below.setCell (by have := h.lt; show w.heap.size ≤ b; omega) u, (Below.heap_setCell _ _ _ _ (by have := h.lt; show w.heap.size ≠ b; omega)).trans h.box, (Below.heap_setCell _ _ _ _ (by have := h.lt; show w.heap.size + 1 ≠ b; omega)).trans h.res,
    by rw [← he]; exact cells_set h.pos i u, h.lt⟩
theorem Md.same {w : World} {d : Drf} {b : Nat} {p : Pos} {X Y : World} (h : Md w d b p X) (he : Y.heap = X.heap) (ho : Y.os = X.os) (ht : Y.tape = X.tape) (hp : Y.output = X.output) : Md w d b p Y :=
  h.call (Below.refl _ Y) he ho ht hp
/-- a slot that points to the TZ -/
def MdAt (w : World) (d : Drf) (p : Pos) (v : Value) (X : World) : Prop := ∃ b, v = .pointer (some ⟨b, 0, none⟩) ∧ Md w d b p X
/-- the cells of the draft in a world -/
theorem Md.boxes {w : World} {n0 n1 o0 o1 k0 k1 d0 d1 s0 s1 : Int} {q : Bool} {b : Nat} {p : Pos} {X : World} (h : Md w ⟨n0, n1, o0, o1, k0, k1, d0, d1, s0, s1, q⟩ b p X) :
    X.cell? ⟨w.heap.size, 0, none⟩ = some (.int .u8 n0) ∧ X.cell? ⟨w.heap.size, 1, none⟩ = some (.int .u8 n1) ∧ X.cell? ⟨w.heap.size, 2, none⟩ = some (.int .u8 o0) ∧ X.cell? ⟨w.heap.size, 3, none⟩ = some (.int .u8 o1) ∧ X.cell? ⟨w.heap.size, 4, none⟩ = some (.int .u8 k0) ∧ X.cell? ⟨w.heap.size, 5, none⟩ = some (.int .u8 k1) ∧ X.cell? ⟨w.heap.size, 6, none⟩ = some (.int .u8 d0) ∧ X.cell? ⟨w.heap.size, 7, none⟩ = some (.int .u8 d1) ∧ X.cell? ⟨w.heap.size, 8, none⟩ = some (.int .u8 s0) ∧ X.cell? ⟨w.heap.size, 9, none⟩ = some (.int .u8 s1) ∧ X.cell? ⟨w.heap.size, 10, none⟩ = some (.bool q) :=
  ⟨cells_at h.box 0, cells_at h.box 1, cells_at h.box 2, cells_at h.box 3, cells_at h.box 4, cells_at h.box 5, cells_at h.box 6, cells_at h.box 7, cells_at h.box 8, cells_at h.box 9, cells_at h.box 10⟩
/-- what is before the TZ is made -/
structure Md0 (w : World) (d : Drf) (X : World) : Prop where
  below : Below w.heap.size w X
  box : X.heap[w.heap.size]? = some (.cells d.cells 37 (0, 0))
  res : X.heap[w.heap.size + 1]? = some (.cells Pos.zero.cells 50 (0, 0))
theorem Md0.call {w : World} {d : Drf} {X Y Z : World} (h : Md0 w d X) (hB : Below Y.heap.size Y Z) (he : Y.heap = X.heap) (ho : Y.os = X.os) (ht : Y.tape = X.tape) (hp : Y.output = X.output) : Md0 w d Z :=
  have hC : Below X.heap.size X Z := below_over hB he ho ht hp
  ⟨h.below.trans (hC.mono h.below.size), heap_keep h.box hC, heap_keep h.res hC⟩
theorem Md0.same {w : World} {d : Drf} {X Y : World} (h : Md0 w d X) (he : Y.heap = X.heap) (ho : Y.os = X.os) (ht : Y.tape = X.tape) (hp : Y.output = X.output) : Md0 w d Y := h.call (Below.refl _ Y) he ho ht hp
theorem Md0.size {w : World} {d : Drf} {X : World} (h : Md0 w d X) : w.heap.size + 1 < X.heap.size := lt_of_block h.res
theorem Md0.alloc {w : World} {d : Drf} {X : World} (h : Md0 w d X) (o : Obj) : Md0 w d (X.alloc o) := ⟨h.below.alloc h.below.size _, heap_old h.box _, heap_old h.res _⟩
theorem Md0.new {w : World} {d : Drf} {X : World} (h : Md0 w d X) (p : Pos) (T : Nat) (hT : T = 50) : Md w d X.heap.size p (X.alloc (.cells p.cells T)) := by
  subst hT
  exact ⟨h.below.alloc h.below.size _, heap_old h.box _, heap_old h.res _, heap_new _ _, h.size⟩
theorem Md0.newAt {w : World} {d : Drf} {X : World} (h : Md0 w d X) (b : Nat) (hb : X.heap.size = b) (p : Pos) (T : Nat) (hT : T = 50) : Md w d b p (X.alloc (.cells p.cells T)) := by subst hb; exact h.new p T hT
theorem Md.low {w : World} {d : Drf} {b : Nat} {p : Pos} {X : World} (h : Md w d b p X) : Md0 w d X := ⟨h.below, h.box, h.res⟩
theorem Md0.set {w : World} {d : Drf} {X : World} {b i : Nat} {u : Value} (h : Md0 w d X) (hb : w.heap.size + 1 < b) : Md0 w d (X.setCell ⟨b, i, none⟩ u) :=
  ⟨h.below.setCell (by show w.heap.size ≤ b; omega) u, (Below.heap_setCell _ _ _ _ (by show w.heap.size ≠ b; omega)).trans h.box, (Below.heap_setCell _ _ _ _ (by show w.heap.size + 1 ≠ b; omega)).trans h.res⟩
theorem Md0.drew {w : World} {d : Drf} {X : World} (h : Md0 w d X) : Md0 w d X.drew := h.same rfl rfl rfl rfl
theorem Md0.callD {w : World} {d : Drf} {X Z : World} (h : Md0 w d X) (hB : Below X.drew.heap.size X.drew Z) : Md0 w d Z := h.call hB rfl rfl rfl rfl
theorem Md.callD {w : World} {d : Drf} {b : Nat} {p : Pos} {X Z : World} (h : Md w d b p X) (hB : Below X.drew.heap.size X.drew Z) : Md w d b p Z := h.call hB rfl rfl rfl rfl
theorem Md0.start (w : World) (d : Drf) (T1 T2 : Nat) (h1 : T1 = 37) (h2 : T2 = 50) : Md0 w d ((w.alloc (.cells d.cells T1)).alloc (.cells Pos.zero.cells T2)) := by
  subst h1 h2
  have z1 : (w.alloc (.cells d.cells 37)).heap.size = w.heap.size + 1 := by simp
  refine ⟨((Below.refl _ w).alloc (Nat.le_refl _) _).alloc (by rw [z1]; omega) _, heap_old (heap_new w _) _, ?_⟩
  have := heap_new (w.alloc (.cells d.cells 37)) (.cells Pos.zero.cells 50)
  rwa [z1] at this
theorem md0_S {w X : World} {n0 n1 o0 o1 k0 k1 d0 d1 s0 s1 : Int} {q : Bool} (h : Md0 w ⟨n0, n1, o0, o1, k0, k1, d0, d1, s0, s1, q⟩ X) :
    X.cell? ⟨w.heap.size, 0, none⟩ = some (.int .u8 n0) ∧ X.cell? ⟨w.heap.size, 2, none⟩ = some (.int .u8 o0) ∧ Md0 w ⟨n0, n1, o0, o1, k0, k1, d0, d1, s0, s1, q⟩ X := ⟨cells_at h.box 0, cells_at h.box 2, h⟩
theorem md1_S {w X : World} {n0 n1 o0 o1 k0 k1 d0 d1 s0 s1 : Int} {q : Bool} (h : Md0 w ⟨n0, n1, o0, o1, k0, k1, d0, d1, s0, s1, q⟩ X) :
    X.cell? ⟨w.heap.size, 1, none⟩ = some (.int .u8 n1) ∧ X.cell? ⟨w.heap.size, 3, none⟩ = some (.int .u8 o1) ∧ Md0 w ⟨n0, n1, o0, o1, k0, k1, d0, d1, s0, s1, q⟩ X := ⟨cells_at h.box 1, cells_at h.box 3, h⟩
theorem md2_S {w X : World} {n0 n1 o0 o1 k0 k1 d0 d1 s0 s1 : Int} {q : Bool} (h : Md0 w ⟨n0, n1, o0, o1, k0, k1, d0, d1, s0, s1, q⟩ X) :
    X.cell? ⟨w.heap.size, 4, none⟩ = some (.int .u8 k0) ∧ X.cell? ⟨w.heap.size, 5, none⟩ = some (.int .u8 k1) ∧ X.cell? ⟨w.heap.size, 6, none⟩ = some (.int .u8 d0) ∧ X.cell? ⟨w.heap.size, 7, none⟩ = some (.int .u8 d1) ∧ X.cell? ⟨w.heap.size, 8, none⟩ = some (.int .u8 s0) ∧ X.cell? ⟨w.heap.size, 9, none⟩ = some (.int .u8 s1) ∧ Md0 w ⟨n0, n1, o0, o1, k0, k1, d0, d1, s0, s1, q⟩ X :=
  ⟨cells_at h.box 4, cells_at h.box 5, cells_at h.box 6, cells_at h.box 7, cells_at h.box 8, cells_at h.box 9, h⟩
theorem Md.keep {w : World} {d : Drf} {b : Nat} {p : Pos} {X Z : World} (h : Md w d b p X) (hB : Below X.heap.size X Z) : Md w d b p Z := h.call hB rfl rfl rfl rfl
theorem Md.drew {w : World} {d : Drf} {b : Nat} {p : Pos} {X : World} (h : Md w d b p X) : Md w d b p X.drew := h.same rfl rfl rfl rfl
theorem Md.start5 {w : World} {d : Drf} {b : Nat} {a c : ByteArray} {B o : Int} {s t : Dt} {X : World} (h : Md w d b ⟨a, B, c, o, s, t⟩ X) (e1 e2 e3 e4 e5 : Int) :
    Md w d b ⟨a, B, c, o, ⟨e1, e2, e3, e4, e5⟩, t⟩ (((((X.setCell ⟨b, 4, none⟩ (.int .i64 e1)).setCell ⟨b, 5, none⟩ (.int .i64 e2)).setCell ⟨b, 6, none⟩ (.int .i64 e3)).setCell ⟨b, 7, none⟩ (.int .i64 e4)).setCell ⟨b, 8, none⟩ (.int .i64 e5)) := by
  obtain ⟨x1, x2, x3, x4, x5⟩ := s
  exact ((((h.set 4 (.int .i64 e1) ⟨a, B, c, o, ⟨e1, x2, x3, x4, x5⟩, t⟩ rfl).set 5 (.int .i64 e2) ⟨a, B, c, o, ⟨e1, e2, x3, x4, x5⟩, t⟩ rfl).set 6 (.int .i64 e3) ⟨a, B, c, o, ⟨e1, e2, e3, x4, x5⟩, t⟩ rfl).set 7 (.int .i64 e4) ⟨a, B, c, o, ⟨e1, e2, e3, e4, x5⟩, t⟩ rfl).set 8 (.int .i64 e5) ⟨a, B, c, o, ⟨e1, e2, e3, e4, e5⟩, t⟩ rfl
theorem Md.stop5 {w : World} {d : Drf} {b : Nat} {a c : ByteArray} {B o : Int} {s t : Dt} {X : World} (h : Md w d b ⟨a, B, c, o, s, t⟩ X) (e1 e2 e3 e4 e5 : Int) :
    Md w d b ⟨a, B, c, o, s, ⟨e1, e2, e3, e4, e5⟩⟩ (((((X.setCell ⟨b, 9, none⟩ (.int .i64 e1)).setCell ⟨b, 10, none⟩ (.int .i64 e2)).setCell ⟨b, 11, none⟩ (.int .i64 e3)).setCell ⟨b, 12, none⟩ (.int .i64 e4)).setCell ⟨b, 13, none⟩ (.int .i64 e5)) := by
  obtain ⟨x1, x2, x3, x4, x5⟩ := t
  exact ((((h.set 9 (.int .i64 e1) ⟨a, B, c, o, s, ⟨e1, x2, x3, x4, x5⟩⟩ rfl).set 10 (.int .i64 e2) ⟨a, B, c, o, s, ⟨e1, e2, x3, x4, x5⟩⟩ rfl).set 11 (.int .i64 e3) ⟨a, B, c, o, s, ⟨e1, e2, e3, x4, x5⟩⟩ rfl).set 12 (.int .i64 e4) ⟨a, B, c, o, s, ⟨e1, e2, e3, e4, x5⟩⟩ rfl).set 13 (.int .i64 e5) ⟨a, B, c, o, s, ⟨e1, e2, e3, e4, e5⟩⟩ rfl
theorem Md.row {w : World} {d : Drf} {b : Nat} {a c : ByteArray} {B o e1 e2 e3 e4 e5 g1 g2 g3 g4 g5 : Int} {X : World} (h : Md w d b ⟨a, B, c, o, ⟨e1, e2, e3, e4, e5⟩, ⟨g1, g2, g3, g4, g5⟩⟩ X) :
    X.heap[b]? = some (.cells #[.string a, .int .i64 B, .string c, .int .i64 o, .int .i64 e1, .int .i64 e2, .int .i64 e3, .int .i64 e4, .int .i64 e5, .int .i64 g1, .int .i64 g2, .int .i64 g3, .int .i64 g4, .int .i64 g5] 50 (0, 0)) := h.pos
theorem Md.row0 {w : World} {d : Drf} {b : Nat} {a c : ByteArray} {B o : Int} {X : World} (h : Md w d b ⟨a, B, c, o, Dt.zero, Dt.zero⟩ X) :
    X.heap[b]? = some (.cells #[.string a, .int .i64 B, .string c, .int .i64 o, .int .i64 0, .int .i64 0, .int .i64 0, .int .i64 0, .int .i64 0, .int .i64 0, .int .i64 0, .int .i64 0, .int .i64 0, .int .i64 0] 50 (0, 0)) := h.pos
theorem Md.resrow {w : World} {d : Drf} {b : Nat} {p : Pos} {X : World} (h : Md w d b p X) :
    X.heap[w.heap.size + 1]? = some (.cells #[.string ⟨#[]⟩, .int .i64 0, .string ⟨#[]⟩, .int .i64 0, .int .i64 0, .int .i64 0, .int .i64 0, .int .i64 0, .int .i64 0, .int .i64 0, .int .i64 0, .int .i64 0, .int .i64 0, .int .i64 0] 50 (0, 0)) := h.res
set_option maxHeartbeats 8000000 in
set_option maxRecDepth 100000 in
theorem made_cells (n0 n1 o0 o1 k0 k1 d0 d1 s0 s1 : Int) (q : Bool) (h : Drf.In ⟨n0, n1, o0, o1, k0, k1, d0, d1, s0, s1, q⟩) (w : World) :
    Calls Tryz.prog 48 #[.agg #[.int .u8 n0, .int .u8 n1, .int .u8 o0, .int .u8 o1, .int .u8 k0, .int .u8 k1, .int .u8 d0, .int .u8 d1, .int .u8 s0, .int .u8 s1, .bool q]] w fun e w' =>
      e = .returned (Drf.made ⟨n0, n1, o0, o1, k0, k1, d0, d1, s0, s1, q⟩).val ∧ Below w.heap.size w w' := by
  have C1 := Lib.hid (fun w => made_name n0 h.n0 w)
  have C2 := Lib.hid (fun w => made_off o0 h.o0 w)
  have HS : Hid (Md0 w ⟨n0, n1, o0, o1, k0, k1, d0, d1, s0, s1, q⟩ ((w.alloc (.cells #[.int .u8 n0, .int .u8 n1, .int .u8 o0, .int .u8 o1, .int .u8 k0, .int .u8 k1, .int .u8 d0, .int .u8 d1, .int .u8 s0, .int .u8 s1, .bool q] 37)).alloc (.cells #[.string ⟨#[]⟩, .int .i64 0, .string ⟨#[]⟩, .int .i64 0, .int .i64 0, .int .i64 0, .int .i64 0, .int .i64 0, .int .i64 0, .int .i64 0, .int .i64 0, .int .i64 0, .int .i64 0, .int .i64 0] 50))) := Lib.hid (Md0.start w ⟨n0, n1, o0, o1, k0, k1, d0, d1, s0, s1, q⟩ 37 50 rfl rfl)
  have HI := Lib.hid h
  clear h
  go_enter Tryz.func48, Tryz.ntmps48
  go_wp2_with fail
  obtain ⟨c0, c2, _⟩ := md0_S HS.out
  obtain ⟨A, hA⟩ : ∃ A, nameN n0 = A := ⟨_, rfl⟩
  obtain ⟨B, hB⟩ : ∃ B, offN o0 = B := ⟨_, rfl⟩
  rw [hA] at C1
  rw [hB] at C2
  go_cut [6] (fun v wx => MdAt w ⟨n0, n1, o0, o1, k0, k1, d0, d1, s0, s1, q⟩ ⟨A, B, bs [], 0, Dt.zero, Dt.zero⟩ v wx)
  case first =>
    have HN : Hid (Md w ⟨n0, n1, o0, o1, k0, k1, d0, d1, s0, s1, q⟩ (w.heap.size + 1 + 1) Pos.zero (((w.alloc (.cells #[.int .u8 n0, .int .u8 n1, .int .u8 o0, .int .u8 o1, .int .u8 k0, .int .u8 k1, .int .u8 d0, .int .u8 d1, .int .u8 s0, .int .u8 s1, .bool q] 37)).alloc (.cells #[.string ⟨#[]⟩, .int .i64 0, .string ⟨#[]⟩, .int .i64 0, .int .i64 0, .int .i64 0, .int .i64 0, .int .i64 0, .int .i64 0, .int .i64 0, .int .i64 0, .int .i64 0, .int .i64 0, .int .i64 0] 50)).alloc (.cells #[.string ⟨#[]⟩, .int .i64 0, .string ⟨#[]⟩, .int .i64 0, .int .i64 0, .int .i64 0, .int .i64 0, .int .i64 0, .int .i64 0, .int .i64 0, .int .i64 0, .int .i64 0, .int .i64 0, .int .i64 0] 50))) := Lib.hid (HS.out.newAt (w.heap.size + 1 + 1) (by simp) Pos.zero 50 rfl)
    go_region_held3 (fun w' => w'.cell? ⟨w.heap.size, 0, none⟩ = some (.int .u8 n0) ∧ w'.cell? ⟨w.heap.size, 2, none⟩ = some (.int .u8 o0) ∧ Md0 w ⟨n0, n1, o0, o1, k0, k1, d0, d1, s0, s1, q⟩ w')
      (first | with_reducible exact md0_S HX1.out.low | with_reducible exact md0_S HX0.out | with_reducible exact md0_S (HX0.out.alloc _) | with_reducible exact md0_S (HS.out.drew) | with_reducible exact md0_S (HN.out.low.drew) | with_reducible exact md0_S (((((((((((((((Md0.set (Md.low HX1.out) HX1.out.lt).set HX1.out.lt).set HX1.out.lt).set HX1.out.lt).set HX1.out.lt).set HX1.out.lt).set HX1.out.lt).set HX1.out.lt).set HX1.out.lt).set HX1.out.lt).set HX1.out.lt).set HX1.out.lt).set HX1.out.lt).set HX1.out.lt)))
      (first
        | (go_at_call 96; refine (C1.out _).mono ?_; rintro e X ⟨rfl, hb⟩; first | (with_reducible have HX0 : Hid (Md0 w ⟨n0, n1, o0, o1, k0, k1, d0, d1, s0, s1, q⟩ X) := Lib.hid (HS.out.callD hb); clear hb) | (with_reducible have HX1 : Hid (Md w ⟨n0, n1, o0, o1, k0, k1, d0, d1, s0, s1, q⟩ (w.heap.size + 1 + 1) Pos.zero X) := Lib.hid (HN.out.callD hb); obtain ⟨t0, t1, t2, t3, t4, t5, t6, t7, t8, t9, t10, t11, t12, t13⟩ := row14 HX1.out.pos; obtain ⟨u0, u1, u2, u3, u4, u5, u6, u7, u8, u9, u10, u11, u12, u13⟩ := free14 HX1.out.pos; clear hb))
        | (go_at_call 97; refine (C2.out _).mono ?_; rintro e X ⟨rfl, rfl⟩))
    -- CLOSE
    all_goals
      go_wp2_with fail
      go_meet
      first
        | exact ⟨_, rfl, HX0.out.new ⟨A, B, bs [], 0, Dt.zero, Dt.zero⟩ _ rfl⟩
        | exact ⟨_, rfl, ((((((((((((((HX1.out.set 0 (.string A) ⟨A, 0, bs [], 0, Dt.zero, Dt.zero⟩ rfl).set 1 (.int .i64 B) ⟨A, B, bs [], 0, Dt.zero, Dt.zero⟩ rfl).set 2 (.string ⟨#[]⟩) ⟨A, B, bs [], 0, Dt.zero, Dt.zero⟩ rfl).set 3 (.int .i64 0) ⟨A, B, bs [], 0, Dt.zero, Dt.zero⟩ rfl).set 4 (.int .i64 0) ⟨A, B, bs [], 0, Dt.zero, Dt.zero⟩ rfl).set 5 (.int .i64 0) ⟨A, B, bs [], 0, Dt.zero, Dt.zero⟩ rfl).set 6 (.int .i64 0) ⟨A, B, bs [], 0, Dt.zero, Dt.zero⟩ rfl).set 7 (.int .i64 0) ⟨A, B, bs [], 0, Dt.zero, Dt.zero⟩ rfl).set 8 (.int .i64 0) ⟨A, B, bs [], 0, Dt.zero, Dt.zero⟩ rfl).set 9 (.int .i64 0) ⟨A, B, bs [], 0, Dt.zero, Dt.zero⟩ rfl).set 10 (.int .i64 0) ⟨A, B, bs [], 0, Dt.zero, Dt.zero⟩ rfl).set 11 (.int .i64 0) ⟨A, B, bs [], 0, Dt.zero, Dt.zero⟩ rfl).set 12 (.int .i64 0) ⟨A, B, bs [], 0, Dt.zero, Dt.zero⟩ rfl).set 13 (.int .i64 0) ⟨A, B, bs [], 0, Dt.zero, Dt.zero⟩ rfl)⟩
  case rest =>
    obtain ⟨b, rfl, hM⟩ := hcut
    have HM := Lib.hid hM
    have HA := Lib.hid hA
    have HB := Lib.hid hB
    clear hM hA hB c0 c2
    obtain ⟨m0, m1, m2, m3, m4, m5, m6, m7, m8, m9, m10⟩ := HM.out.boxes
    obtain ⟨p0, p1, p2, p3, p4, p5, p6, p7, p8, p9, p10, p11, p12, p13⟩ := row14 HM.out.row0
    obtain ⟨r0, r1, r2, r3, r4, r5, r6, r7, r8, r9, r10, r11, r12, r13⟩ := row14 HM.out.resrow
    obtain ⟨f0, f1, f2, f3, f4, f5, f6, f7, f8, f9, f10, f11, f12, f13⟩ := free14 HM.out.resrow
    cases q
    · have HG := Lib.hid (free14 HM.out.row0)
      have D1 := Lib.hid (fun w => made_name n1 HI.out.n1 w)
      have D2 := Lib.hid (fun w => made_off o1 HI.out.o1 w)
      obtain ⟨C, hC⟩ : ∃ C, nameN n1 = C := ⟨_, rfl⟩
      obtain ⟨O, hO⟩ : ∃ O, offN o1 = O := ⟨_, rfl⟩
      rw [hC] at D1
      rw [hO] at D2
      obtain ⟨_, _, g2, g3, _⟩ := HG.out
      have hlt := HM.out.lt
      have HC := Lib.hid hC
      have HO := Lib.hid hO
      have HDS := Lib.hid (show dstN o0 o1 = if o1 % 3 = 0 then (if 89999 < B + 3600 then 89999 else B + 3600) else O by unfold dstN; rw [HB.out, hO])
      have ob := dst_ok HI.out.o0 HI.out.o1
      rw [offB_iff] at ob
      obtain ⟨Q, hQ⟩ : ∃ Q, dstN o0 o1 = Q := ⟨_, rfl⟩
      rw [hQ] at HDS ob
      have HQ := Lib.hid hQ
      clear hC hO hQ
      go_wp2_with fail
      go_cut [25] (fun _ wx => Md w ⟨n0, n1, o0, o1, k0, k1, d0, d1, s0, s1, false⟩ b ⟨A, B, C, O, Dt.zero, Dt.zero⟩ wx)
      case first =>
        have HM3 := Lib.hid (HM.out.set 3 (.int .i64 O) ⟨A, B, bs [], O, Dt.zero, Dt.zero⟩ rfl)
        go_region_held3 (fun w' => w'.cell? ⟨w.heap.size, 1, none⟩ = some (.int .u8 n1) ∧ w'.cell? ⟨w.heap.size, 3, none⟩ = some (.int .u8 o1) ∧ Md0 w ⟨n0, n1, o0, o1, k0, k1, d0, d1, s0, s1, false⟩ w')
          (first | with_reducible exact md1_S HX1.out.low | with_reducible exact md1_S HX0.out.low | with_reducible exact md1_S HM.out.low.drew | with_reducible exact md1_S HM3.out.low.drew | with_reducible exact md1_S (Md0.set HX0.out.low HX0.out.lt) | with_reducible exact md1_S (Md0.set (Md0.set HX0.out.low HX0.out.lt) HX0.out.lt) | with_reducible exact md1_S (Md0.set HX1.out.low HX1.out.lt))
          (first
            | (go_at_call 96; refine (D1.out _).mono ?_; rintro e X ⟨rfl, hb⟩; first | (with_reducible have HX0 : Hid (Md w ⟨n0, n1, o0, o1, k0, k1, d0, d1, s0, s1, false⟩ b ⟨A, B, bs [], 0, Dt.zero, Dt.zero⟩ X) := Lib.hid (HM.out.callD hb); obtain ⟨_, _, t2, t3, _⟩ := row14 HX0.out.row0; obtain ⟨_, _, u2, u3, _⟩ := free14 HX0.out.row0; clear hb) | (with_reducible have HX1 : Hid (Md w ⟨n0, n1, o0, o1, k0, k1, d0, d1, s0, s1, false⟩ b ⟨A, B, bs [], O, Dt.zero, Dt.zero⟩ X) := Lib.hid (HM3.out.callD hb); obtain ⟨_, _, t2, t3, _⟩ := row14 HX1.out.row0; obtain ⟨_, _, u2, u3, _⟩ := free14 HX1.out.row0; clear hb))
            | (go_at_call 97; refine (D2.out _).mono ?_; rintro e X ⟨rfl, rfl⟩))
        all_goals
          go_wp2_with fail
          go_meet
          first
            | exact (HX0.out.set 2 (.string C) ⟨A, B, C, 0, Dt.zero, Dt.zero⟩ rfl).set 3 (.int .i64 O) ⟨A, B, C, O, Dt.zero, Dt.zero⟩ rfl
            | exact (HX0.out.set 3 (.int .i64 O) ⟨A, B, bs [], O, Dt.zero, Dt.zero⟩ rfl).set 2 (.string C) ⟨A, B, C, O, Dt.zero, Dt.zero⟩ rfl
            | exact HX1.out.set 2 (.string C) ⟨A, B, C, O, Dt.zero, Dt.zero⟩ rfl
      case rest =>
        have HMC := Lib.hid hcut
        have ob2 := off_ok HI.out.o0
        rw [offB_iff, HB.out] at ob2
        obtain ⟨ob3, ob4⟩ := ob2
        have om : o1.tmod 3 = o1 % 3 := Int.tmod_eq_emod_of_nonneg HI.out.o1.1
        clear hcut m0 m1 m2 m3 m4 m5 m6 m7 m8 m9 m10 p0 p1 p2 p3 p4 p5 p6 p7 p8 p9 p10 p11 p12 p13 r0 r1 r2 r3 r4 r5 r6 r7 r8 r9 r10 r11 r12 r13 f0 f1 f2 f3 f4 f5 f6 f7 f8 f9 f10 f11 f12 f13 g2 g3 hlt
        obtain ⟨m0, m1, m2, m3, m4, m5, m6, m7, m8, m9, m10⟩ := HMC.out.boxes
        obtain ⟨_, p1, _, p3, _⟩ := row14 HMC.out.row0
        obtain ⟨_, _, _, f3, _⟩ := free14 HMC.out.row0
        have HT3 := Lib.hid (show (o1 % 3 == 0) = true ↔ o1 % 3 = 0 by simp)
        obtain ⟨T, hT⟩ : ∃ T, (o1 % 3 == 0) = T := ⟨_, rfl⟩
        rw [hT] at HT3
        go_upto_if 37 with fail
        go_cut [36] (fun _ wx => Md w ⟨n0, n1, o0, o1, k0, k1, d0, d1, s0, s1, false⟩ b ⟨A, B, C, Q, Dt.zero, Dt.zero⟩ wx)
        case first =>
          clear hT om
          cases T
          · have HD := HDS.out
            rw [if_neg (fun h => by have := HT3.out.2 h; cases this)] at HD
            subst HD
            clear HDS
            go_wp2_with fail
            go_meet
            exact HMC.out
          · have HD := HDS.out
            rw [if_pos (HT3.out.1 rfl)] at HD
            clear HDS
            by_cases h4 : 89999 < B + 3600
            · rw [if_pos h4] at HD
              subst HD
              go_wp2_with fail
              go_meet
              exact (HMC.out.set 3 (.int .i64 (B + 3600)) ⟨A, B, C, B + 3600, Dt.zero, Dt.zero⟩ rfl).set 3 (.int .i64 89999) ⟨A, B, C, 89999, Dt.zero, Dt.zero⟩ rfl
            · rw [if_neg h4] at HD
              subst HD
              go_wp2_with fail
              go_meet
              exact HMC.out.set 3 (.int .i64 (B + 3600)) ⟨A, B, C, B + 3600, Dt.zero, Dt.zero⟩ rfl
        case rest =>
          have HM2 := Lib.hid hcut
          clear hcut m0 m1 m2 m3 m4 m5 m6 m7 m8 m9 m10 p1 p3 f3 HM HDS D1 D2 C1 C2 ob HT3 hT om
          have E1 := Lib.hid (fun w => made_date k0 d0 s0 HI.out.k0 HI.out.d0 HI.out.s0 w)
          have E2 := Lib.hid (fun w => made_date k1 d1 s1 HI.out.k1 HI.out.d1 HI.out.s1 w)
          obtain ⟨SD, hSD⟩ : ∃ D, madeDt k0 d0 s0 = D := ⟨_, rfl⟩
          obtain ⟨ED, hED⟩ : ∃ D, madeDt k1 d1 s1 = D := ⟨_, rfl⟩
          rw [hSD] at E1
          rw [hED] at E2
          have HSD := Lib.hid hSD
          have HED := Lib.hid hED
          clear hSD hED
          obtain ⟨e1, e2, e3, e4, e5⟩ := SD
          obtain ⟨g1, g2, g3, g4, g5⟩ := ED
          unfold Dt.val at E1 E2
          dsimp only at E1 E2
          obtain ⟨m0, m1, m2, m3, m4, m5, m6, m7, m8, m9, m10⟩ := HM2.out.boxes
          go_wp2_with fail
          go_cut [56] (fun _ wx => Md w ⟨n0, n1, o0, o1, k0, k1, d0, d1, s0, s1, false⟩ b ⟨A, B, C, Q, ⟨e1, e2, e3, e4, e5⟩, ⟨g1, g2, g3, g4, g5⟩⟩ wx)
          case first =>
            go_region_held3 (fun w' => w'.cell? ⟨w.heap.size, 4, none⟩ = some (.int .u8 k0) ∧ w'.cell? ⟨w.heap.size, 5, none⟩ = some (.int .u8 k1) ∧ w'.cell? ⟨w.heap.size, 6, none⟩ = some (.int .u8 d0) ∧ w'.cell? ⟨w.heap.size, 7, none⟩ = some (.int .u8 d1) ∧ w'.cell? ⟨w.heap.size, 8, none⟩ = some (.int .u8 s0) ∧ w'.cell? ⟨w.heap.size, 9, none⟩ = some (.int .u8 s1) ∧ Md0 w ⟨n0, n1, o0, o1, k0, k1, d0, d1, s0, s1, false⟩ w')
              (first | with_reducible exact md2_S HX2.out.low | with_reducible exact md2_S HX1.out.low | with_reducible exact md2_S HM2.out.low.drew | with_reducible exact md2_S (Md0.set (Md0.set (Md0.set (Md0.set (Md0.set HX2.out.low HX2.out.lt) HX2.out.lt) HX2.out.lt) HX2.out.lt) HX2.out.lt) | with_reducible exact md2_S (Md0.set (Md0.set (Md0.set (Md0.set (Md0.set (Md0.set (Md0.set (Md0.set (Md0.set (Md0.set HX2.out.low HX2.out.lt) HX2.out.lt) HX2.out.lt) HX2.out.lt) HX2.out.lt) HX2.out.lt) HX2.out.lt) HX2.out.lt) HX2.out.lt) HX2.out.lt) | with_reducible exact md2_S (Md0.set (Md0.set (Md0.set (Md0.set (Md0.set HX1.out.low HX1.out.lt) HX1.out.lt) HX1.out.lt) HX1.out.lt) HX1.out.lt) | with_reducible exact md2_S (Md0.set (Md0.set (Md0.set (Md0.set (Md0.set (Md0.set (Md0.set (Md0.set (Md0.set (Md0.set HX1.out.low HX1.out.lt) HX1.out.lt) HX1.out.lt) HX1.out.lt) HX1.out.lt) HX1.out.lt) HX1.out.lt) HX1.out.lt) HX1.out.lt) HX1.out.lt))
              (first
            | (go_at_call 98; (with_reducible refine (E1.out _).mono ?_); rintro e X ⟨rfl, hb⟩; first
              | (with_reducible have HX1 : Hid (Md w ⟨n0, n1, o0, o1, k0, k1, d0, d1, s0, s1, false⟩ b ⟨A, B, C, Q, Dt.zero, Dt.zero⟩ X) := Lib.hid (HM2.out.callD hb); obtain ⟨_, _, _, _, t4, t5, t6, t7, t8, t9, t10, t11, t12, t13⟩ := row14 HX1.out.row0; obtain ⟨_, _, _, _, u4, u5, u6, u7, u8, u9, u10, u11, u12, u13⟩ := free14 HX1.out.row0; clear hb)
              | (with_reducible have HX2 : Hid (Md w ⟨n0, n1, o0, o1, k0, k1, d0, d1, s0, s1, false⟩ b ⟨A, B, C, Q, Dt.zero, Dt.zero⟩ X) := Lib.hid (HX1.out.keep hb); clear t4 t5 t6 t7 t8 t9 t10 t11 t12 t13 u4 u5 u6 u7 u8 u9 u10 u11 u12 u13; obtain ⟨_, _, _, _, t4, t5, t6, t7, t8, t9, t10, t11, t12, t13⟩ := row14 HX2.out.row0; obtain ⟨_, _, _, _, u4, u5, u6, u7, u8, u9, u10, u11, u12, u13⟩ := free14 HX2.out.row0; clear hb)
              | (have HX2 : Hid (Md w ⟨n0, n1, o0, o1, k0, k1, d0, d1, s0, s1, false⟩ b ⟨A, B, C, Q, Dt.zero, ⟨g1, g2, g3, g4, g5⟩⟩ X) := Lib.hid ((HX1.out.stop5 g1 g2 g3 g4 g5).keep hb); clear t4 t5 t6 t7 t8 t9 t10 t11 t12 t13 u4 u5 u6 u7 u8 u9 u10 u11 u12 u13; obtain ⟨_, _, _, _, t4, t5, t6, t7, t8, t9, t10, t11, t12, t13⟩ := row14 (show X.heap[b]? = some (.cells #[_, _, _, _, _, _, _, _, _, _, _, _, _, _] _ (0, 0)) from HX2.out.pos); obtain ⟨_, _, _, _, u4, u5, u6, u7, u8, u9, u10, u11, u12, u13⟩ := free14 (show X.heap[b]? = some (.cells #[_, _, _, _, _, _, _, _, _, _, _, _, _, _] _ (0, 0)) from HX2.out.pos); clear hb))
            | (go_at_call 98; (with_reducible refine (E2.out _).mono ?_); rintro e X ⟨rfl, hb⟩; first
              | (with_reducible have HX1 : Hid (Md w ⟨n0, n1, o0, o1, k0, k1, d0, d1, s0, s1, false⟩ b ⟨A, B, C, Q, Dt.zero, Dt.zero⟩ X) := Lib.hid (HM2.out.callD hb); obtain ⟨_, _, _, _, t4, t5, t6, t7, t8, t9, t10, t11, t12, t13⟩ := row14 HX1.out.row0; obtain ⟨_, _, _, _, u4, u5, u6, u7, u8, u9, u10, u11, u12, u13⟩ := free14 HX1.out.row0; clear hb)
              | (with_reducible have HX2 : Hid (Md w ⟨n0, n1, o0, o1, k0, k1, d0, d1, s0, s1, false⟩ b ⟨A, B, C, Q, Dt.zero, Dt.zero⟩ X) := Lib.hid (HX1.out.keep hb); clear t4 t5 t6 t7 t8 t9 t10 t11 t12 t13 u4 u5 u6 u7 u8 u9 u10 u11 u12 u13; obtain ⟨_, _, _, _, t4, t5, t6, t7, t8, t9, t10, t11, t12, t13⟩ := row14 HX2.out.row0; obtain ⟨_, _, _, _, u4, u5, u6, u7, u8, u9, u10, u11, u12, u13⟩ := free14 HX2.out.row0; clear hb)
              | (have HX2 : Hid (Md w ⟨n0, n1, o0, o1, k0, k1, d0, d1, s0, s1, false⟩ b ⟨A, B, C, Q, ⟨e1, e2, e3, e4, e5⟩, Dt.zero⟩ X) := Lib.hid ((HX1.out.start5 e1 e2 e3 e4 e5).keep hb); clear t4 t5 t6 t7 t8 t9 t10 t11 t12 t13 u4 u5 u6 u7 u8 u9 u10 u11 u12 u13; obtain ⟨_, _, _, _, t4, t5, t6, t7, t8, t9, t10, t11, t12, t13⟩ := row14 (show X.heap[b]? = some (.cells #[_, _, _, _, _, _, _, _, _, _, _, _, _, _] _ (0, 0)) from HX2.out.pos); obtain ⟨_, _, _, _, u4, u5, u6, u7, u8, u9, u10, u11, u12, u13⟩ := free14 (show X.heap[b]? = some (.cells #[_, _, _, _, _, _, _, _, _, _, _, _, _, _] _ (0, 0)) from HX2.out.pos); clear hb)))
            all_goals
              go_wp2_with fail
              go_meet
              first
                | exact (HX2.out.start5 e1 e2 e3 e4 e5).stop5 g1 g2 g3 g4 g5
                | exact (HX2.out.stop5 g1 g2 g3 g4 g5).start5 e1 e2 e3 e4 e5
                | exact HX2.out.start5 e1 e2 e3 e4 e5
                | exact HX2.out.stop5 g1 g2 g3 g4 g5
          case rest =>
            have HM4 := Lib.hid hcut
            clear hcut m0 m1 m2 m3 m4 m5 m6 m7 m8 m9 m10
            obtain ⟨p0, p1, p2, p3, p4, p5, p6, p7, p8, p9, p10, p11, p12, p13⟩ := row14 HM4.out.row
            obtain ⟨r0, r1, r2, r3, r4, r5, r6, r7, r8, r9, r10, r11, r12, r13⟩ := row14 HM4.out.resrow
            obtain ⟨f0, f1, f2, f3, f4, f5, f6, f7, f8, f9, f10, f11, f12, f13⟩ := free14 HM4.out.resrow
            go_wp2_with fail
            refine bodyPost_ret (v := .agg #[.string A, .int .i64 B, .string C, .int .i64 Q, .int .i64 e1, .int .i64 e2, .int .i64 e3, .int .i64 e4, .int .i64 e5, .int .i64 g1, .int .i64 g2, .int .i64 g3, .int .i64 g4, .int .i64 g5]) (by simp [results, Tryz.results48, go_sem, r0, r1, r2, r3, r4, r5, r6, r7, r8, r9, r10, r11, r12, r13]) rfl ⟨?_, ?_⟩
            · have hm : Drf.made ⟨n0, n1, o0, o1, k0, k1, d0, d1, s0, s1, false⟩ = ⟨nameN n0, offN o0, nameN n1, dstN o0 o1, madeDt k0 d0 s0, madeDt k1 d1 s1⟩ := rfl
              rw [hm, HA.out, HB.out, HC.out, HQ.out, HSD.out, HED.out]
              rfl
            · exact ((((((((((((((HM4.out.below.setCell (by simp) _).setCell (by simp) _).setCell (by simp) _).setCell (by simp) _).setCell (by simp) _).setCell (by simp) _).setCell (by simp) _).setCell (by simp) _).setCell (by simp) _).setCell (by simp) _).setCell (by simp) _).setCell (by simp) _).setCell (by simp) _).setCell (by simp) _)
    · go_wp2_with fail
      refine bodyPost_ret (v := .agg #[.string A, .int .i64 B, .string (bs []), .int .i64 0, .int .i64 0, .int .i64 0, .int .i64 0, .int .i64 0, .int .i64 0, .int .i64 0, .int .i64 0, .int .i64 0, .int .i64 0, .int .i64 0]) (by simp [results, Tryz.results48, go_sem, r0, r1, r2, r3, r4, r5, r6, r7, r8, r9, r10, r11, r12, r13]) rfl ⟨by rw [← HA.out, ← HB.out]; rfl, ?_⟩
      exact ((((((((((((((HM.out.below.setCell (by simp) _).setCell (by simp) _).setCell (by simp) _).setCell (by simp) _).setCell (by simp) _).setCell (by simp) _).setCell (by simp) _).setCell (by simp) _).setCell (by simp) _).setCell (by simp) _).setCell (by simp) _).setCell (by simp) _).setCell (by simp) _).setCell (by simp) _)
end Go.Proofs.YtlaplgaccjmbhaaGreatDoor.Px
namespace Go.Proofs.YtlaplgaccjmbhaaGreatDoor.Px
open Go.RowKit
open Civ
open Go.Joins Go.ChangeShapes Go.WideShapes Go.Deep
section
variable {H : Type} {enc : TypeId × Value → H} {w : World} {base : Nat} {spare : Nat → Bool} {held : Bool}
theorem u8_cells {n : Nat} {c : Value} {y : DataW H × List MemPlace} (h : DataW.trod enc Tryz.prog w base spare held n 5 [c] = some y) : ∃ x : Int, c = .int .u8 x ∧ U8 x := by
  obtain ⟨k, e1, _, e3⟩ := DataW.trod_int Tryz.underlying5 h
  refine ⟨k, by simpa using e1, ?_⟩
  unfold Lit.wf at e3
  rw [Bool.and_eq_true, decide_eq_true_eq, decide_eq_true_eq] at e3
  exact e3
set_option maxRecDepth 100000 in
theorem open_two {n : Nat} {c0 c1 : Value} {y : DataW H × List MemPlace} (h : DataW.trod enc Tryz.prog w base spare held n 35 [c0, c1] = some y) : ∃ a b : Int, c0 = .int .u8 a ∧ c1 = .int .u8 b ∧ U8 a ∧ U8 b := by
  obtain ⟨xs, m, _, hx, hlen, hn, hel⟩ := DataW.trod_array (n := 2) (e := 5) (by kernel_rfl) h
  have hc : Tryz.prog.cellsOf 5 = 1 := by kernel_rfl
  rw [hc] at hel
  match xs, hn with
  | [y0, y1], _ =>
    obtain ⟨a, ha, ha2⟩ := u8_cells (c := c0) (y := y0) (hel 0 (by decide))
    obtain ⟨b, hb, hb2⟩ := u8_cells (c := c1) (y := y1) (hel 1 (by decide))
    exact ⟨a, b, ha, hb, ha2, hb2⟩
end
end Go.Proofs.YtlaplgaccjmbhaaGreatDoor.Px
namespace Go.Proofs.YtlaplgaccjmbhaaGreatDoor.Px
open Go.RowKit
open Civ
open Off (run past digQ valD parseO dec)
theorem fin_more {r : Pr} (h : r.l ≠ []) : r.fin = (Pos.zero, 5) := by
  unfold Pr.fin Pr.bad
  rw [show r.l.isEmpty = false by simpa using h]
  simp
theorem fin_of {s : List UInt8} (hs : s.length ≤ 100) (h : (parseG rfF s).b = true ∨ (parseG rfF s).l ≠ []) : finG rfF s = (Pos.zero, 5) := by
  unfold finG
  rw [if_neg (by omega)]
  rcases h with h | h
  · exact fin_bad h
  · exact fin_more h
end Go.Proofs.YtlaplgaccjmbhaaGreatDoor.Px

