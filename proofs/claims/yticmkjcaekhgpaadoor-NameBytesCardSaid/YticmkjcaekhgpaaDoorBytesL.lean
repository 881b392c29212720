/- Plain laws for NameBytes: what becomes of a name if one byte of it is another one. -/
import Derived.Test.YticmkjcaekhgpaaDoorNameParts
namespace Go.Proofs.YticmkjcaekhgpaaDoor
open Go.RowKit

/-- whether another byte can stand where it stands -/
def wantB (n : Nat) (begins : Bool) : Bool := letB n || digB n || decide (n = 95) || decide (n = 43) || ((decide (n = 46) || decide (n = 45)) && !begins)
def beginsB (z : ByteArray) (k : Nat) : Bool := decide (k = 0) || decide ((z.data.toList.getD (k - 1) 0).toNat = 47)
def fineB (n : Nat) (set inside : Bool) : Bool := letB n || (set && inside && (digB n || decide (n = 95) || decide (n = 45)))

theorem front (l : List UInt8) : ∃ pre a, l = pre ++ a ∧ (∀ b ∈ a, b ≠ 47) ∧ (pre = [] ∨ ∃ q, pre = q ++ [47]) := by
  induction l with
  | nil => exact ⟨[], [], rfl, by simp, .inl rfl⟩
  | cons x r ih =>
    obtain ⟨pre, a, rfl, ha, hp⟩ := ih
    rcases hp with rfl | ⟨q, rfl⟩
    · by_cases hx : x = 47
      · subst hx
        exact ⟨[47], a, rfl, ha, .inr ⟨[], rfl⟩⟩
      · refine ⟨[], x :: a, rfl, ?_, .inl rfl⟩
        intro b hb
        rcases List.mem_cons.1 hb with rfl | hb
        · exact hx
        · exact ha b hb
    · exact ⟨x :: (q ++ [47]), a, by simp, ha, .inr ⟨x :: q, by simp⟩⟩
theorem behind (l : List UInt8) : ∃ b post, l = b ++ post ∧ (∀ x ∈ b, x ≠ 47) ∧ (post = [] ∨ ∃ r, post = 47 :: r) := by
  induction l with
  | nil => exact ⟨[], [], rfl, by simp, .inl rfl⟩
  | cons x r ih =>
    obtain ⟨b, post, rfl, hb, hp⟩ := ih
    by_cases hx : x = 47
    · subst hx
      exact ⟨[], 47 :: (b ++ post), rfl, by simp, .inr ⟨_, rfl⟩⟩
    · refine ⟨x :: b, post, rfl, ?_, hp⟩
      intro y hy
      rcases List.mem_cons.1 hy with rfl | hy
      · exact hx
      · exact hb y hy
/-- the parts of a text around one byte that is no slash -/
theorem parts_around (pre a b post : List UInt8) (ha : ∀ x ∈ a, x ≠ 47) (hb : ∀ x ∈ b, x ≠ 47) (hp : pre = [] ∨ ∃ q, pre = q ++ [47]) (hq : post = [] ∨ ∃ r, post = 47 :: r) :
    ∃ P R, ∀ c : UInt8, c ≠ 47 → splitB 47 (pre ++ a ++ c :: (b ++ post)) = P ++ (a ++ c :: b) :: R := by
  have hm : ∀ c : UInt8, c ≠ 47 → ∀ x ∈ a ++ c :: b, x ≠ 47 := by
    intro c hc x hx
    rcases List.mem_append.1 hx with h | h
    · exact ha x h
    · rcases List.mem_cons.1 h with rfl | h
      · exact hc
      · exact hb x h
  have key : ∃ R, ∀ c : UInt8, c ≠ 47 → splitB 47 (a ++ c :: (b ++ post)) = (a ++ c :: b) :: R := by
    rcases hq with rfl | ⟨r, rfl⟩
    · exact ⟨[], fun c hc => by rw [List.append_nil]; exact splitB_one 47 _ (hm c hc)⟩
    · exact ⟨splitB 47 r, fun c hc => by
        rw [show a ++ c :: (b ++ 47 :: r) = (a ++ c :: b) ++ 47 :: r by simp]
        exact splitB_at 47 _ r (hm c hc)⟩
  obtain ⟨R, hR⟩ := key
  rcases hp with rfl | ⟨q, rfl⟩
  · exact ⟨[], R, fun c hc => by rw [List.nil_append, List.nil_append]; exact hR c hc⟩
  · refine ⟨splitB 47 q, R, fun c hc => ?_⟩
    rw [show q ++ [47] ++ a ++ c :: (b ++ post) = q ++ 47 :: (a ++ c :: (b ++ post)) by simp, splitB_join, hR c hc]
theorem partOk_around (a b : List UInt8) (d c : UInt8) (h : partOk (a ++ d :: b) = true) : partOk (a ++ c :: b) = wantB c.toNat a.isEmpty := by
  unfold partOk ofOk at *
  simp only [Bool.and_eq_true, List.all_append, List.all_cons, List.length_append, List.length_cons] at h ⊢
  obtain ⟨⟨⟨⟨h1, h2⟩, h3a, h3d, h3b⟩, h4⟩, h5⟩ := h
  rw [h1, h2, h3a, h3b]
  have e : partP c.toNat = (letB c.toNat || digB c.toNat || decide (c.toNat = 95) || decide (c.toNat = 45) || decide (c.toNat = 46) || decide (c.toNat = 43)) := rfl
  have q : ∀ n m : Nat, (n == m) = decide (n = m) := fun n m => rfl
  cases a with
  | nil =>
    simp only [List.nil_append, List.headD_cons, List.isEmpty_nil, wantB, e, u8_of_toNat]
    rw [show ((46 : UInt8).toNat) = 46 from rfl, show ((45 : UInt8).toNat) = 45 from rfl, q, q]
    have hl : decide (c.toNat = 46) = true → letB c.toNat = false ∧ digB c.toNat = false ∧ decide (c.toNat = 95) = false ∧ decide (c.toNat = 43) = false := by
      intro h; have := of_decide_eq_true h; rw [this]; exact ⟨by decide, by decide, by decide, by decide⟩
    have hm : decide (c.toNat = 45) = true → letB c.toNat = false ∧ digB c.toNat = false ∧ decide (c.toNat = 95) = false ∧ decide (c.toNat = 43) = false := by
      intro h; have := of_decide_eq_true h; rw [this]; exact ⟨by decide, by decide, by decide, by decide⟩
    generalize letB c.toNat = x1 at *
    generalize digB c.toNat = x2 at *
    generalize decide (c.toNat = 95) = x3 at *
    generalize decide (c.toNat = 45) = x4 at *
    generalize decide (c.toNat = 46) = x5 at *
    generalize decide (c.toNat = 43) = x6 at *
    revert hl hm
    cases x4 <;> cases x5 <;> cases x1 <;> cases x2 <;> cases x3 <;> cases x6 <;> simp
  | cons x r =>
    simp only [List.cons_append, List.headD_cons] at h4 h5 ⊢
    rw [h4, h5]
    simp only [List.isEmpty_cons, wantB, e]
    generalize letB c.toNat = x1 at *
    generalize digB c.toNat = x2 at *
    generalize decide (c.toNat = 95) = x3 at *
    generalize decide (c.toNat = 45) = x4 at *
    generalize decide (c.toNat = 46) = x5 at *
    generalize decide (c.toNat = 43) = x6 at *
    cases x1 <;> cases x2 <;> cases x3 <;> cases x4 <;> cases x5 <;> cases x6 <;> rfl
theorem begins_front {z : ByteArray} {k : Nat} (hk : k < z.size) {pre a : List UInt8} (h : z.data.toList.take k = pre ++ a) (ha : ∀ b ∈ a, b ≠ 47) (hp : pre = [] ∨ ∃ q, pre = q ++ [47]) :
    beginsB z k = a.isEmpty := by
  unfold beginsB
  have hz : z.data.toList.length = z.size := len_eq z
  by_cases h0 : k = 0
  · subst h0
    have : pre ++ a = [] := by rw [← h]; rfl
    rw [(List.append_eq_nil_iff.1 this).2]; rfl
  · obtain ⟨j, rfl⟩ : ∃ j, k = j + 1 := ⟨k - 1, by omega⟩
    have hj : j < z.data.toList.length := by omega
    rw [decide_eq_false h0, Bool.false_or, Nat.add_sub_cancel, getD_lt hj]
    rw [List.take_succ_eq_append_getElem hj] at h
    rcases List.eq_nil_or_concat a with rfl | ⟨a', x, rfl⟩
    · rw [List.append_nil] at h
      rcases hp with rfl | ⟨q, rfl⟩
      · simp at h
      · have := (List.append_inj' h rfl).2
        have e : z.data.toList[j] = 47 := by simpa using this
        rw [e]; rfl
    · rw [List.concat_eq_append, ← List.append_assoc] at h
      have := (List.append_inj' h rfl).2
      have e : z.data.toList[j] = x := by simpa using this
      have hx := ha x (by simp)
      rw [e]
      have : (a'.concat x).isEmpty = false := by simp
      rw [this, decide_eq_false_iff_not]
      intro hc
      exact hx (UInt8.toNat_inj.1 hc)
/-- a name with another byte somewhere -/
theorem zone_other (z : ByteArray) (k : Nat) (hk : k < z.size) (d : UInt8) (hz : zoneOk z.data.toList = true) (hd : d ≠ 47) (hc : z.data.toList.getD k 0 ≠ 47) :
    zoneOk (z.data.toList.take k ++ d :: z.data.toList.drop (k + 1)) = wantB d.toNat (beginsB z k) := by
  have hl : z.data.toList.length = z.size := len_eq z
  have hk' : k < z.data.toList.length := by omega
  obtain ⟨pre, a, e1, ha, hp⟩ := front (z.data.toList.take k)
  obtain ⟨b, post, e2, hb, hq⟩ := behind (z.data.toList.drop (k + 1))
  obtain ⟨P, R, hPR⟩ := parts_around pre a b post ha hb hp hq
  have ez : z.data.toList = pre ++ a ++ z.data.toList.getD k 0 :: (b ++ post) := by
    rw [← e1, ← e2, getD_lt hk', List.getElem_cons_drop, List.take_append_drop]
  have h0 := hPR _ hc
  rw [← ez] at h0
  have h1 := hPR d hd
  rw [e1, e2, begins_front hk e1 ha hp]
  unfold zoneOk at hz ⊢
  rw [h0] at hz
  rw [h1]
  simp only [Bool.and_eq_true, List.all_append, List.all_cons] at hz ⊢
  obtain ⟨hz1, hP, hm, hR⟩ := hz
  rw [hP, hR, partOk_around a b _ d hm]
  have : decide ((pre ++ a ++ d :: (b ++ post)).length ≤ 60) = true := by
    have e : (pre ++ a ++ d :: (b ++ post)).length = z.data.toList.length := by
      rw [congrArg List.length ez]; simp
    rw [e]; exact hz1
  rw [this]
  simp
/-- letters with another byte somewhere -/
theorem ofOk_other {l : List UInt8} (h : ∀ c ∈ l, letB c.toNat = true) (k : Nat) (hk : k < l.length) (d : UInt8) (a b : Int) (q : Nat → Bool) (hq : ∀ n, letB n = true → q n = true) (ha : a ≤ l.length) (hb : (l.length : Int) ≤ b) :
    ofOk a b q (l.take k ++ d :: l.drop (k + 1)) = q d.toNat := by
  unfold ofOk
  have e : (l.take k ++ d :: l.drop (k + 1)).length = l.length := by simp; omega
  rw [e, decide_eq_true ha, decide_eq_true hb, List.all_append, List.all_cons, all_imp (fun c hc => h c (List.mem_of_mem_take hc)) hq, all_imp (fun c hc => h c (List.mem_of_mem_drop hc)) hq]
  simp
theorem letter_other {l : List UInt8} (h : ∀ c ∈ l, letB c.toNat = true) (k : Nat) (hk : k < l.length) (d : UInt8) (hl : l.length ≤ 4) : letterOk (l.take k ++ d :: l.drop (k + 1)) = letB d.toNat :=
  ofOk_other h k hk d 1 4 letB (fun _ hn => hn) (by omega) (by omega)
theorem abbr_other {l : List UInt8} (h : ∀ c ∈ l, letB c.toNat = true) (k : Nat) (hk : k < l.length) (d : UInt8) (h3 : 3 ≤ l.length) (hl : l.length ≤ 6) : abbrOk (l.take k ++ d :: l.drop (k + 1)) = letB d.toNat :=
  ofOk_other h k hk d 3 6 letB (fun _ hn => hn) (by omega) (by omega)
theorem set_other {l : List UInt8} (h : ∀ c ∈ l, letB c.toNat = true) (k : Nat) (hk : k < l.length) (d : UInt8) (hl : l.length ≤ 30) : setOk (l.take k ++ d :: l.drop (k + 1)) = fineB d.toNat true (decide (0 < k)) := by
  unfold setOk
  rw [ofOk_other h k hk d 1 30 setP (fun n hn => by unfold setP; rw [hn]; rfl) (by omega) (by omega)]
  unfold fineB setP
  cases l with
  | nil => simp at hk
  | cons x r =>
    cases k with
    | zero =>
      simp only [List.take_zero, List.nil_append, List.headD_cons]
      cases letB d.toNat <;> simp
    | succ k =>
      simp only [List.take_succ_cons, List.cons_append, List.headD_cons]
      rw [h x (by simp)]
      cases letB d.toNat <;> simp
theorem other_list (s x1 : ByteArray) (d : UInt8) (k : Nat) (hx : x1.data.toList = [d]) : (s.extract 0 k ++ x1 ++ s.extract (k + 1) s.size).data.toList = s.data.toList.take k ++ d :: s.data.toList.drop (k + 1) := by
  rw [ba_list, ba_list, ext_list, ext_list, hx]
  have : s.data.toList.length = s.size := len_eq s
  rw [List.take_of_length_le (l := s.data.toList.drop (k + 1)) (by first | (simp; done) | (simp; omega))]
  simp
end Go.Proofs.YticmkjcaekhgpaaDoor
