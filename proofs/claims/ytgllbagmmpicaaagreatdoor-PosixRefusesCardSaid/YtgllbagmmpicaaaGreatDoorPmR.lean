/- Strings that are not right, plain: the canonical string of a draft with a byte more, or less. No program in sight. -/
import Derived.Test.YtgllbagmmpicaaaGreatDoorPmB
namespace Go.Proofs.YtgllbagmmpicaaaGreatDoor.Px
open Go.RowKit
open Civ
open Off (run past digQ valD parseO dec)

theorem fin_more {r : Pr} (h : r.l ≠ []) : r.fin = (Pos.zero, 5) := by
  unfold Pr.fin Pr.bad
  rw [show r.l.isEmpty = false by simpa using h]
  simp
theorem fin_of {s : List UInt8} (hs : s.length ≤ 100) (h : (parseG rfF s).b = true ∨ (parseG rfF s).l ≠ []) : finG rfF s = (Pos.zero, 5) := by
  unfold finG
  rw [if_neg (by omega)]
  rcases h with h | h
  · exact fin_bad h
  · exact fin_more h
/-- more bytes behind -/
theorem bad_more {d : Drf} (h : d.In) (hn : d.non = false) {r : List UInt8} (hne : r ≠ []) (hlen : r.length ≤ 20) (hr : Hdn secQ r) (h47 : r.head? ≠ some 47) : finG rfF (printL d.made ++ r) = (Pos.zero, 5) := by
  obtain ⟨l, o, c, e, s, t, hm, g1, g2, g3, g4, g5, g6, g7, g8, g9⟩ := made_two h hn
  refine fin_of (by rw [List.length_append]; omega) (.inr ?_)
  rw [hm, parse_back g1 g2 g3 g4 g5 g6 g7 g8 hr (fun _ => h47)]
  exact hne
/-- a slash behind -/
theorem bad_slash {d : Drf} (h : d.In) (hn : d.non = false) : finG rfF (printL d.made ++ [47]) = (Pos.zero, 5) := by
  obtain ⟨l, o, c, e, s, t, hm, g1, g2, g3, g4, g5, g6, g7, g8, g9⟩ := made_two h hn
  refine fin_of (by rw [List.length_append]; simp; omega) ?_
  rw [hm, print_front g2.ne, front_app, parse_front g1 g2 g3 g4 g5 g6]
  exact date_slash g7 g8
theorem front_b (s : List UInt8) (h : (nmB s || rfF.mb (nmS s)) = true) : (parseG rfF s).b = true := by
  have key : ∀ x y : Bool, (nmB s || rfF.mb (nmS s) || x || y) = true := by intro x y; rw [h]; simp
  have dates : ∀ a o c d l b, b = true → (datesG rfF a o c d l b).b = true := by
    intro a o c d l b hb
    unfold datesG
    dsimp only
    rw [hb]
    simp
  unfold parseG
  split
  · dsimp only
    rw [h]; simp
  · unfold dstG
    split
    · exact dates _ _ _ _ _ _ (by rw [h]; simp)
    · exact dates _ _ _ _ _ _ (by rw [h]; simp)
/-- a space ahead -/
theorem bad_space {d : Drf} (h : d.In) : finG rfF (32 :: printL d.made) = (Pos.zero, 5) := by
  have hl := (made_back h).2
  refine fin_of (by rw [List.length_cons]; omega) (.inl (front_b _ ?_))
  have h1 : nmS (32 :: printL d.made) = [] := by
    unfold nmS nmP
    rw [next_no (by rw [List.head?_cons]; decide), if_neg (by decide), nextR_no (by rw [List.head?_cons]; decide)]
    unfold run
    rw [List.takeWhile_cons_of_neg (by decide)]
  rw [h1]
  simp [rfF, nameOk]
/-- bytes up to one that no name has, and that does not end one -/
theorem past_no62 (c : UInt8) (v : List UInt8) (hc : inB c = false) (h62 : c ≠ 62) : ∀ u : List UInt8, (∀ x ∈ u, x ≠ 62) → nextB 62 (past inB (u ++ c :: v)) = false
  | [], _ => by
    rw [List.nil_append]
    unfold past
    rw [List.dropWhile_cons_of_neg (by rw [hc]; decide)]
    exact next_no (by rw [List.head?_cons]; exact fun e => h62 (Option.some.inj e))
  | a :: u, h => by
    by_cases ha : inB a = true
    · have := past_no62 c v hc h62 u (fun x hx => h x (by simp [hx]))
      unfold past at *
      rw [List.cons_append, List.dropWhile_cons_of_pos ha]
      exact this
    · unfold past
      rw [List.cons_append, List.dropWhile_cons_of_neg ha]
      exact next_no (by rw [List.head?_cons]; exact fun e => h a (by simp) (Option.some.inj e))
theorem let_byte (c : UInt8) : letC c = true → c ≠ 62 := of_decide_eq_true (every_byte (fun c => decide (letC c = true → c ≠ 62)) (by kernel_rfl) c)
theorem lets62 {l : List UInt8} (h : l.all letC = true) : ∀ x ∈ l, x ≠ 62 := fun x hx => let_byte x (List.all_eq_true.1 h x hx)
theorem secs62 {x : Int} (h : SecGood x) : ∀ y ∈ shortL x, y ≠ 62 := fun y hy => (sec_byte y (List.all_eq_true.1 h.all y hy)).2.2
theorem off62 {o e : Int} (h : SecGood (-e)) : ∀ y ∈ offL o e, y ≠ 62 := by
  unfold offL
  split
  · intro y hy; cases hy
  · exact secs62 h
/-- a quote ahead -/
theorem bad_quote {d : Drf} (h : d.In) (hn : d.non = false) : finG rfF (60 :: printL d.made) = (Pos.zero, 5) := by
  obtain ⟨l, o, c, e, s, t, hm, g1, g2, g3, g4, g5, g6, g7, g8, g9⟩ := made_two h hn
  refine fin_of (by rw [List.length_cons]; omega) (.inl (front_b _ ?_))
  have key : nextB 62 (past inB (printL d.made)) = false := by
    rw [hm, print_front g2.ne]
    unfold frontL
    by_cases hl : l.all letC = true
    · by_cases hc : c.all letC = true
      · rw [show quoteL l = l by unfold quoteL; rw [if_pos hl], show quoteL c = c by unfold quoteL; rw [if_pos hc], show l ++ (shortL (-o) ++ (c ++ (offL o e ++ 44 :: (textL s ++ 44 :: textL t)))) = (l ++ shortL (-o) ++ c ++ offL o e) ++ 44 :: (textL s ++ 44 :: textL t) by simp]
        refine past_no62 44 _ (by decide) (by decide) _ ?_
        intro x hx
        simp only [List.mem_append] at hx
        rcases hx with ((hx | hx) | hx) | hx
        · exact lets62 hl x hx
        · exact secs62 g3 x hx
        · exact lets62 hc x hx
        · exact off62 g4 x hx
      · rw [show quoteL l = l by unfold quoteL; rw [if_pos hl], show quoteL c = 60 :: c ++ [62] by unfold quoteL; rw [if_neg hc], show l ++ (shortL (-o) ++ ((60 :: c ++ [62]) ++ (offL o e ++ 44 :: (textL s ++ 44 :: textL t)))) = (l ++ shortL (-o)) ++ 60 :: (c ++ [62] ++ (offL o e ++ 44 :: (textL s ++ 44 :: textL t))) by simp]
        refine past_no62 60 _ (by decide) (by decide) _ ?_
        intro x hx
        rcases List.mem_append.1 hx with hx | hx
        · exact lets62 hl x hx
        · exact secs62 g3 x hx
    · rw [show quoteL l = 60 :: l ++ [62] by unfold quoteL; rw [if_neg hl]]
      exact past_no62 60 _ (by decide) (by decide) [] (by simp)
  unfold nmB nmT nmP
  rw [next_yes, if_pos rfl, nextR_yes, key]
  rfl
theorem take3 {l : List UInt8} (h : 3 ≤ (quoteL l).length) (r : List UInt8) : (quoteL l ++ r).take 3 = (quoteL l).take 3 := by
  rw [List.take_append_of_le_length h]
/-- the first three bytes alone -/
theorem bad_take {d : Drf} (hn : d.non = false) : finG rfF ((printL d.made).take 3) = (Pos.zero, 5) := by
  have hm : d.made = ⟨bs (nameL8 d.n0), offN d.o0, bs (nameL8 d.n1), dstN d.o0 d.o1, madeDt d.k0 d.d0 d.s0, madeDt d.k1 d.d1 d.s1⟩ := by
    unfold Drf.made; rw [hn, if_neg (by decide)]; rfl
  rw [hm, print_front (nameGood8 _).ne]
  unfold frontL
  have := names_all (P := fun l => 3 ≤ (quoteL l).length ∧ finG rfF ((quoteL l).take 3) = (Pos.zero, 5)) (by
    intro l hl
    simp only [names8, List.mem_cons, List.not_mem_nil, or_false] at hl
    rcases hl with rfl | rfl | rfl | rfl | rfl | rfl | rfl | rfl
    all_goals exact ⟨by decide, by kernel_rfl⟩) d.n0
  rw [take3 this.1]
  exact this.2
theorem print_three {d : Drf} (hn : d.non = false) : 3 ≤ (printL d.made).length := by
  have hm : d.made = ⟨bs (nameL8 d.n0), offN d.o0, bs (nameL8 d.n1), dstN d.o0 d.o1, madeDt d.k0 d.d0 d.s0, madeDt d.k1 d.d1 d.s1⟩ := by
    unfold Drf.made; rw [hn, if_neg (by decide)]; rfl
  rw [hm, print_front (nameGood8 _).ne]
  unfold frontL
  have := names_all (P := fun l => 3 ≤ (quoteL l).length) (by decide) d.n0
  rw [List.length_append]
  omega
end Go.Proofs.YtgllbagmmpicaaaGreatDoor.Px
