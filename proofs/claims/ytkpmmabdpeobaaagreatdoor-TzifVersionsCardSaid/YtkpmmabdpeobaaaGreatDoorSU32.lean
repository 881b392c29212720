/- Stable sorting, plain: what a stable order by a rank is, that there is one alone, and that the steps of the library's merging keep it. No program in sight. Pools of strings (chapter 39), plain: the program's pool and the document's are one. No program in sight. -/
import Derived.Lib.Index
import Derived.Lib.IndexLaws
namespace Go.Proofs.YtkpmmabdpeobaaaGreatDoor.St
section
variable {α : Type} (k : α → Int)
structure Stb (D C : List α) : Prop where
 sorted : C.Pairwise (fun x y => k x ≤ k y)
 same : ∀ r : Int, C.filter (fun x => decide (k x = r)) = D.filter (fun x => decide (k x = r))
variable {k}
theorem Stb.nil : Stb k [] [] := ⟨List.Pairwise.nil, fun _ => rfl⟩
theorem Stb.mem {D C : List α} (h : Stb k D C) (x : α) : x ∈ C ↔ x ∈ D := by
 have := h.same (k x)
 have e : ∀ l : List α, x ∈ l ↔ x ∈ l.filter (fun y => decide (k y = k x)) := fun l => by simp
 rw [e C, e D, this]
theorem Stb.self {D : List α} (h : D.Pairwise (fun x y => k x ≤ k y)) : Stb k D D := ⟨h, fun _ => rfl⟩
theorem Stb.trans {D C E : List α} (h : Stb k D C) (h2 : Stb k C E) : Stb k D E := ⟨h2.sorted, fun r => (h2.same r).trans (h.same r)⟩
theorem unique : ∀ {C E : List α}, C.Pairwise (fun x y => k x ≤ k y) → E.Pairwise (fun x y => k x ≤ k y) → (∀ r : Int, C.filter (fun x => decide (k x = r)) = E.filter (fun x => decide (k x = r))) → C = E
 | [], [], _, _, _ => rfl
 | [], y :: E, _, _, h => by have := h (k y); simp at this
 | x :: C, [], _, _, h => by have := h (k x); simp at this
 | x :: C, y :: E, hc, he, h => by
   obtain ⟨hc1, hc2⟩ := List.pairwise_cons.1 hc
   obtain ⟨he1, he2⟩ := List.pairwise_cons.1 he
   have mem : ∀ z : α, z ∈ x :: C ↔ z ∈ y :: E := fun z => by
    have e : ∀ l : List α, z ∈ l ↔ z ∈ l.filter (fun w => decide (k w = k z)) := fun l => by simp
    rw [e (x :: C), e (y :: E), h]
   have hk : k x = k y := by
    have h1 : k x ≤ k y := by
     rcases List.mem_cons.1 ((mem y).2 (List.mem_cons_self ..)) with e | hy
     · rw [e]; exact Int.le_refl _
     · exact hc1 y hy
    have h2 : k y ≤ k x := by
     rcases List.mem_cons.1 ((mem x).1 (List.mem_cons_self ..)) with e | hx
     · rw [e]; exact Int.le_refl _
     · exact he1 x hx
    omega
   have hh := h (k x)
   rw [List.filter_cons_of_pos (by simp), List.filter_cons_of_pos (by simp [hk])] at hh
   obtain ⟨rfl, hh2⟩ := List.cons.inj hh
   have ht : ∀ r : Int, C.filter (fun w => decide (k w = r)) = E.filter (fun w => decide (k w = r)) := by
    intro r
    by_cases hr : k x = r
    · subst hr; exact hh2
    · have := h r
      rwa [List.filter_cons_of_neg (by simpa using hr), List.filter_cons_of_neg (by simpa using hr)] at this
   rw [unique hc2 he2 ht]
theorem Stb.unique {D C E : List α} (h : Stb k D C) (h2 : Stb k D E) : C = E := St.unique h.sorted h2.sorted fun r => (h.same r).trans (h2.same r).symm
theorem Stb.len {D C : List α} (h : Stb k D C) : C.length = D.length := by
 have key : ∀ (n : Nat) (D C : List α), D.length = n → (∀ r : Int, C.filter (fun x => decide (k x = r)) = D.filter (fun x => decide (k x = r))) → C.length = D.length := by
  intro n
  induction n with
  | zero =>
    intro D C hD hs
    obtain rfl := List.length_eq_zero_iff.1 hD
    cases C with
    | nil => rfl
    | cons x C => have := hs (k x); simp at this
  | succ n ih =>
    intro D C hD hs
    obtain ⟨x, D', rfl⟩ : ∃ x D', D = x :: D' := by
     cases D with
     | nil => simp at hD
     | cons x D' => exact ⟨x, D', rfl⟩
    have hx : x ∈ C := by
     have := hs (k x)
     have h2 : x ∈ C.filter (fun y => decide (k y = k x)) := by rw [this]; simp
     exact (List.mem_filter.1 h2).1
    -- the elements of the rank of x and the others, by themselves
    have sp : ∀ l : List α, l.length = (l.filter (fun y => decide (k y = k x))).length + (l.filter (fun y => !decide (k y = k x))).length := fun l => by
     induction l with
     | nil => rfl
     | cons a l il =>
       by_cases ha : k a = k x
       · simp [ha] at il ⊢; omega
       · simp [ha] at il ⊢; omega
    have hle : ((x :: D').filter (fun y => !decide (k y = k x))).length ≤ n := by
     rw [List.filter_cons_of_neg (by simp)]
     have := List.length_filter_le (fun y => !decide (k y = k x)) D'
     simp only [List.length_cons] at hD
     omega
    rw [sp C, sp (x :: D'), hs (k x)]
    have hs' : ∀ r : Int, (C.filter (fun y => !decide (k y = k x))).filter (fun y => decide (k y = r)) = ((x :: D').filter (fun y => !decide (k y = k x))).filter (fun y => decide (k y = r)) := by
     intro r
     rw [List.filter_filter, List.filter_filter]
     by_cases hr : r = k x
     · subst hr
       have e : ∀ l : List α, l.filter (fun a => decide (k a = k x) && !decide (k a = k x)) = [] := fun l => by simp
       rw [e, e]
     · have e : ∀ l : List α, l.filter (fun a => decide (k a = r) && !decide (k a = k x)) = l.filter (fun a => decide (k a = r)) := fun l => by
         apply List.filter_congr
         intro a _
         by_cases ha : k a = r
         · simp [ha, hr]
         · simp [ha]
       rw [e, e, hs r]
    have strong : ∀ (m : Nat) (D C : List α), D.length = m → m ≤ n → (∀ r : Int, C.filter (fun x => decide (k x = r)) = D.filter (fun x => decide (k x = r))) → C.length = D.length := by
     intro m
     induction m using Nat.strongRecOn with
     | _ m im =>
       intro D C hDm hmn hs
       by_cases hm : m = n
       · exact ih D C (hDm.trans hm) hs
       · -- put elements in front until there are n
         obtain ⟨z⟩ : Nonempty α := ⟨x⟩
         have := ih (List.replicate (n - m) z ++ D) (List.replicate (n - m) z ++ C) (by rw [List.length_append, List.length_replicate]; omega) (fun r => by rw [List.filter_append, List.filter_append, hs r])
         simp only [List.length_append, List.length_replicate] at this
         omega
    rw [strong _ _ _ rfl hle hs']
 exact key _ D C rfl h.same
theorem Stb.join {A1 A2 B1 B2 C1 C2 : List α} (h1 : Stb k (A1 ++ B1) C1) (h2 : Stb k (A2 ++ B2) C2)
 (a12 : ∀ x ∈ A1, ∀ y ∈ A2, k x ≤ k y) (b12 : ∀ x ∈ B1, ∀ y ∈ B2, k x ≤ k y) (ab : ∀ x ∈ A1, ∀ y ∈ B2, k x ≤ k y) (ba : ∀ x ∈ B1, ∀ y ∈ A2, k x < k y) :
 Stb k (A1 ++ A2 ++ (B1 ++ B2)) (C1 ++ C2) := by
 refine ⟨List.pairwise_append.2 ⟨h1.sorted, h2.sorted, fun x hx y hy => ?_⟩, fun r => ?_⟩
 · rcases List.mem_append.1 ((h1.mem x).1 hx) with hx | hx
   · rcases List.mem_append.1 ((h2.mem y).1 hy) with hy | hy
     · exact a12 x hx y hy
     · exact ab x hx y hy
   · rcases List.mem_append.1 ((h2.mem y).1 hy) with hy | hy
     · exact Int.le_of_lt (ba x hx y hy)
     · exact b12 x hx y hy
 · rw [List.filter_append, h1.same, h2.same]
   simp only [List.filter_append]
   have : A2.filter (fun x => decide (k x = r)) = [] ∨ B1.filter (fun x => decide (k x = r)) = [] := by
    by_cases e : B1.filter (fun x => decide (k x = r)) = []
    · exact .inr e
    · left
      obtain ⟨b, hb⟩ := List.exists_mem_of_ne_nil _ e
      obtain ⟨hb1, hb2⟩ := List.mem_filter.1 hb
      rw [List.filter_eq_nil_iff]
      intro y hy
      have := ba b hb1 y hy
      have e2 : k b = r := by simpa using hb2
      simp only [decide_eq_true_eq]
      omega
   rcases this with e | e
   · rw [e]; simp
   · rw [e]; simp
end
end Go.Proofs.YtkpmmabdpeobaaaGreatDoor.St
namespace Go.Proofs.YtkpmmabdpeobaaaGreatDoor.Po
open St
abbrev B := List UInt8
def w (s : B) : B := s ++ [0]
theorem w_len (s : B) : (w s).length = s.length + 1 := by unfold w; simp
theorem occ_app {p q x : B} {j : Nat} (h : j + x.length ≤ p.length) : Lib.occAt (p ++ q) x j = Lib.occAt p x j := by
 unfold Lib.occAt
 rw [List.drop_append_of_le_length (by omega), Bool.eq_iff_iff, List.isPrefixOf_iff_prefix, List.isPrefixOf_iff_prefix]
 constructor
 · intro hp
   exact List.prefix_of_prefix_length_le hp (List.prefix_append _ _) (by rw [List.length_drop]; omega)
 · intro hp
   exact hp.trans (List.prefix_append _ _)
theorem occ_len {p x : B} {j : Nat} (h : Lib.occAt p x j = true) (hj : j ≤ p.length) : j + x.length ≤ p.length := by
 unfold Lib.occAt at h
 rw [List.isPrefixOf_iff_prefix] at h
 have := h.length_le
 rw [List.length_drop] at this
 omega
theorem index_cases (p x : B) : (Lib.index p x = -1 ∧ ∀ j, j ≤ p.length → Lib.occAt p x j = false) ∨ ∃ i : Nat, Lib.index p x = i ∧ i ≤ p.length ∧ Lib.occAt p x i = true ∧ ∀ j, j < i → Lib.occAt p x j = false := by
 by_cases h : ∃ j, j ≤ p.length ∧ Lib.occAt p x j = true
 · right
   obtain ⟨j0, hj0, ho⟩ := h
   have key : ∀ n : Nat, ∀ j, j ≤ n → j ≤ p.length → Lib.occAt p x j = true → ∃ i, i ≤ p.length ∧ Lib.occAt p x i = true ∧ ∀ m, m < i → Lib.occAt p x m = false := by
    intro n
    induction n with
    | zero =>
      intro j hj hl ho
      exact ⟨j, hl, ho, fun m hm => by omega⟩
    | succ n ih =>
      intro j hj hl ho
      by_cases he : ∃ m, m < j ∧ Lib.occAt p x m = true
      · obtain ⟨m, hm, hmo⟩ := he
        exact ih m (by omega) (by omega) hmo
      · exact ⟨j, hl, ho, fun m hm => by
          cases e : Lib.occAt p x m
          · rfl
          · exact absurd ⟨m, hm, e⟩ he⟩
   obtain ⟨i, h1, h2, h3⟩ := key j0 j0 (Nat.le_refl _) hj0 ho
   exact ⟨i, Lib.index_first h1 h2 h3, h1, h2, h3⟩
 · left
   have hn : ∀ j, j ≤ p.length → Lib.occAt p x j = false := fun j hj => by
    cases e : Lib.occAt p x j
    · rfl
    · exact absurd ⟨j, hj, e⟩ h
   exact ⟨Lib.index_none hn, hn⟩
theorem index_grow {p q x : B} {i : Nat} (h : Lib.index p x = (i : Int)) : Lib.index (p ++ q) x = (i : Int) := by
 rcases index_cases p x with ⟨h1, _⟩ | ⟨j, h1, h2, h3, h4⟩
 · omega
 · obtain rfl : j = i := by omega
   have hl := occ_len h3 h2
   refine Lib.index_first (by rw [List.length_append]; omega) (by rw [occ_app hl]; exact h3) (fun m hm => ?_)
   rw [occ_app (by omega)]
   exact h4 m hm
def Form (p : B) : Prop := p = [] ∨ p.getLast? = some 0
theorem form_w (p s : B) : Form (p ++ w s) := by
 right
 unfold w
 rw [← List.append_assoc, List.getLast?_concat]
theorem index_new {p s q : B} (hp : Form p) (hs : (0 : UInt8) ∉ s) (h : Lib.index p (w s) < 0) : Lib.index (p ++ w s ++ q) (w s) = (p.length : Int) := by
 rcases index_cases p (w s) with ⟨_, h1⟩ | ⟨j, h1, _⟩
 · refine Lib.index_first (by simp only [List.length_append]; omega) ?_ (fun m hm => ?_)
   · unfold Lib.occAt
     rw [List.append_assoc, List.drop_left' rfl, List.isPrefixOf_iff_prefix]
     exact List.prefix_append _ _
   · by_cases hl : m + (w s).length ≤ p.length
     · rw [List.append_assoc, occ_app hl]
       exact h1 m (by omega)
     · cases e : Lib.occAt (p ++ w s ++ q) (w s) m with
       | false => rfl
       | true =>
         exfalso
         unfold Lib.occAt at e
         rw [List.isPrefixOf_iff_prefix] at e
         obtain ⟨r, hr⟩ := e
         -- the byte at the end of p
         have hp0 : p ≠ [] := by intro e; rw [e] at hm; simp at hm
         have hlast : p[p.length - 1]? = some 0 := by
          rcases hp with hp | hp
          · exact absurd hp hp0
          · rw [List.getLast?_eq_getElem?] at hp; exact hp
         have hi : p.length - 1 - m < s.length := by rw [w_len] at hl; omega
         have h2 : (w s ++ r)[p.length - 1 - m]? = some 0 := by
          rw [hr, List.getElem?_drop, show m + (p.length - 1 - m) = p.length - 1 by omega, List.append_assoc, List.getElem?_append_left (by omega)]
          exact hlast
         rw [List.getElem?_append_left (by rw [w_len]; omega)] at h2
         unfold w at h2
         rw [List.getElem?_append_left hi] at h2
         exact hs (List.mem_of_getElem? h2)
 · omega
def step (p s : B) : B := if Lib.index p (w s) < 0 then p ++ w s else p
def poolF (p : B) (l : List B) : B := l.foldl step p
theorem step_form {p : B} (hp : Form p) (s : B) : Form (step p s) := by
 unfold step
 split
 · exact form_w p s
 · exact hp
theorem step_has {p s : B} (hp : Form p) (hs : (0 : UInt8) ∉ s) : 0 ≤ Lib.index (step p s) (w s) := by
 unfold step
 by_cases h : Lib.index p (w s) < 0
 · rw [if_pos h]
   have := index_new (q := []) hp hs h
   rw [List.append_nil] at this
   omega
 · rw [if_neg h]; omega
theorem step_keep {p x : B} (s : B) (h : 0 ≤ Lib.index p x) : Lib.index (step p s) x = Lib.index p x := by
 unfold step
 split
 · obtain ⟨i, hi⟩ : ∃ i : Nat, Lib.index p x = i := ⟨(Lib.index p x).toNat, by omega⟩
   rw [index_grow hi, hi]
 · rfl
theorem step_len (p s : B) : p.length ≤ (step p s).length := by
 unfold step
 split
 · rw [List.length_append]; omega
 · exact Nat.le_refl _
theorem pool_len : ∀ (l : List B) (p : B), p.length ≤ (poolF p l).length
 | [], _ => Nat.le_refl _
 | s :: l, p => Nat.le_trans (step_len p s) (pool_len l (step p s))
theorem pool_keep {x : B} : ∀ (l : List B) (p : B), 0 ≤ Lib.index p x → Lib.index (poolF p l) x = Lib.index p x
 | [], _, _ => rfl
 | s :: l, p, h => by
   have h1 := step_keep s h
   exact (pool_keep l (step p s) (by omega)).trans h1
theorem pool_form : ∀ (l : List B) (p : B), Form p → Form (poolF p l)
 | [], _, h => h
 | s :: l, p, h => pool_form l (step p s) (step_form h s)
theorem pool_has : ∀ (l : List B) (p : B), Form p → (∀ s ∈ l, (0 : UInt8) ∉ s) → ∀ s ∈ l, 0 ≤ Lib.index (poolF p l) (w s)
 | [], _, _, _, s, hs => by cases hs
 | x :: l, p, hp, h0, s, hs => by
   rcases List.mem_cons.1 hs with rfl | hs
   · have h1 := step_has hp (h0 s (List.mem_cons_self ..))
     have := pool_keep (x := w s) l (step p s) h1
     show 0 ≤ Lib.index (poolF (step p s) l) (w s)
     omega
   · exact pool_has l (step p x) (step_form hp x) (fun y hy => h0 y (List.mem_cons_of_mem _ hy)) s hs
def firsts (seen : List B) : List B → List B
 | [] => []
 | x :: r => if x ∈ seen then firsts seen r else x :: firsts (x :: seen) r
theorem firsts_mem : ∀ (l seen : List B) (x : B), x ∈ firsts seen l ↔ x ∈ l ∧ x ∉ seen
 | [], _, x => by simp [firsts]
 | y :: r, seen, x => by
   unfold firsts
   by_cases h : y ∈ seen
   · rw [if_pos h, firsts_mem r seen x, List.mem_cons]
     constructor
     · exact fun ⟨a, b⟩ => ⟨.inr a, b⟩
     · rintro ⟨rfl | a, b⟩
       · exact absurd h b
       · exact ⟨a, b⟩
   · rw [if_neg h, List.mem_cons, firsts_mem r (y :: seen) x, List.mem_cons, List.mem_cons]
     constructor
     · rintro (rfl | ⟨a, b⟩)
       · exact ⟨.inl rfl, h⟩
       · exact ⟨.inr a, fun q => b (.inr q)⟩
     · rintro ⟨a, b⟩
       by_cases e : x = y
       · exact .inl e
       · rcases a with a | a
         · exact absurd a e
         · exact .inr ⟨a, fun q => q.elim e b⟩
theorem firsts_in {y : B} {seen : List B} (h : y ∈ seen) (r : List B) : firsts seen (y :: r) = firsts seen r := if_pos h
theorem firsts_out {y : B} {seen : List B} (h : y ∉ seen) (r : List B) : firsts seen (y :: r) = y :: firsts (y :: seen) r := if_neg h
theorem firsts_filter (q : B → Bool) : ∀ (l seen seen' : List B), (∀ x, q x = true → (x ∈ seen ↔ x ∈ seen')) → (firsts seen l).filter q = firsts seen' (l.filter q)
 | [], _, _, _ => rfl
 | y :: r, seen, seen', h => by
   by_cases hq : q y = true
   · rw [List.filter_cons_of_pos hq]
     by_cases hy : y ∈ seen
     · rw [firsts_in hy, firsts_in ((h y hq).1 hy)]
       exact firsts_filter q r seen seen' h
     · rw [firsts_out hy, firsts_out (fun e => hy ((h y hq).2 e)), List.filter_cons_of_pos hq]
       congr 1
       refine firsts_filter q r _ _ (fun x hx => ?_)
       rw [List.mem_cons, List.mem_cons, h x hx]
   · rw [List.filter_cons_of_neg hq]
     by_cases hy : y ∈ seen
     · rw [firsts_in hy]
       exact firsts_filter q r seen seen' h
     · rw [firsts_out hy, List.filter_cons_of_neg hq]
       refine firsts_filter q r _ _ (fun x hx => ?_)
       rw [List.mem_cons, ← h x hx]
       constructor
       · rintro (rfl | a)
         · exact absurd hx hq
         · exact a
       · exact .inr
theorem pool_firsts : ∀ (l seen : List B) (p : B), Form p → (∀ s ∈ l, (0 : UInt8) ∉ s) → (∀ s ∈ seen, 0 ≤ Lib.index p (w s)) → poolF p (firsts seen l) = poolF p l
 | [], _, _, _, _, _ => rfl
 | x :: l, seen, p, hp, h0, hs => by
   unfold firsts
   by_cases h : x ∈ seen
   · rw [if_pos h]
     have e : step p x = p := by unfold step; rw [if_neg (by have := hs x h; omega)]
     show _ = poolF (step p x) l
     rw [e]
     exact pool_firsts l seen p hp (fun y hy => h0 y (List.mem_cons_of_mem _ hy)) hs
   · rw [if_neg h]
     show poolF (step p x) _ = poolF (step p x) l
     refine pool_firsts l (x :: seen) (step p x) (step_form hp x) (fun y hy => h0 y (List.mem_cons_of_mem _ hy)) (fun y hy => ?_)
     rcases List.mem_cons.1 hy with rfl | hy
     · exact step_has hp (h0 y (List.mem_cons_self ..))
     · have := step_keep x (hs y hy)
       have := hs y hy
       omega
def ordN (l : List B) : Nat → List B
 | 0 => []
 | n + 1 => l.filter (fun s => decide (s.length = n + 1)) ++ ordN l n
theorem pool_ord {l : List B} (h0 : ∀ s ∈ l, (0 : UInt8) ∉ s) : ∀ (n : Nat) (p : B), Form p → poolF p (ordN (firsts [] l) n) = poolF p (ordN l n)
 | 0, _, _ => rfl
 | n + 1, p, hp => by
   unfold ordN poolF
   rw [List.foldl_append, List.foldl_append]
   have e : (firsts [] l).filter (fun s => decide (s.length = n + 1)) = firsts [] (l.filter (fun s => decide (s.length = n + 1))) := firsts_filter _ l [] [] (fun _ _ => Iff.rfl)
   rw [e]
   have h1 := pool_firsts (l.filter (fun s => decide (s.length = n + 1))) [] p hp (fun s hs => h0 s (List.mem_filter.1 hs).1) (fun s hs => by cases hs)
   unfold poolF at h1
   rw [h1]
   exact pool_ord h0 n _ (pool_form _ p hp)
def rk (s : B) : Int := -(s.length : Int)
theorem ord_mem {l : List B} : ∀ (n : Nat) (s : B), s ∈ ordN l n → s ∈ l ∧ s.length ≤ n
 | 0, s, h => by cases h
 | n + 1, s, h => by
   unfold ordN at h
   rcases List.mem_append.1 h with h | h
   · obtain ⟨a, b⟩ := List.mem_filter.1 h
     have : s.length = n + 1 := by simpa using b
     exact ⟨a, by omega⟩
   · have := ord_mem n s h
     exact ⟨this.1, by omega⟩
theorem ord_sorted (l : List B) : ∀ n : Nat, (ordN l n).Pairwise (fun x y => rk x ≤ rk y)
 | 0 => List.Pairwise.nil
 | n + 1 => by
   unfold ordN
   refine List.pairwise_append.2 ⟨?_, ord_sorted l n, fun x hx y hy => ?_⟩
   · refine List.Pairwise.imp_of_mem (R := fun _ _ => True) (fun {x y} hx hy _ => ?_) (List.pairwise_iff_forall_sublist.2 (fun _ => trivial))
     have h1 : x.length = n + 1 := by simpa using (List.mem_filter.1 hx).2
     have h2 : y.length = n + 1 := by simpa using (List.mem_filter.1 hy).2
     unfold rk
     omega
   · have h1 : x.length = n + 1 := by simpa using (List.mem_filter.1 hx).2
     have h2 := (ord_mem n y hy).2
     unfold rk
     omega
theorem ord_filter (l : List B) (r : Int) : ∀ n : Nat, (ordN l n).filter (fun x => decide (rk x = r)) = l.filter (fun x => decide (rk x = r) && decide (1 ≤ x.length) && decide (x.length ≤ n))
 | 0 => by
   show [] = _
   symm
   rw [List.filter_eq_nil_iff]
   intro x _ hx
   simp only [Bool.and_eq_true, decide_eq_true_eq] at hx
   omega
 | n + 1 => by
   unfold ordN
   rw [List.filter_append, ord_filter l r n, List.filter_filter]
   by_cases h : r = -((n : Int) + 1)
   · have e1 : l.filter (fun x => decide (rk x = r) && decide (1 ≤ x.length) && decide (x.length ≤ n)) = [] := by
       rw [List.filter_eq_nil_iff]
       intro x _
       unfold rk
       simp
       omega
     rw [e1, List.append_nil]
     apply List.filter_congr
     intro x _
     unfold rk
     rw [Bool.eq_iff_iff]
     simp
     omega
   · have e1 : l.filter (fun a => decide (rk a = r) && decide (a.length = n + 1)) = [] := by
       rw [List.filter_eq_nil_iff]
       intro x _
       unfold rk
       simp
       omega
     rw [e1, List.nil_append]
     apply List.filter_congr
     intro x _
     unfold rk
     rw [Bool.eq_iff_iff]
     simp
     omega
theorem ord_stb {l : List B} {n : Nat} (h : ∀ s ∈ l, 1 ≤ s.length ∧ s.length ≤ n) : Stb rk l (ordN l n) :=
 ⟨ord_sorted l n, fun r => by
  rw [ord_filter]
  apply List.filter_congr
  intro x hx
  have := h x hx
  simp [this.1, this.2]⟩
def badB (s : B) : Bool := s.isEmpty || s.contains 0
def mostL (l : List B) : Nat := l.foldl (fun m s => max m s.length) 0
def abbrsP (l : List B) : B := poolF [] (ordN l (mostL l))
def abbrsE (l : List B) : Int := if l.any badB = true then 2 else if 255 < (abbrsP l).length then 7 else 0
def abbrsS (l : List B) : B := if abbrsE l = 0 then abbrsP l else []
def abbrsA (l : List B) : List Int := if abbrsE l = 0 then l.map (fun s => Lib.index (abbrsP l) (w s)) else []
theorem most_le : ∀ (l : List B) (m : Nat), m ≤ l.foldl (fun m s => max m s.length) m ∧ ∀ s ∈ l, s.length ≤ l.foldl (fun m s => max m s.length) m
 | [], m => ⟨Nat.le_refl _, fun s hs => by cases hs⟩
 | x :: l, m => by
   obtain ⟨h1, h2⟩ := most_le l (max m x.length)
   refine ⟨by rw [List.foldl_cons]; omega, fun s hs => ?_⟩
   rw [List.foldl_cons]
   rcases List.mem_cons.1 hs with rfl | hs
   · omega
   · exact h2 s hs
theorem pool_sorted {l C : List B} (hb : l.any badB = false) (h : Stb rk (firsts [] l) C) : poolF [] C = abbrsP l := by
 have hbad : ∀ s ∈ l, badB s = false := fun s hs => by simpa using List.any_eq_false.1 hb s hs
 have h0 : ∀ s ∈ l, (0 : UInt8) ∉ s := fun s hs => by
  have := hbad s hs
  unfold badB at this
  simp only [Bool.or_eq_false_iff] at this
  simpa using this.2
 have h1 : ∀ s ∈ l, 1 ≤ s.length := fun s hs => by
  have := hbad s hs
  unfold badB at this
  simp only [Bool.or_eq_false_iff] at this
  have h2 := this.1
  cases s with
  | nil => simp at h2
  | cons a r => simp
 have hs : Stb rk (firsts [] l) (ordN (firsts [] l) (mostL l)) := ord_stb fun s hs => by
  have hm := ((firsts_mem l [] s).1 hs).1
  exact ⟨h1 s hm, (most_le l 0).2 s hm⟩
 rw [h.unique hs]
 exact pool_ord h0 _ _ (.inl rfl)
end Go.Proofs.YtkpmmabdpeobaaaGreatDoor.Po
