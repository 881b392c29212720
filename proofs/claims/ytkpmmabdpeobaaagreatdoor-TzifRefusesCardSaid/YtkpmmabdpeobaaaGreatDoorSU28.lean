/- The texts of tables, plain: their lines; tables by numbers that differ have different texts. No program in sight. Tables by numbers (chapter 40), plain: what their types are; one thing of a right table that is not as it has to be. No program in sight. Slices that a call owns: a cell of one is stored; a list of integers is appended to one. Right tables, plain: their changes one by one; they are the tables of their own changes. No program in sight. -/
import Derived.Test.YtkpmmabdpeobaaaGreatDoorSU22
import Derived.Test.YtkpmmabdpeobaaaGreatDoorSU15
import Derived.Test.YtkpmmabdpeobaaaGreatDoorSU20
import Derived.Test.YtkpmmabdpeobaaaGreatDoorSU21
namespace Go.Proofs.YtkpmmabdpeobaaaGreatDoor.Tb
open Px
end Go.Proofs.YtkpmmabdpeobaaaGreatDoor.Tb
namespace Go.Proofs.YtkpmmabdpeobaaaGreatDoor.Tb
open Px
theorem made_sub (d : D40) (h : d.In) : (∀ l ∈ d.made.types, l ∈ d.tys ∨ ∃ t, -36028797018963968 ≤ t ∧ t ≤ 36028797018963968 ∧ l = (atL d.pos t).1) ∧ d.made.types.length ≤ 11 := by
 by_cases hs : d.steps = []
 · have ef : d.first = (atL d.pos 0).1 := by unfold D40.first; rw [if_pos hs]
   have ec : d.changes = [] := by unfold D40.changes; rw [if_pos hs]
   have em : d.made = ⟨[(atL d.pos 0).1], [], printL d.pos⟩ := by unfold D40.made; rw [ec, ef]; rfl
   rw [em]
   refine ⟨fun l hl => .inr ⟨0, by omega, by omega, ?_⟩, by simp⟩
   exact List.mem_singleton.1 hl
 · have ef : d.first = locN 0 := by unfold D40.first; rw [if_neg hs]
   have hb := goT_bd (d.steps.take 40) d.begin_ (fun x hx => h.st x (List.mem_of_mem_take hx))
   have hl40 : (d.steps.take 40).length ≤ 40 := by rw [List.length_take]; omega
   have hbe := h.be
   have hE : d.end_ = goT d.begin_ (d.steps.take 40) := rfl
   have ec : d.changes = goD d.tys d.next d.begin_ 0 (d.steps.take 40) ++ [(d.end_ + 1, (atL d.pos (d.end_ + 1)).1)] := by unfold D40.changes; rw [if_neg hs]
   have hI : Incr none d.changes := by
    rw [ec, hE]
    exact goD_incr d.tys d.next _ (d.steps.take 40) d.begin_ 0 none (fun x hx => h.st x (List.mem_of_mem_take hx)) hbe.1 (by omega) (fun z hz => by cases hz)
   obtain ⟨ys, _, ok⟩ := of_ok d.changes [locN 0] [] (locN 0) none (by simp) (by simp) hI
   have em : d.made.types = (ofGo [locN 0] [] (locN 0) d.changes).1 := by unfold D40.made; rw [ef]
   have key : ∀ l ∈ d.made.types, l ∈ d.tys ∨ l = (atL d.pos (d.end_ + 1)).1 := by
    intro l hl
    rw [em] at hl
    rcases ok.sub l hl with hm | ⟨t, ht⟩
    · exact .inl (by rw [List.mem_singleton.1 hm]; exact List.mem_cons_self ..)
    · rw [ec] at ht
      rcases List.mem_append.1 ht with ht | ht
      · exact .inl (goD_mem (tys_pos d) d.next _ _ _ _ ht)
      · exact .inr (congrArg Prod.snd (List.mem_singleton.1 ht))
   refine ⟨fun l hl => (key l hl).imp id (fun e => ⟨d.end_ + 1, by omega, by omega, e⟩), ?_⟩
   have := nodup_le d.made.types ((atL d.pos (d.end_ + 1)).1 :: d.tys) (by rw [em]; exact ok.nodup) (fun x hx => by
    rcases key x hx with hx | hx
    · exact List.mem_cons_of_mem _ hx
    · rw [hx]; exact List.mem_cons_self ..)
   have := tys_len d
   rw [List.length_cons] at *
   omega
def D40.more (d : D40) : D40 := ⟨200 :: 400 :: d.types, 5 :: 5 :: 5 :: d.steps, [1, 2, 1], d.begin_, d.foot, d.base⟩
theorem typesGo_bad {E : Int} {l : Lc} (hl : lcE l = E) (hE : E ≠ 0) (b : List Lc) : ∀ (a pre : List Lc) (n : Nat), (∀ x ∈ a, lcE x = 0) → (pre ++ a).Nodup → typesGo pre n (a ++ l :: b) = E
 | [], pre, n, _, _ => by
   rw [List.nil_append]
   unfold typesGo
   rw [if_pos (by rw [hl]; exact hE), hl]
 | x :: a, pre, n, h, hn => by
   have hx : x ∉ pre := by
    rw [List.nodup_append] at hn
    intro hm
    exact hn.2.2 x hm x (List.mem_cons_self ..) rfl
   rw [List.cons_append]
   unfold typesGo
   rw [if_neg (by rw [h x (List.mem_cons_self ..)]; decide), if_neg hx]
   exact typesGo_bad hl hE b a _ _ (fun y hy => h y (List.mem_cons_of_mem _ hy)) (by rw [List.append_assoc]; exact hn)
theorem typesGo_twice {l : Lc} (hl : lcE l = 0) : ∀ (a pre : List Lc) (n : Nat), (∀ x ∈ a, lcE x = 0) → (pre ++ a).Nodup → l ∈ pre ++ a → typesGo pre n (a ++ [l]) = 10
 | [], pre, n, _, _, hm => by
   rw [List.nil_append]
   unfold typesGo
   rw [if_neg (by rw [hl]; decide), if_pos (by simpa using hm)]
 | x :: a, pre, n, h, hn, hm => by
   have hx : x ∉ pre := by
    rw [List.nodup_append] at hn
    intro hm
    exact hn.2.2 x hm x (List.mem_cons_self ..) rfl
   rw [List.cons_append]
   unfold typesGo
   rw [if_neg (by rw [h x (List.mem_cons_self ..)]; decide), if_neg hx]
   exact typesGo_twice hl a _ _ (fun y hy => h y (List.mem_cons_of_mem _ hy)) (by rw [List.append_assoc]; exact hn) (by rw [List.append_assoc]; exact hm)
theorem check_types_is {ts : List Lc} {r : List Tr} {f : List UInt8} {E : Int} (h : typesE ts = E) (hE : E ≠ 0) : checkE ⟨ts, r, f⟩ = E := by
 unfold checkE
 rw [if_pos (by show typesE ts ≠ 0; rw [h]; exact hE)]
 exact h
theorem check_trans_is {ts : List Lc} {r : List Tr} {f : List UInt8} {E : Int} (ht : typesE ts = 0) (h : transE ⟨ts, r, f⟩ = E) (hE : E ≠ 0) : checkE ⟨ts, r, f⟩ = E := by
 unfold checkE
 rw [if_neg (fun q => q ht), if_pos (by rw [h]; exact hE)]
 exact h
theorem typesE_at {a b : List Lc} {l l' : Lc} {E : Int} (h : typesE (a ++ l' :: b) = 0) (hl : lcE l = E) (hE : E ≠ 0) : typesE (a ++ l :: b) = E := by
 obtain ⟨h1, h2, h3, h4⟩ := typesE_zero h
 have hlen : (a ++ l :: b).length = (a ++ l' :: b).length := by simp
 unfold typesE
 rw [if_neg (by rw [hlen]; exact fun e => h1 (List.length_eq_zero_iff.1 e)), if_neg (by rw [hlen]; omega)]
 refine typesGo_bad hl hE b a [] 0 (fun x hx => h4 x (List.mem_append_left _ hx)) ?_
 rw [List.nil_append]
 exact (List.nodup_append.1 h3).1
theorem typesE_twice {ts : List Lc} {l : Lc} (h : typesE ts = 0) (h30 : ts.length ≤ 30) (hl : l ∈ ts) : typesE (ts ++ [l]) = 10 := by
 obtain ⟨h1, h2, h3, h4⟩ := typesE_zero h
 unfold typesE
 rw [if_neg (by simp), if_neg (by rw [List.length_append, List.length_singleton]; omega)]
 exact typesGo_twice (h4 l hl) ts [] 0 h4 (by simpa using h3) (by simpa using hl)
theorem incr_rng : ∀ {c : List (Int × Lc)} {y : Option Int}, Incr y c → ∀ p ∈ c, -36028797018963968 ≤ p.1 ∧ p.1 ≤ 36028797018963968
 | [], _, _, p, hp => by cases hp
 | (t, l) :: r, y, ⟨h1, h2, _, h4⟩, p, hp => by
   rcases List.mem_cons.1 hp with rfl | hp
   · exact ⟨h1, h2⟩
   · exact incr_rng h4 p hp
theorem changes_fit (d : D40) (h : d.In) : (∀ l ∈ d.changes.map Prod.snd, -54000 ≤ l.off ∧ l.off ≤ 54000 ∧ l.abbr.size ≤ 7) ∧ (∀ t ∈ d.changes.map Prod.fst, -36028797018963968 ≤ t ∧ t ≤ 36028797018963968) ∧ d.changes.length ≤ 41 := by
 have hp := goodP_iff (posix_good d.foot d.base)
 by_cases hs : d.steps = []
 · have ec : d.changes = [] := by unfold D40.changes; rw [if_pos hs]
   rw [ec]
   exact ⟨(fun l hl => by cases hl), (fun l hl => by cases hl), by simp⟩
 · have hb := goT_bd (d.steps.take 40) d.begin_ (fun x hx => h.st x (List.mem_of_mem_take hx))
   have hl40 : (d.steps.take 40).length ≤ 40 := by rw [List.length_take]; omega
   have hbe := h.be
   have hE : d.end_ = goT d.begin_ (d.steps.take 40) := rfl
   have ec : d.changes = goD d.tys d.next d.begin_ 0 (d.steps.take 40) ++ [(d.end_ + 1, (atL d.pos (d.end_ + 1)).1)] := by unfold D40.changes; rw [if_neg hs]
   have hI : Incr none d.changes := by
    rw [ec, hE]
    exact goD_incr d.tys d.next _ (d.steps.take 40) d.begin_ 0 none (fun x hx => h.st x (List.mem_of_mem_take hx)) hbe.1 (by omega) (fun z hz => by cases hz)
   have glen : ∀ (r : List Int) (t : Int) (i : Nat), (goD d.tys d.next t i r).length = r.length := by
    intro r
    induction r with
    | nil => intros; rfl
    | cons x r ih => intro t i; unfold goD; rw [List.length_cons, List.length_cons, ih]
   refine ⟨fun l hl => ?_, fun t ht => ?_, by rw [ec, List.length_append, glen, List.length_singleton]; omega⟩
   · obtain ⟨p, hpm, rfl⟩ := List.mem_map.1 hl
     rw [ec] at hpm
     rcases List.mem_append.1 hpm with hq | hq
     · obtain ⟨n, e⟩ := tys_good d _ (goD_mem (tys_pos d) d.next _ _ _ _ hq)
       rw [e]
       obtain ⟨_, h2, _, h4, h5⟩ := locN_good n
       omega
     · rw [List.mem_singleton.1 hq]
       obtain ⟨_, b0, b1, _, b3⟩ := atL_good hp (t := d.end_ + 1) (by omega) (by omega)
       unfold D40.pos
       dsimp only
       omega
   · obtain ⟨p, hpm, rfl⟩ := List.mem_map.1 ht
     exact incr_rng hI p hpm
end Go.Proofs.YtkpmmabdpeobaaaGreatDoor.Tb
namespace Go.Proofs.YtkpmmabdpeobaaaGreatDoor.Px
open Go.RowKit
open Civ Tb
theorem take_set {cur : Array Value} {m i : Nat} {u : Value} : (cur.setIfInBounds i u).toList.take m = (cur.toList.take m).set i u := by
 rw [Array.toList_setIfInBounds, List.take_set]
theorem Kp.put {L : List (Nat × Obj)} {R : List Rw} {w X : World} {g n cap N sz : Nat} {e : TypeId} {xs : List Value} (h : Kp L (⟨.slice (some ⟨g, 0, none⟩) n cap, e, sz, N, xs⟩ :: R) w X) (h0 : 0 < N) (i : Nat) (u : Value) :
 Kp L (⟨.slice (some ⟨g, 0, none⟩) n cap, e, sz, N, xs.set i u⟩ :: R) w (X.setCell ⟨g, i, none⟩ u) := by
 obtain ⟨g', cap', cur, hv, hk, h1, h2, h3, h4⟩ := h.known_of h0
 simp only [Value.slice.injEq, Option.some.injEq, Addr.mk.injEq, and_true] at hv
 obtain ⟨rfl, rfl, rfl⟩ := hv
 have h5 := (hk.set 0 rfl i u rfl).own_block sz n cap h1 h2 (by rw [Array.size_setIfInBounds]; exact h3)
 rw [take_set, h4] at h5
 exact h5
theorem Kp.free {L : List (Nat × Obj)} {R : List Rw} {w X : World} {g n cap N sz : Nat} {e : TypeId} {xs : List Value} (h : Kp L (⟨.slice (some ⟨g, 0, none⟩) n cap, e, sz, N, xs⟩ :: R) w X) (h0 : 0 < N) (i : Nat) : X.frozen? ⟨g, i, none⟩ = false := by
 obtain ⟨g', cap', cur, hv, hk, h1, h2, h3, h4⟩ := h.known_of h0
 simp only [Value.slice.injEq, Option.some.injEq, Addr.mk.injEq, and_true] at hv
 obtain ⟨rfl, _, _⟩ := hv
 exact free_at (hk.at 0 rfl) i
theorem append_ints {L : List (Nat × Obj)} {R : List Rw} {v : Value} {n : Nat} {xs : List Value} {W X : World} {k : IntKind} {t e : TypeId} {by' : Nat} (ht : Tryz.prog.underlying t = some (.slice e)) (hinf : (Tryz.prog.info? e).map (fun i => (i.zero, i.size, i.bytes)) = some (some (.int k 0), 1, by')) (hb : 0 < by')
 (h : Kp L (⟨v, e, 1, n, xs⟩ :: R) W X) (l : List Int) (lv : Value) (hL : IsV X k lv l) (hnil : ∀ c, lv = .slice none l.length c → c = 0) (hmax : (n + l.length) * by' ≤ 140737488355328) :
 ∃ v' w1, (Builtin.append_ #[t, t] t #[v, lv]).run Tryz.prog X = .ok v' w1 ∧ Kp L (⟨v', e, 1, n + l.length, xs ++ l.map (Value.int k)⟩ :: R) W w1 := by
 obtain ⟨i0, hi, hz0, hz1, hz2⟩ := info_parts hinf
 obtain ⟨h0, a, c, rfl, h1, h2, h3⟩ := hL
 cases a with
 | none =>
   have hl : l.length = 0 := by
    rcases h3 with h3 | ⟨_, _, e, _⟩
    · exact h3
    · cases e
   have hc := hnil c rfl
   have hln : l = [] := List.length_eq_zero_iff.1 hl
   subst hln hc
   refine ⟨v, X, ?_, ?_⟩
   · exact run_append_owned_none (P := Tryz.prog) (w := X) W.heap.size t t e i0 1 ht hi v n xs (h.row 0 rfl)
   · simpa using h
 | some ad =>
   have hnews : ∀ (j : Nat) (u : Value), (l.map (Value.int k))[j]? = some u → X.cell? (ad.add j) = some u := by
    intro j u hu
    rcases h3 with h3 | ⟨b, o, e, _, hc⟩
    · have hln : l = [] := List.length_eq_zero_iff.1 h3
      subst hln
      simp at hu
    · cases e
      rw [WideShapes.add_plain]
      exact hc j u hu
   have hone : ∀ u ∈ l.map (Value.int k), u.oneCell' = true := by
    intro u hu
    obtain ⟨x, _, rfl⟩ := List.mem_map.1 hu
    rfl
   obtain ⟨v', w1, hr, hown, hgrow, _, hat⟩ := run_append_own_at (P := Tryz.prog) X W.heap.size t t e i0 (.int k 0) 1 by' ht hi hz0 hz1 hz2 rfl (by decide) v n xs (h.row 0 rfl) ad l.length c (l.map (Value.int k)) (by rw [List.length_map]; omega) hnews hone (by unfold maxLen; have := Nat.le_mul_of_pos_right (n + l.length) hb; omega) hmax h.below.size
   exact ⟨v', w1, hr, h.append hown hgrow hat⟩
end Go.Proofs.YtkpmmabdpeobaaaGreatDoor.Px
namespace Go.Proofs.YtkpmmabdpeobaaaGreatDoor.Tb
open Px
theorem made_trans_len (d : D40) (h : d.In) : d.made.trans.length ≤ 41 := by
 have h1 : ∀ (c : List (Int × Lc)) (ts : List Lc) (xs : List Tr) (b : Lc), (ofGo ts xs b c).2.length ≤ xs.length + c.length := by
  intro c
  induction c with
  | nil => intro ts xs b; simp [ofGo]
  | cons p r ih =>
    intro ts xs b
    obtain ⟨t, l⟩ := p
    unfold ofGo
    by_cases e1 : l = b
    · rw [if_pos e1]
      have := ih ts xs b
      rw [List.length_cons]
      omega
    · rw [if_neg e1]
      by_cases e2 : l ∈ ts
      · rw [if_pos e2]
        have := ih ts (xs ++ [⟨t, (ts.idxOf l : Nat)⟩]) l
        rw [List.length_append] at this
        simp only [List.length_cons, List.length_nil] at this ⊢
        omega
      · rw [if_neg e2]
        have := ih (ts ++ [l]) (xs ++ [⟨t, (ts.length : Nat)⟩]) l
        rw [List.length_append] at this
        simp only [List.length_cons, List.length_nil] at this ⊢
        omega
 have h2 := h1 d.changes [d.first] [] d.first
 have h3 := (changes_fit d h).2.2
 unfold D40.made
 dsimp only
 simp only [List.length_nil] at h2
 omega
end Go.Proofs.YtkpmmabdpeobaaaGreatDoor.Tb
