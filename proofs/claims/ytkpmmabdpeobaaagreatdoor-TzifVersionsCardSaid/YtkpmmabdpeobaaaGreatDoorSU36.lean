/- slices.SortedStableFunc over slices.Values, at strings. Lists of integers as cells. The function pool.Abbrs: what is wanted for its walk. -/
import Derived.Test.YtkpmmabdpeobaaaGreatDoorSU34
import Derived.Test.YtkpmmabdpeobaaaGreatDoorSU35
import Derived.Test.YtkpmmabdpeobaaaGreatDoorSU33
namespace Go.Proofs.YtkpmmabdpeobaaaGreatDoor.Px
open Go.RowKit Go.Shelf
open St Po
set_option maxHeartbeats 2000000 in
theorem insertion_nil (w : World) : Calls Tryz.prog 200 #[.slice none 0 0, .int .i64 0, .int .i64 0, cmpV] w fun e w' => e = .returned (.tuple #[]) ∧ w = w' := by
 unfold cmpV
 go_enter Tryz.func200, Tryz.ntmps200
 go_wp2_with fail
 go_loopw [8] (fun v8 wr => v8 = .int .i64 1 ∧ w = wr) (fun _ _ => 0)
 case atStart => exact ⟨rfl, rfl⟩
 case round =>
  obtain ⟨rfl, rfl⟩ := hrel
  go_wp2_with fail
  go_end0
  exact ⟨rfl, rfl⟩
set_option maxHeartbeats 2000000 in
theorem stable_nil (w : World) : Calls Tryz.prog 165 #[.slice none 0 0, .int .i64 0, cmpV] w fun e w' => e = .returned (.tuple #[]) ∧ w = w' := by
 have C := Lib.hid (fun w => insertion_nil w)
 unfold cmpV at C ⊢
 go_enter Tryz.func165, Tryz.ntmps165
 go_wp2_with fail
 go_loopw [7, 8] (fun v7 v8 wr => v7 = .int .i64 0 ∧ v8 = .int .i64 20 ∧ w = wr) (fun _ _ _ => 0)
 case atStart => exact ⟨rfl, rfl, rfl⟩
 case round =>
  obtain ⟨rfl, rfl, rfl⟩ := hrel
  go_wp2_with (go_at_call 200; refine (C.out _).mono ?_; rintro e w1 ⟨rfl, rfl⟩)
  go_loopw [6, 7, 8] (fun v6 v7 v8 wr => v6 = .int .i64 20 ∧ v7 = .int .i64 0 ∧ v8 = .int .i64 20 ∧ w = wr) (fun _ _ _ _ => 0)
  case atStart => exact ⟨rfl, rfl, rfl, rfl⟩
  case round =>
   obtain ⟨rfl, rfl, rfl, rfl⟩ := hrel
   go_wp2_with fail
   go_end0
   exact ⟨rfl, rfl⟩
set_option maxHeartbeats 2000000 in
theorem sortStable_any (D : List (List UInt8)) (tv : Value) (W w : World) (h : Kp [] [⟨tv, 9, 1, D.length, D.map sv⟩] W w) (hb' : D.length ≤ 1000000) :
 Calls Tryz.prog 128 #[tv, cmpV] w fun e w' => e = .returned (.tuple #[]) ∧ ∃ C, Stb rk D C ∧ Kp [] [⟨tv, 9, 1, C.length, C.map sv⟩] W w' := by
 have HK := Lib.hid h
 have HB := Lib.hid hb'
 rcases own_cells (h.row 0 rfl) with ⟨h0, hv⟩ | ⟨g, cap, hv, -, -, -, -⟩
 · dsimp only at h0 hv
   obtain rfl : D = [] := List.length_eq_zero_iff.1 h0
   subst hv
   have C := Lib.hid (stable_nil w)
   unfold cmpV at C ⊢
   clear h h0 hb'
   go_enter Tryz.func128, Tryz.ntmps128
   go_wp2_with (go_at_call 165; refine C.out.mono ?_; rintro e w1 ⟨rfl, rfl⟩)
   go_end0
   exact ⟨rfl, [], Stb.nil, HK.out⟩
 · dsimp only at hv
   subst hv
   obtain ⟨n, hn⟩ : ∃ n, D.length = n := ⟨_, rfl⟩
   have HN := Lib.hid hn
   have C := Lib.hid (stable_any D g n cap [] [] W w (by rw [← hn]; exact h) hn (by omega))
   unfold cmpV at C ⊢
   rw [hn]
   clear h hb' hn
   go_enter Tryz.func128, Tryz.ntmps128
   go_wp2_with (go_at_call 165; refine C.out.mono ?_; rintro e w1 ⟨rfl, E, hE, hk⟩)
   go_end0
   refine ⟨rfl, E, hE, ?_⟩
   rw [hE.len, HN.out]
   exact hk
set_option maxHeartbeats 2000000 in
theorem sortedStable_any (D : List (List UInt8)) (Bs : Nat) (v : Value) (w : World) (hBs : w.heap[Bs]? = some (.cells #[v] 74 (0, 0))) (hV : StrV w v D) (hD : D.length ≤ 1000000) :
 Calls Tryz.prog 82 #[.func (.func 129) #[] #[.pointer (some ⟨Bs, 0, none⟩)], cmpV] w fun e w' => ∃ tv C, e = .returned tv ∧ Stb rk D C ∧ Kp [] [⟨tv, 9, 1, C.length, C.map sv⟩] w w' := by
 have C1 := Lib.hid (collect_any D Bs v w hBs hV hD)
 have C2 := Lib.hid (fun tv W w1 h => sortStable_any D tv W w1 h hD)
 unfold cmpV at C2 ⊢
 clear hBs hV hD
 go_enter Tryz.func82, Tryz.ntmps82
 go_wp2_with (first
  | (go_at_call 127; refine C1.out.mono ?_; rintro e w1 ⟨tv, rfl, hk⟩; obtain ⟨at', ct, rfl⟩ : ∃ a c, tv = .slice a D.length c := own_slice (hk.row 0 rfl); have HK := Lib.hid hk; clear hk)
  | (go_at_call 128; refine (C2.out _ w _ HK.out).mono ?_; rintro e w2 ⟨rfl, E, hE, hk⟩))
 go_ret
 exact ⟨_, E, rfl, hE, hk⟩
end Go.Proofs.YtkpmmabdpeobaaaGreatDoor.Px
namespace Go.Proofs.YtkpmmabdpeobaaaGreatDoor.Px
def ints (l : List Int) : List Value := l.map (fun k => Value.int .i64 k)
theorem ints_snoc (l : List Int) (k : Int) : ints (l ++ [k]) = ints l ++ [.int .i64 k] := by unfold ints; simp
end Go.Proofs.YtkpmmabdpeobaaaGreatDoor.Px
namespace Go.Proofs.YtkpmmabdpeobaaaGreatDoor.Px
open Go.RowKit
open Po St
theorem firsts_diff : ∀ (l ts seen : List (List UInt8)), (∀ x, x ∈ seen ↔ x ∈ ts) → (diffA ts l).1 = ts ++ firsts seen l
 | [], ts, seen, _ => by simp [diffA, firsts]
 | y :: r, ts, seen, h => by
   by_cases hy : y ∈ ts
   · simp only [diffA, if_pos hy]
     rw [firsts_in ((h y).2 hy)]
     exact firsts_diff r ts seen h
   · simp only [diffA, if_neg hy]
     rw [firsts_out (fun e => hy ((h y).1 e)), firsts_diff r (ts ++ [y]) (y :: seen) (fun x => by simp [h x, or_comm])]
     simp
theorem step_append_kq {ops : Array Oper} {o : Oper} {a : Act} {K : Act → World → Prop} {Q : Exit → Act → World → Prop} {E : Prop} {w : World} (hgd : o.guard = none) (s x : Operand) (t : TypeId)
 (ho : o.op = .call { callee := .builtin .append, args := #[s, x], argTypes := #[t, t] }) {b : Nat} {l : List UInt8} {L : List (Nat × Obj)} {R : List Rw} {M : List Mp} {W : World} {v : Value} {e : TypeId} {size n : Nat} {xs : List Value} (h : Kq b l L (⟨v, e, size, n, xs⟩ :: R) M W w)
 (i : TypeInfo) (z : Value) (bytes : Nat) (ht : Tryz.prog.underlying t = some (.slice e)) (hi : Tryz.prog.info? e = some i) (hz : i.zero = some z) (hsize : i.size = size) (hby : i.bytes = bytes) (hzs : z.cells.size = size) (hsz : 0 < size)
 (hs : a.eval s = v) (idx B : Nat) (cs : Array Value) (T : TypeId) (hL : L[idx]? = some (B, .cells cs T (0, 0))) (m c : Nat) (hx : a.eval x = .slice (some ⟨B, 0, none⟩) m c) (hl : cs.toList.length = m * size) (h1 : ∀ u ∈ cs.toList, u.oneCell' = true)
 (hm : 0 < m) (hmax : n + m ≤ 1000000) (hb : bytes ≤ 1000)
 (hK : ∀ g cap w', Kq b l L (⟨.slice (some ⟨g, 0, none⟩) (n + m) cap, e, size, n + m, xs ++ cs.toList⟩ :: R) M W w' → K (a.put o.dst (.slice (some ⟨g, 0, none⟩) (n + m) cap)) w') :
 if Region.wanted o (yielded ops a.tmps) = true then Oper.wp Tryz.prog o a w K Q else E :=
 step_append_lies w hgd s x t ho W.heap.size e i z size bytes ht hi hz hsize hby hzs hsz v n xs hs (h.km.kp.row 0 rfl) ⟨B, 0, none⟩ m c cs.toList hx hl (World.news_of_block (h.km.kp.at idx hL)) h1 hm (by unfold maxLen; omega)
  (by have := Nat.mul_le_mul hmax hb; omega) h.below.size w.heap.size rfl
  (fun g cap w' hown hgrow hat _ => hK g cap w' (h.append hown hgrow (ownAt hat)))
theorem Kq.drew {b : Nat} {l : List UInt8} {L : List (Nat × Obj)} {R : List Rw} {M : List Mp} {w X : World} (h : Kq b l L R M w X) : Kq b l L R M w X.drew := h.keep (Below.drew (Below.refl _ X))
theorem step_look {ops : Array Oper} {o : Oper} {a : Act} {K : Act → World → Prop} {Q : Exit → Act → World → Prop} {E : Prop} {w : World} (hgd : o.guard = none) (m x : Operand) (t : TypeId) (ho : o.op = Op.lookup t m x false) (mv key v : Value)
 (hm : a.eval m = mv) (hx : a.eval x = key) (hrun : (Instr.lookup t mv key false).run Tryz.prog w = .ok v w) (hK : K (a.put o.dst v) w) :
 if Region.wanted o (yielded ops a.tmps) = true then Oper.wp Tryz.prog o a w K Q else E := by
 have hw : Region.wanted o (yielded ops a.tmps) = true := by simp [Region.wanted, hgd]
 rw [if_pos hw]
 unfold Oper.wp
 simp [execOp, ho, hm, hx, hrun, Result.andThen]
 exact hK
theorem Kq.of {b q : Nat} {o : Obj} {R : List Rw} {M : List Mp} {w X : World} (h : Km [(q, o), (b, .cells #[.pointer none, .slice none 0 0] 131 (0, 0))] R M w X) (ho : ∀ c fz, o ≠ .cells c 5 fz) (hR : ∀ r ∈ R, r.e ≠ 5 ∧ r.e ≠ 131) :
 Kq b [] [(q, o)] R M w X :=
 ⟨h.pick (List.Sublist.cons_cons _ (List.nil_sublist _)), .inl ⟨h.kp.known.own _ (List.mem_cons_of_mem _ (List.mem_cons_self ..)), _, h.kp.at 1 rfl, World.ownsRowF_nil _ _ _ _, by simp [Value.ownBlock]⟩,
  fun p hp => by
   rw [List.mem_singleton.1 hp]
   exact h.kp.known.other (j := 0) (k := 1) rfl rfl (by decide),
  fun p hp => by rw [List.mem_singleton.1 hp]; exact ho, hR⟩
theorem Kq.set {b : Nat} {l : List UInt8} {L : List (Nat × Obj)} {R : List Rw} {M : List Mp} {w X : World} (h : Kq b l L R M w X) (k : Nat) {q : Nat} {cs : Array Value} {T : TypeId} (hk : L[k]? = some (q, .cells cs T (0, 0))) (i : Nat) (u : Value) {cs' : Array Value} (he : cs.setIfInBounds i u = cs') (hT : T ≠ 5 ∧ T ≠ 131) :
 Kq b l (L.set k (q, .cells cs' T (0, 0))) R M w (X.setCell ⟨q, i, none⟩ u) := by
 have hg : X.grownBy (X.setCell ⟨q, i, none⟩ u) (some q) := ⟨rfl, rfl, rfl, by simp [World.setCell], fun j _ hj => heap_setCell_other _ _ _ _ (fun e => hj (by rw [e]))⟩
 refine ⟨h.km.set k hk i u he, h.bu.kept hg (fun g e c t fz hc => ?_), fun p hp => ?_, fun p hp => ?_, h.offR⟩
 · obtain rfl := Option.some.inj e
   rw [h.km.kp.at k hk] at hc
   have := Option.some.inj hc
   injection this with _ h2 _
   rw [← h2]
   exact hT
 · rcases List.mem_or_eq_of_mem_set hp with hp | rfl
   · exact h.offb p hp
   · exact h.offb (q, .cells cs T (0, 0)) (List.mem_of_getElem? hk)
 · rcases List.mem_or_eq_of_mem_set hp with hp | rfl
   · exact h.offL p hp
   · intro c fz e
     injection e with _ h2 _
     exact hT.1 h2
def Placed (g : Lit → Option (DataW Unit)) (pool : List UInt8) (l : List (List UInt8)) : Prop := ∀ s ∈ l, g (keyS s) = some (.lit (.int .i64 (Lib.index pool (w s)))) ∧ 0 ≤ Lib.index pool (w s)
theorem placed_step {g : Lit → Option (DataW Unit)} {pool : List UInt8} {l : List (List UInt8)} {s : List UInt8} (h : Placed g pool l) (hf : Po.Form pool) (h0 : (0 : UInt8) ∉ s) :
 Placed (placeS g (keyS s) (Lib.index (Po.step pool s) (w s))) (Po.step pool s) (l ++ [s]) := by
 intro t ht
 unfold placeS
 by_cases e : t = s
 · subst e
   rw [if_pos ((keyS_same _ _).2 rfl)]
   exact ⟨rfl, step_has hf h0⟩
 · rw [if_neg (fun q => e ((keyS_same _ _).1 q))]
   rcases List.mem_append.1 ht with ht | ht
   · obtain ⟨h1, h2⟩ := h t ht
     rw [step_keep s h2]
     exact ⟨h1, h2⟩
   · exact absurd (List.mem_singleton.1 ht) e
theorem pool_snoc (p : List UInt8) (l : List (List UInt8)) (s : List UInt8) : poolF p (l ++ [s]) = Po.step (poolF p l) s := by unfold poolF; rw [List.foldl_append]; rfl
theorem pool_take_len (l : List (List UInt8)) (i : Nat) : (poolF [] (l.take i)).length ≤ (poolF [] l).length := by
 conv => rhs; rw [← List.take_append_drop i l]
 unfold poolF
 rw [List.foldl_append]
 exact pool_len _ _
end Go.Proofs.YtkpmmabdpeobaaaGreatDoor.Px
