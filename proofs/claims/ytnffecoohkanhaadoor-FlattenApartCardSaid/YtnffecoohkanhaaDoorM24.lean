/- What few answers (chapter 35). What the walk of FlattenTells needs: both ways that Links may end, and blocks and slices told apart by their types. -/
import Derived.Test.YtnffecoohkanhaaDoorYFtA
import Derived.Test.YtnffecoohkanhaaDoorYFuP
import Derived.Test.YtnffecoohkanhaaDoorYKa
namespace Go.Proofs.YtnffecoohkanhaaDoor.Px
open Go.RowKit
open Go.Maps (Keyed)
open Lk

/-- what few answers -/
def FewQ (nr nz nl ns : Nat) (Q : List Zo) (W : World) (e : Ending) (w' : World) : Prop := ∃ r, e = .returned (.bool r) ∧ (r = true → nr ≤ 20 ∧ nz ≤ 12 ∧ nl ≤ 12 ∧ ns ≤ 12 ∧ ∀ o ∈ Q, o.2.2.1 ≤ 6) ∧ Below W.heap.size W w'
theorem fewQ_mk {nr nz nl ns : Nat} {Q : List Zo} {W w' : World} {r : Bool} (h : r = true → nr ≤ 20 ∧ nz ≤ 12 ∧ nl ≤ 12 ∧ ns ≤ 12 ∧ ∀ o ∈ Q, o.2.2.1 ≤ 6) (hB : Below W.heap.size W w') : FewQ nr nz nl ns Q W (.returned (.bool r)) w' := ⟨r, rfl, h, hB⟩
set_option maxHeartbeats 4000000 in
set_option maxRecDepth 100000 in
theorem few35_any (rv zv lv sv : Value) (nr ns : Nat) (rs ss : List Value) (Q : List Zo) (Ls : List (List UInt8 × List UInt8)) (W : World) (hr : SlV W rv 11 nr rs) (hz : ZoV W zv Q) (hl : LkV W lv Ls) (hs : SlV W sv 1 ns ss) :
    Calls Tryd.prog 8 #[.agg #[rv, zv, lv, sv]] W (FewQ nr Q.length Ls.length ns Q W) := by
  obtain ⟨ra, rc, rfl, _, _⟩ := hr.slA
  obtain ⟨za, zc, rfl, hz1, hz2⟩ := SlV.slA hz
  obtain ⟨la, lc, rfl, _, _⟩ := SlV.slA hl
  obtain ⟨sa, sc, rfl, _, _⟩ := hs.slA
  have hallz := fun h0 => SlV.allA hz h0
  obtain ⟨nz, hnz⟩ : ∃ n, Q.length = n := ⟨_, rfl⟩
  obtain ⟨nl, hnl⟩ : ∃ n, Ls.length = n := ⟨_, rfl⟩
  rw [hnz] at hallz hz1 ⊢
  rw [hnl]
  unfold maxLen at hz2
  have HAz := Lib.hid hallz
  have HNz := Lib.hid hnz
  have K0 := Lib.hid ((Kp.start W).allocAt W.heap.size rfl (.cells #[.slice ra nr rc, .slice za nz zc, .slice la nl lc, .slice sa ns sc] 27))
  obtain ⟨W1, hW1⟩ : ∃ X, W.alloc (.cells #[.slice ra nr rc, .slice za nz zc, .slice la nl lc, .slice sa ns sc] 27) = X := ⟨_, rfl⟩
  rw [hW1] at K0
  obtain ⟨x0, x1, x2, x3⟩ := row4 (K0.out.at 0 rfl)
  clear hr hz hl hs hallz hnz hnl
  go_enter Tryd.func8, Tryd.ntmps8
  go_upto_region 1 with fail
  clear hW1
  go_wp2_with fail
  clear x0 x1 x2 x3
  go_loopw [4, 8] (fun _ v8 wr => ∃ i : Nat, i ≤ nz ∧ v8 = .int .i64 (i : Int) ∧ (∀ o ∈ Q.take i, o.2.2.1 ≤ 6) ∧ Kp [(W.heap.size, .cells #[.slice ra nr rc, .slice za nz zc, .slice la nl lc, .slice sa ns sc] 27 (0, 0))] [] W wr) (fun _ v8 _ => nz - (intOf v8).toNat)
  case atStart => exact ⟨0, by omega, rfl, (fun o ho => by simp at ho), K0.out⟩
  case round =>
    obtain ⟨i, hi', rfl, hs6, hk⟩ := hrel
    have HK := Lib.hid hk
    have HS6 := Lib.hid hs6
    clear hk hs6 K0
    by_cases hlt : i < nz
    · obtain ⟨b, o, c1, e1, _, _, hb, hcell⟩ := HAz.out (by omega)
      simp only [Value.slice.injEq] at e1
      obtain ⟨rfl, _, rfl⟩ := e1
      obtain ⟨q, hq⟩ : ∃ q, Q[i]? = some q := ⟨_, List.getElem?_eq_getElem (by rw [HNz.out]; exact hlt)⟩
      have k0 := (HK.out.below.cell (p := ⟨b, o + i * 2, none⟩) hb).trans (hcell (i * 2) _ (zo_at Q hq).1)
      have k1 := (HK.out.below.cell (p := ⟨b, o + (i * 2 + 1), none⟩) hb).trans (hcell (i * 2 + 1) _ (zo_at Q hq).2)
      rw [← Nat.add_assoc] at k1
      have HQt := Lib.hid (show Q.take (i + 1) = Q.take i ++ [q] by rw [List.take_add_one, hq]; rfl)
      obtain ⟨qn, qa, qm, qc⟩ := q
      dsimp only at k0 k1
      obtain ⟨s, hs⟩ : ∃ s, bs qn = s := ⟨_, rfl⟩
      rw [hs] at k0
      have hbw : b < wr.heap.size := Nat.lt_of_lt_of_le hb HK.out.below.size
      have KE := Lib.hid (HK.out.allocAt wr.heap.size rfl (.cells #[.string s, .slice qa qm qc] 40))
      clear hs hq hcell
      by_cases h6 : (6 : Int) < (qm : Int)
      · go_wp2_with fail
        exact bodyPost_ret (v := .bool false) (by simp [results, Tryd.results8, go_sem]) rfl (fewQ_mk (fun h => by cases h) KE.out.below)
      · go_wp2_with fail
        go_roundw
        case rel =>
          refine ⟨i + 1, by omega, by go_num, fun o ho => ?_, KE.out.drop⟩
          rw [HQt.out] at ho
          rcases List.mem_append.1 ho with ho | ho
          · exact HS6.out o ho
          · rw [List.mem_singleton.1 ho]
            show qm ≤ 6
            omega
        case measure => simp [intOf]; omega
    · obtain rfl : nz = i := by omega
      have HS7 := Lib.hid (show ∀ o ∈ Q, o.2.2.1 ≤ 6 from fun o ho => HS6.out o (by rw [List.take_of_length_le (by rw [HNz.out]; exact Nat.le_refl _)]; exact ho))
      obtain ⟨x0, x1, x2, x3⟩ := row4 (HK.out.at 0 rfl)
      by_cases g1 : (nr : Int) ≤ 20
      · by_cases g2 : (nz : Int) ≤ 12
        · by_cases g3 : (nl : Int) ≤ 12
          · by_cases g4 : (ns : Int) ≤ 12
            · go_wp2_with fail
              exact bodyPost_ret (v := .bool true) (by simp [results, Tryd.results8, go_sem]) rfl (fewQ_mk (fun _ => ⟨by omega, by omega, by omega, by omega, HS7.out⟩) HK.out.below)
            · go_wp2_with fail
              exact bodyPost_ret (v := .bool false) (by simp [results, Tryd.results8, go_sem]) rfl (fewQ_mk (fun h => by cases h) HK.out.below)
          · go_wp2_with fail
            exact bodyPost_ret (v := .bool false) (by simp [results, Tryd.results8, go_sem]) rfl (fewQ_mk (fun h => by cases h) HK.out.below)
        · go_wp2_with fail
          exact bodyPost_ret (v := .bool false) (by simp [results, Tryd.results8, go_sem]) rfl (fewQ_mk (fun h => by cases h) HK.out.below)
      · go_wp2_with fail
        exact bodyPost_ret (v := .bool false) (by simp [results, Tryd.results8, go_sem]) rfl (fewQ_mk (fun h => by cases h) HK.out.below)
end Go.Proofs.YtnffecoohkanhaaDoor.Px
namespace Go.Proofs.YtnffecoohkanhaaDoor.Px
open Go.RowKit
open Go.Maps (Keyed)
open Lk St

theorem check_zero {Z : List (List UInt8)} {L : List (List UInt8 × List UInt8)} {ok : List UInt8 → Bool} (h : (checkL Z L ok).2 = 0) : checkL Z L ok = ((0, 0), 0) := by
  have hs : ∀ {f : Nat → Int} {n i : Nat}, scan f n = some i → f i ≠ 0 := fun {f n i} q => by
    unfold scan at q
    have := List.find?_some q
    simpa using this
  unfold checkL at h ⊢
  cases h1 : scan (zoneE Z ok) Z.length with
  | some i => rw [h1] at h; exact absurd h (hs h1)
  | none =>
    rw [h1] at h
    cases h2 : scan (linkE Z L ok) L.length with
    | some i => rw [h2] at h; exact absurd h (hs h2)
    | none =>
      rw [h2] at h
      cases h3 : scan (loopE Z L) L.length with
      | some i => rw [h3] at h; simp at h
      | none => rfl
/-- how Links ends -/
def LinksE (er : Int) (D : List RuQ) (T : List ZnT) (Ls : List (List UInt8 × List UInt8)) (Sh : List (List UInt8)) (a b c d : Nat) (W : World) (e : Ending) (w' : World) : Prop :=
  ∃ v, e = .returned (.tuple #[v, .int .i64 er]) ∧ SrcA w' v D T Ls Sh ∧ SlQ v a b c d ∧ Below W.heap.size W w'
theorem slq_nil : SlQ (.agg #[.slice none 0 0, .slice none 0 0, .slice none 0 0, .slice none 0 0]) 0 0 0 0 := ⟨_, _, _, _, _, _, _, _, rfl⟩
theorem links_both (D : List RuQ) (T : List ZnT) (Q : List Zo) (Ls : List (List UInt8 × List UInt8)) (Sh : List (List UInt8)) (hf : Few D T Ls Sh) : ∃ (er : Int) (D1 : List RuQ) (T1 : List ZnT) (L1 : List (List UInt8 × List UInt8)) (S1 : List (List UInt8)) (a b c d : Nat),
    (∀ (W : World) (rv zv lv sv : Value), SrcP W rv zv lv sv D T Q Ls Sh → Calls Tryd.prog 14 #[.agg #[rv, zv, lv, sv]] W (LinksE er D1 T1 L1 S1 a b c d W)) ∧
    (∀ (W : World) (rv zv lv sv : Value), SrcP W rv zv lv sv D T Q Ls Sh → Calls Tryd.prog 15 #[.agg #[rv, zv, lv, sv]] W (LinksE er D1 T1 L1 S1 a b c d W)) := by
  have h2 := hf.t; have h3 := hf.l
  by_cases h0 : (checkL (znames Q) Ls zoneOk).2 = 0
  · have hck := check_zero h0
    exact ⟨0, D, T, flatL (znames Q) Ls, Sh, D.length, T.length, Ls.length, Sh.length, fun W rv zv lv sv h => linksP_ok h hf hck, fun W rv zv lv sv h => rlinksP_ok h hf hck⟩
  · refine ⟨(checkL (znames Q) Ls zoneOk).2, [], [], [], [], 0, 0, 0, 0, fun W rv zv lv sv h => (linksP_no h hf rfl h0).mono ?_, fun W rv zv lv sv h => (rlinks_no rv zv lv sv Q Ls W h.src (by omega) (by have := h.zt.len; omega) _ rfl h0).mono ?_⟩
    · rintro e w' ⟨rfl, hb⟩
      exact ⟨_, rfl, SrcA.nil w', slq_nil, hb⟩
    · rintro e w' ⟨rfl, hb⟩
      exact ⟨_, rfl, SrcA.nil w', slq_nil, hb⟩
theorem own_blockT {X : World} {B : Nat} {e : TypeId} {sz n g : Nat} {v : Value} {xs : List Value} (h : X.ownsRow B e sz v n xs) (hg : v.ownBlock = some g) : ∃ cur, X.heap[g]? = some (.cells cur e (0, 0)) := by
  rcases h.2 with ⟨rfl, _⟩ | ⟨g', cap, cur, rfl, _, hgb, _⟩
  · cases hg
  · obtain rfl : g' = g := by simpa [Value.ownBlock] using hg
    exact ⟨cur, hgb⟩
/-- one known block, and slices whose elements have other types -/
theorem kp_types {W X : World} (hB : Below W.heap.size W X) {b : Nat} {cs : Array Value} {T : TypeId} {R : List Rw} (hb : X.heap[b]? = some (.cells cs T (0, 0))) (hw : W.heap.size ≤ b) (hR : ∀ r ∈ R, X.ownsRow W.heap.size r.e r.sz r.v r.n r.xs) (ht : ∀ r ∈ R, r.e ≠ T) (hp : R.Pairwise (fun r s => r.e ≠ s.e)) :
    Kp [(b, .cells cs T (0, 0))] R W X := by
  refine ⟨⟨hB, fun k b' o hk => ?_, fun p hp => ?_, List.pairwise_singleton _ _⟩, hR, fun r hr g hg p hp => ?_, ?_⟩
  · cases k with
    | zero =>
      simp only [List.getElem?_cons_zero, Option.some.injEq, Prod.mk.injEq] at hk
      obtain ⟨rfl, rfl⟩ := hk
      exact hb
    | succ k => simp at hk
  · rw [List.mem_singleton.1 hp]
    exact hw
  · rw [List.mem_singleton.1 hp]
    intro e
    obtain ⟨cur, hc⟩ := own_blockT (hR r hr) hg
    have e : b = g := e
    rw [← e, hb] at hc
    simp only [Option.some.injEq, Obj.cells.injEq] at hc
    exact ht r hr hc.2.1.symm
  · refine hp.imp_of_mem fun {r s} hr hs hrs g hg hg' => ?_
    obtain ⟨c1, h1⟩ := own_blockT (hR r hr) hg
    obtain ⟨c2, h2⟩ := own_blockT (hR s hs) hg'
    rw [h1] at h2
    simp only [Option.some.injEq, Obj.cells.injEq] at h2
    exact hrs h2.2.1
/-- the same with two known blocks -/
theorem kp_types2 {W X : World} (hB : Below W.heap.size W X) {b c : Nat} {cs ds : Array Value} {T : TypeId} {R : List Rw} (hb : X.heap[b]? = some (.cells cs T (0, 0))) (hc : X.heap[c]? = some (.cells ds T (0, 0))) (hw : W.heap.size ≤ c) (hcb : c < b) (hR : ∀ r ∈ R, X.ownsRow W.heap.size r.e r.sz r.v r.n r.xs) (ht : ∀ r ∈ R, r.e ≠ T) (hp : R.Pairwise (fun r s => r.e ≠ s.e)) :
    Kp [(b, .cells cs T (0, 0)), (c, .cells ds T (0, 0))] R W X := by
  have k := kp_types hB hb (by omega) hR ht hp
  refine ⟨⟨hB, fun j b' o hk => ?_, fun p hp => ?_, ?_⟩, hR, fun r hr g hg p hp => ?_, k.offR⟩
  · match j, hk with
    | 0, hk =>
      simp only [List.getElem?_cons_zero, Option.some.injEq, Prod.mk.injEq] at hk
      obtain ⟨rfl, rfl⟩ := hk
      exact hb
    | 1, hk =>
      simp only [List.getElem?_cons_succ, List.getElem?_cons_zero, Option.some.injEq, Prod.mk.injEq] at hk
      obtain ⟨rfl, rfl⟩ := hk
      exact hc
    | j + 2, hk => simp at hk
  · simp only [List.mem_cons, List.not_mem_nil, or_false] at hp
    rcases hp with rfl | rfl
    · show W.heap.size ≤ b
      omega
    · exact hw
  · refine List.pairwise_cons.2 ⟨fun p hp => ?_, List.pairwise_singleton _ _⟩
    rw [List.mem_singleton.1 hp]
    show c ≠ b
    omega
  · simp only [List.mem_cons, List.not_mem_nil, or_false] at hp
    rcases hp with rfl | rfl
    · exact k.offL r hr g hg _ (List.mem_cons_self ..)
    · intro e
      obtain ⟨cur, h2⟩ := own_blockT (hR r hr) hg
      have e : c = g := e
      rw [← e, hc] at h2
      simp only [Option.some.injEq, Obj.cells.injEq] at h2
      exact ht r hr h2.2.1.symm
theorem own_keepB {X Z : World} {B : Nat} {e : TypeId} {sz n : Nat} {v : Value} {xs : List Value} (h : X.ownsRow B e sz v n xs) (hB : Below X.heap.size X Z) : Z.ownsRow B e sz v n xs := h.kept (grown_below hB) (by cases v.ownBlock <;> simp)
end Go.Proofs.YtnffecoohkanhaaDoor.Px
