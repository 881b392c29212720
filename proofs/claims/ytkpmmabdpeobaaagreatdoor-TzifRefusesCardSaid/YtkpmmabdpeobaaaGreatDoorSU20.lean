/- The table of some changes, plain: the different elements of a list and their indexes as the program finds them, with a map from keys to indexes. No program in sight but for the form of keys. Slices of integers in memory, opened. The functions pool.different and pool.Types: the different local times of a list, and the index of each. Lemmas on tables and on slices that a call owns, taken out of chapter 45's texts. -/
import Derived.Test.YtkpmmabdpeobaaaGreatDoorSU16
import Derived.Test.YtkpmmabdpeobaaaGreatDoorSU15
import Derived.Test.YtkpmmabdpeobaaaGreatDoorSU14
import Derived.Deep.RegionHeldLaw
import Derived.Deep.AppendLies
import Derived.Test.YtkpmmabdpeobaaaGreatDoorSU19
namespace Go.Proofs.YtkpmmabdpeobaaaGreatDoor.Px
open Go.RowKit
open Go.Maps (Keyed)
open Tb
theorem diff_sub : ∀ (l ts : List Lc) (x : Lc), x ∈ (diffGo ts l).1 → x ∈ ts ∨ x ∈ l
 | [], ts, x, h => .inl h
 | y :: r, ts, x, h => by
   by_cases hy : y ∈ ts
   · simp only [diffGo, if_pos hy] at h
     exact (diff_sub r ts x h).imp id (List.mem_cons_of_mem _)
   · simp only [diffGo, if_neg hy] at h
     rcases diff_sub r _ x h with h | h
     · rcases List.mem_append.1 h with h | h
       · exact .inl h
       · rw [List.mem_singleton] at h
         exact .inr (h ▸ List.mem_cons_self ..)
     · exact .inr (List.mem_cons_of_mem _ h)
def ofT (first : Lc) (at' : List Int) (l : List Lc) (f : List UInt8) : Tab × Int :=
 if at'.length ≠ l.length then (⟨[], [], []⟩, 2)
 else if checkE ⟨(ofGo [first] [] first (at'.zip l)).1, (ofGo [first] [] first (at'.zip l)).2, f⟩ = 0 then (⟨(ofGo [first] [] first (at'.zip l)).1, (ofGo [first] [] first (at'.zip l)).2, f⟩, 0)
 else (⟨[], [], []⟩, checkE ⟨(ofGo [first] [] first (at'.zip l)).1, (ofGo [first] [] first (at'.zip l)).2, f⟩)
end Go.Proofs.YtkpmmabdpeobaaaGreatDoor.Px
namespace Go.Proofs.YtkpmmabdpeobaaaGreatDoor.Px
open Go.RowKit
open Civ Tb
open Go.Joins Go.ChangeShapes Go.WideShapes Go.Deep
def IsV (W : World) (k : IntKind) (v : Value) (L : List Int) : Prop := SlV W v 1 L.length (L.map (Value.int k))
theorem IsV.keep {W W' : World} {k : IntKind} {v : Value} {L : List Int} (h : IsV W k v L) (hB : Below W.heap.size W W') : IsV W' k v L := SlV.keep h hB
theorem IsV.own {W : World} {B n : Nat} {e : TypeId} {k : IntKind} {v : Value} {L : List Int} (h : W.ownsRow B e 1 v n (L.map (Value.int k))) (hn : n = L.length) : IsV W k v L := by subst hn; exact SlV.of_own h
theorem IsV.nil (W : World) (k : IntKind) : IsV W k (.slice none 0 0) [] := SlV.nil W 1
theorem IsV.slice {W : World} {k : IntKind} {v : Value} {L : List Int} (h : IsV W k v L) : ∃ a c, v = .slice a L.length c ∧ L.length ≤ c ∧ c ≤ maxLen := by
 obtain ⟨_, a, c, e, h1, h2, _⟩ := h
 exact ⟨a, c, e, h1, h2⟩
theorem IsV.all {W : World} {k : IntKind} {v : Value} {L : List Int} (h : IsV W k v L) (h0 : 0 < L.length) : ∃ b o c, v = .slice (some ⟨b, o, none⟩) L.length c ∧ L.length ≤ c ∧ c ≤ maxLen ∧ b < W.heap.size ∧
 ∀ (i : Nat) (x : Int), L[i]? = some x → W.cell? ⟨b, o + i, none⟩ = some (.int k x) := by
 obtain ⟨_, a, c, e, h1, h2, h3⟩ := h
 rcases h3 with h3 | ⟨b, o, ea, hb, hc⟩
 · omega
 · subst ea
   exact ⟨b, o, c, e, h1, h2, hb, fun i x hx => hc i _ (by rw [List.getElem?_map, hx]; rfl)⟩
section
variable {H : Type} {enc : TypeId × Value → H} {w : World} {base : Nat} {spare : Nat → Bool} {held : Bool}
theorem open_ints {t e : TypeId} {k : IntKind} {fuel : Nat} {v : Value} {y : DataW H × List MemPlace} (ht : Tryz.prog.underlying t = some (.slice e)) (he : Tryz.prog.underlying e = some (.int k)) (hC : Tryz.prog.cellsOf e = 1)
 (h : DataW.trod enc Tryz.prog w base spare held fuel t [v] = some y) : ∃ L : List Int, IsV w k v L ∧ ∀ x ∈ L, (Lit.int k x).wf = true := by
 rcases open_slice ht h with ⟨hc, _⟩ | ⟨a, len, cap, m, n, D, Pl, hc, hb, hl, hm, hmm, hx, hi⟩
 · simp only [List.cons.injEq, and_true] at hc
   subst hc
   exact ⟨[], IsV.nil w k, fun l hl => by cases hl⟩
 · simp only [List.cons.injEq, and_true] at hc
   subst hc
   have hlm : len ≤ m := by subst hmm; split <;> omega
   obtain ⟨L, hL, hq⟩ := list_of (Q := fun i (x : Int) => w.cell? (a.add i) = some (.int k x) ∧ (Lit.int k x).wf = true) len (fun i him => by
    obtain ⟨cs', hcs, ht'⟩ := hi i (by omega)
    rw [hC, Nat.mul_one] at hcs
    obtain ⟨x0, e0, _, z0⟩ := DataW.trod_int he ht'
    obtain ⟨_, _, hat⟩ := World.cells?_some hcs
    have h0 := hat 0 (by omega)
    rw [e0] at h0
    exact ⟨x0, by rw [Go.Deep.add_add, Nat.add_zero] at h0; exact h0, z0⟩)
   refine ⟨L, ⟨by simp, some a, cap, by rw [hL], by omega, hm, ?_⟩, fun l hl => ?_⟩
   · by_cases h0 : L.length = 0
     · exact .inl h0
     · right
       have c00 := (hq 0 _ (List.getElem?_eq_getElem (by omega))).1
       obtain ⟨b, o, spot⟩ := a
       have hspot : spot = none := by simpa [Addr.add] using World.cell?_spot c00
       subst hspot
       refine ⟨b, o, rfl, ?_, fun j u hu => ?_⟩
       · rw [WideShapes.add_plain] at c00
         exact block_lt_of_cell c00
       · rw [List.getElem?_map] at hu
         cases hx : L[j]? with
         | none => rw [hx] at hu; cases hu
         | some x =>
           rw [hx] at hu
           simp only [Option.map_some, Option.some.injEq] at hu
           subst hu
           have := (hq j x hx).1
           rw [WideShapes.add_plain] at this
           exact this
   · obtain ⟨i, hi', e⟩ := List.getElem_of_mem hl
     exact (hq i l (by rw [List.getElem?_eq_getElem hi', e])).2
end
theorem wf_u16 {x : Int} (h : (Lit.int IntKind.u16 x).wf = true) : 0 ≤ x ∧ x ≤ 65535 := by
 unfold Lit.wf at h
 rw [Bool.and_eq_true, decide_eq_true_eq, decide_eq_true_eq] at h
 exact h
theorem wf_u8 {x : Int} (h : (Lit.int IntKind.u8 x).wf = true) : 0 ≤ x ∧ x ≤ 255 := by
 unfold Lit.wf at h
 rw [Bool.and_eq_true, decide_eq_true_eq, decide_eq_true_eq] at h
 exact h
theorem wf_u32 {x : Int} (h : (Lit.int IntKind.u32 x).wf = true) : 0 ≤ x ∧ x ≤ 4294967295 := by
 unfold Lit.wf at h
 rw [Bool.and_eq_true, decide_eq_true_eq, decide_eq_true_eq] at h
 exact h
theorem wf_i32 {x : Int} (h : (Lit.int IntKind.i32 x).wf = true) : -2147483648 ≤ x ∧ x ≤ 2147483647 := by
 unfold Lit.wf at h
 rw [Bool.and_eq_true, decide_eq_true_eq, decide_eq_true_eq] at h
 exact h
end Go.Proofs.YtkpmmabdpeobaaaGreatDoor.Px
namespace Go.Proofs.YtkpmmabdpeobaaaGreatDoor.Px
open Go.RowKit
open Go.Maps (Keyed)
open Tb
theorem own_down {X : World} {B B' : Nat} {e : TypeId} {sz n : Nat} {v : Value} {xs : List Value} (h : X.ownsRow B e sz v n xs) (hb : B' ≤ B) : X.ownsRow B' e sz v n xs :=
 ⟨h.1, h.2.imp id (fun ⟨g, cap, cur, e1, e2, r⟩ => ⟨g, cap, cur, e1, Nat.le_trans hb e2, r⟩)⟩
theorem Kp.drewN {L : List (Nat × Obj)} {R : List Rw} {w X Y : World} {n : Nat} (h : Kp L R w X) (e : X.drewN n = Y) : Kp L R w Y := by
 rw [← e]
 exact h.call (Civ.below_drewN (Below.refl _ _) _) rfl rfl rfl rfl
theorem Kp.adopt {L : List (Nat × Obj)} {R R0 : List Rw} {w X Z : World} (h : Kp L R0 w X) (k : Kp [] R X Z) : Kp L (R ++ R0) w Z := by
 have h' := h.keep k.below
 refine ⟨h'.known, fun r hr => ?_, fun r hr g hg p hp => ?_, ?_⟩
 · rcases List.mem_append.1 hr with hr | hr
   · exact own_down (k.own r hr) h.below.size
   · exact h'.own r hr
 · rcases List.mem_append.1 hr with hr | hr
   · have h1 := ((k.own r hr).lt g hg).1
     obtain ⟨i, hi, rfl⟩ := List.getElem_of_mem hp
     have := h.lt i (b := L[i].1) (o := L[i].2) (by rw [List.getElem?_eq_getElem hi])
     omega
   · exact h'.offL r hr g hg p hp
 · refine List.pairwise_append.2 ⟨k.offR, h'.offR, fun r hr s hs g hg e => ?_⟩
   have h1 := ((k.own r hr).lt g hg).1
   have h2 := ((h.own s hs).lt g e).2
   omega
theorem run_makeMap_hint {P : Program} {t k e : TypeId} (h : P.underlying t = some (.map k e)) (n : Int) (w : World) : (Instr.makeMap t (some (.int .i64 n))).run P w = .ok (.map (some w.heap.size)) (w.alloc (.map #[] 0)) := by
 simp [Instr.makeMap, run_underlying h, asInt, asIntOf]
theorem infoLc : (Tryz.prog.info? 28).map (fun i => (i.zero, i.size, i.bytes)) = some (some (.agg #[.int .i64 0, .bool false, .string ⟨#[]⟩]), 3, 32) := by kernel_rfl
theorem infoTr : (Tryz.prog.info? 36).map (fun i => (i.zero, i.size, i.bytes)) = some (some (.agg #[.int .i64 0, .int .i64 0]), 2, 16) := by kernel_rfl
theorem infoI : (Tryz.prog.info? 3).map (fun i => (i.zero, i.size, i.bytes)) = some (some (.int .i64 0), 1, 8) := by kernel_rfl
theorem infoI64 : (Tryz.prog.info? 2).map (fun i => (i.zero, i.size, i.bytes)) = some (some (.int .i64 0), 1, 8) := by kernel_rfl
def nInt (l : List Nat) : List Value := l.map (fun (k : Nat) => Value.int .i64 (k : Int))
theorem nInt_snoc (l : List Nat) (k : Nat) : nInt (l ++ [k]) = nInt l ++ [.int .i64 (k : Int)] := by unfold nInt; simp
theorem lcs_snoc (l : List Lc) (x : Lc) : (l ++ [x]).flatMap Lc.cells = l.flatMap Lc.cells ++ [.int .i64 x.off, .bool x.dst, .string x.abbr] := by simp [Lc.cells]
theorem ownAt {v : Value} {g H n cap : Nat} (h : v.ownBlock = some g ∨ g = H) : (Value.slice (some ⟨g, 0, none⟩) n cap).ownBlock = v.ownBlock ∨ (Value.slice (some ⟨g, 0, none⟩) n cap).ownBlock = some H := by
 rcases h with h | h
 · exact .inl (by rw [h]; rfl)
 · exact .inr (by rw [h]; rfl)
theorem own_slice {X : World} {B : Nat} {e : TypeId} {sz n : Nat} {v : Value} {xs : List Value} (h : X.ownsRow B e sz v n xs) : ∃ a c, v = .slice a n c := by
 rcases h.2 with ⟨h1, h2⟩ | ⟨g, cap, cur, rfl, _⟩
 · subst h2
   exact ⟨none, 0, h1⟩
 · exact ⟨_, _, rfl⟩
theorem Km.swapR {L : List (Nat × Obj)} {r s : Rw} {M : List Mp} {w X : World} (h : Km L [r, s] M w X) : Km L [s, r] M w X := h.swap
end Go.Proofs.YtkpmmabdpeobaaaGreatDoor.Px
namespace Go.Proofs.YtkpmmabdpeobaaaGreatDoor.Tb
open Px
theorem right_types {x : Tab} (h : checkE x = 0) : ∀ l ∈ x.types, lcE l = 0 ∧ l.abbr.size ≤ 7 := by
 intro l hl
 have h1 := (typesE_zero (check_zero h).1).2.2.2 l hl
 refine ⟨h1, ?_⟩
 unfold lcE at h1
 by_cases h2 : l.off < -54000 ∨ 54000 < l.off
 · rw [if_pos h2] at h1; cases h1
 rw [if_neg h2] at h1
 cases hn : nameOk l.abbr.data.toList
 · rw [hn, if_pos rfl] at h1; cases h1
 · exact nameOk_size hn
def lastL (b : Lc) : List (Int × Lc) → Lc
 | [] => b
 | x :: r => lastL x.2 r
theorem lastL_snoc (x : Int × Lc) : ∀ (c : List (Int × Lc)) (b : Lc), lastL b (c ++ [x]) = x.2
 | [], _ => rfl
 | y :: r, _ => lastL_snoc x r y.2
end Go.Proofs.YtkpmmabdpeobaaaGreatDoor.Tb
namespace Go.Proofs.YtkpmmabdpeobaaaGreatDoor.Px
open Go.RowKit
open Civ Tb
def chR (v13 v14 : Value) (g : List (Int × Lc)) : List Rw := [⟨v13, 2, 1, g.length, g.map (fun x => Value.int .i64 x.1)⟩, ⟨v14, 28, 3, g.length, (g.map Prod.snd).flatMap Lc.cells⟩]
theorem Kp.known_of {L : List (Nat × Obj)} {R : List Rw} {v : Value} {e : TypeId} {sz n : Nat} {xs : List Value} {w X : World} (h : Kp L (⟨v, e, sz, n, xs⟩ :: R) w X) (hn : 0 < n) :
 ∃ g cap cur, v = .slice (some ⟨g, 0, none⟩) n cap ∧ Kp ((g, .cells cur e (0, 0)) :: L) R w X ∧ n ≤ cap ∧ cap ≤ maxLen ∧ cur.size = cap * sz ∧ cur.toList.take (n * sz) = xs := by
 have hr : X.ownsRow w.heap.size e sz v n xs := h.row 0 rfl
 rcases hr.2 with ⟨_, h0⟩ | ⟨g, cap, cur, rfl, hg, hb, h1, h2, h3, h4⟩
 · omega
 · refine ⟨g, cap, cur, rfl, ⟨⟨h.below, fun k b o hk => ?_, fun p hp => ?_, List.pairwise_cons.2 ⟨fun p hp => h.offL _ (List.mem_cons_self ..) g rfl p hp, h.known.desc⟩⟩, fun r hr => h.own r (List.mem_cons_of_mem _ hr), fun r hr g' hg' p hp => ?_, (List.pairwise_cons.1 h.offR).2⟩, h1, h2, h3, h4⟩
   · cases k with
     | zero =>
       simp only [List.getElem?_cons_zero, Option.some.injEq, Prod.mk.injEq] at hk
       obtain ⟨rfl, rfl⟩ := hk
       exact hb
     | succ k => exact h.at k hk
   · rcases List.mem_cons.1 hp with rfl | hp
     · exact hg
     · exact h.known.own p hp
   · rcases List.mem_cons.1 hp with rfl | hp
     · intro e
       dsimp only at e
       subst e
       exact (List.pairwise_cons.1 h.offR).1 r hr g rfl hg'
     · exact h.offL r (List.mem_cons_of_mem _ hr) g' hg' p hp
theorem own_cell {X : World} {B : Nat} {e : TypeId} {g n cap N sz : Nat} {xs : List Value} (h : X.ownsRow B e sz (.slice (some ⟨g, 0, none⟩) n cap) N xs) {j : Nat} {u : Value} (hj : xs[j]? = some u) : X.cell? ⟨g, j, none⟩ = some u := by
 rcases own_cells h with ⟨_, e⟩ | ⟨g', cap', e, _, _, _, h4⟩
 · cases e
 · simp only [Value.slice.injEq, Option.some.injEq, Addr.mk.injEq, and_true] at e
   obtain ⟨rfl, _, _⟩ := e
   exact h4 j u hj
theorem Kp.past {L : List (Nat × Obj)} {R : List Rw} {w X : World} (h : Kp L R w X) (o : Obj) : Kp L R w (X.alloc o) := (h.alloc o).drop
theorem step_append_kp {ops : Array Oper} {o : Oper} {a : Act} {K : Act → World → Prop} {Q : Exit → Act → World → Prop} {E : Prop} {w : World} (hgd : o.guard = none) (s x : Operand) (t : TypeId)
 (ho : o.op = .call { callee := .builtin .append, args := #[s, x], argTypes := #[t, t] }) {L : List (Nat × Obj)} {R : List Rw} {W : World} {v : Value} {e : TypeId} {size n : Nat} {xs : List Value} (h : Kp L (⟨v, e, size, n, xs⟩ :: R) W w)
 (i : TypeInfo) (z : Value) (bytes : Nat) (ht : Tryz.prog.underlying t = some (.slice e)) (hi : Tryz.prog.info? e = some i) (hz : i.zero = some z) (hsize : i.size = size) (hby : i.bytes = bytes) (hzs : z.cells.size = size) (hsz : 0 < size)
 (hs : a.eval s = v) (idx B : Nat) (cs : Array Value) (T : TypeId) (hL : L[idx]? = some (B, .cells cs T (0, 0))) (m c : Nat) (hx : a.eval x = .slice (some ⟨B, 0, none⟩) m c) (hl : cs.toList.length = m * size) (h1 : ∀ u ∈ cs.toList, u.oneCell' = true)
 (hm : 0 < m) (hmax : n + m ≤ 1000000) (hb : bytes ≤ 1000)
 (hK : ∀ g cap w', Kp L (⟨.slice (some ⟨g, 0, none⟩) (n + m) cap, e, size, n + m, xs ++ cs.toList⟩ :: R) W w' → K (a.put o.dst (.slice (some ⟨g, 0, none⟩) (n + m) cap)) w') :
 if Region.wanted o (yielded ops a.tmps) = true then Oper.wp Tryz.prog o a w K Q else E :=
 step_append_lies w hgd s x t ho W.heap.size e i z size bytes ht hi hz hsize hby hzs hsz v n xs hs (h.row 0 rfl) ⟨B, 0, none⟩ m c cs.toList hx hl (World.news_of_block (h.at idx hL)) h1 hm (by unfold maxLen; omega)
  (by have := Nat.mul_le_mul hmax hb; omega) h.below.size w.heap.size rfl
  (fun g cap w' hown hgrow hat _ => hK g cap w' (h.append hown hgrow (ownAt hat)))
theorem chR_snoc (v13 v14 : Value) (g : List (Int × Lc)) (x : Int × Lc) : chR v13 v14 (g ++ [x]) = [⟨v13, 2, 1, g.length + 1, g.map (fun x => Value.int .i64 x.1) ++ [.int .i64 x.1]⟩, ⟨v14, 28, 3, g.length + 1, (g.map Prod.snd).flatMap Lc.cells ++ [.int .i64 x.2.off, .bool x.2.dst, .string x.2.abbr]⟩] := by
 simp [chR, Lc.cells]
theorem chR_at {L : List (Nat × Obj)} {W X : World} {av lv : Value} {g : List (Int × Lc)} (h : Kp L (chR av lv g) W X) : IsV X .i64 av (g.map Prod.fst) ∧ LcV X lv (g.map Prod.snd) ∧ ∀ c, lv = .slice none (g.map Prod.snd).length c → c = 0 := by
 refine ⟨IsV.own (B := W.heap.size) (e := 2) (n := g.length) (by rw [List.map_map]; exact h.row 0 rfl) (by simp), LcV.own (h.row 1 rfl) (by simp), fun c hc => ?_⟩
 have hr : X.ownsRow W.heap.size 28 3 lv g.length ((g.map Prod.snd).flatMap Lc.cells) := h.row 1 rfl
 rcases own_cells hr with ⟨_, e⟩ | ⟨g', cap', e, _⟩
 · rw [e] at hc
   simp only [Value.slice.injEq] at hc
   exact hc.2.2.symm
 · rw [e] at hc
   simp at hc
theorem own_some {X : World} {B sz n N c : Nat} {a : Option Addr} {e : TypeId} {xs : List Value} (h : X.ownsRow B e sz (.slice a n c) N xs) (h0 : 0 < N) : ∃ g, a = some ⟨g, 0, none⟩ ∧ n = N ∧ N ≤ c ∧ c ≤ maxLen ∧ g < X.heap.size := by
 rcases own_cells h with ⟨h1, _⟩ | ⟨g, cap, e1, e2, e3, e4, _⟩
 · omega
 · simp only [Value.slice.injEq] at e1
   obtain ⟨rfl, rfl, rfl⟩ := e1
   exact ⟨g, rfl, rfl, e2, e3, e4⟩
theorem tr_cell {X : World} {B g n cap N : Nat} {e : TypeId} {L : List Tr} (h : X.ownsRow B e 2 (.slice (some ⟨g, 0, none⟩) n cap) N (L.flatMap Tr.cells)) {i : Nat} {x : Tr} (hx : L[i]? = some x) :
 X.cell? ⟨g, i * 2, none⟩ = some (.int .i64 x.at') ∧ X.cell? ⟨g, i * 2 + 1, none⟩ = some (.int .i64 x.ty) := ⟨own_cell h (tr_at L hx).1, own_cell h (tr_at L hx).2⟩
theorem lc_cell {X : World} {B g n cap N : Nat} {e : TypeId} {L : List Lc} (h : X.ownsRow B e 3 (.slice (some ⟨g, 0, none⟩) n cap) N (L.flatMap Lc.cells)) {i : Nat} {x : Lc} (hx : L[i]? = some x) :
 X.cell? ⟨g, i * 3, none⟩ = some (.int .i64 x.off) ∧ X.cell? ⟨g, i * 3 + 1, none⟩ = some (.bool x.dst) ∧ X.cell? ⟨g, i * 3 + 2, none⟩ = some (.string x.abbr) := ⟨own_cell h (lc_at L hx).1, own_cell h (lc_at L hx).2.1, own_cell h (lc_at L hx).2.2⟩
theorem ofGo_len : ∀ (c : List (Int × Lc)) (ts : List Lc) (xs : List Tr) (b : Lc), (ofGo ts xs b c).2.length ≤ xs.length + c.length
 | [], ts, xs, b => by simp [ofGo]
 | (t, l) :: r, ts, xs, b => by
   unfold ofGo
   rw [List.length_cons]
   split
   · have := ofGo_len r ts xs b
     omega
   · split
     · have := ofGo_len r ts (xs ++ [⟨t, ts.idxOf l⟩]) l
       rw [List.length_append, List.length_singleton] at this
       omega
     · have := ofGo_len r (ts ++ [l]) (xs ++ [⟨t, ts.length⟩]) l
       rw [List.length_append, List.length_singleton] at this
       omega
end Go.Proofs.YtkpmmabdpeobaaaGreatDoor.Px
