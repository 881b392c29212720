/- The table of some changes, plain: the different elements of a list and their indexes as the program finds them, with a map from keys to indexes. No program in sight but for the form of keys. Slices of integers in memory, opened. The functions pool.different and pool.Types: the different local times of a list, and the index of each. -/
import Derived.Test.YtlaplgaccjmbhaaGreatDoorSG16
import Derived.Test.YtlaplgaccjmbhaaGreatDoorSG15
import Derived.Test.YtlaplgaccjmbhaaGreatDoorSG14
import Derived.Test.YtlaplgaccjmbhaaGreatDoorRG14x
import Derived.Deep.RegionHeldLaw
import Derived.Deep.AppendLies
namespace Go.Proofs.YtlaplgaccjmbhaaGreatDoor.Px
open Go.RowKit
open Go.Maps (Keyed)
open Tb
theorem diff_snoc : ∀ (l ts : List Lc) (x : Lc), diffGo ts (l ++ [x]) = if x ∈ (diffGo ts l).1 then ((diffGo ts l).1, (diffGo ts l).2 ++ [(diffGo ts l).1.idxOf x]) else ((diffGo ts l).1 ++ [x], (diffGo ts l).2 ++ [(diffGo ts l).1.length])
  | [], ts, x => by by_cases h : x ∈ ts <;> simp [diffGo, h]
  | y :: r, ts, x => by
    rw [List.cons_append]
    by_cases h : y ∈ ts
    · simp only [diffGo, if_pos h]
      rw [diff_snoc r ts x]
      by_cases h2 : x ∈ (diffGo ts r).1
      · rw [if_pos h2, if_pos h2]; rfl
      · rw [if_neg h2, if_neg h2]; rfl
    · simp only [diffGo, if_neg h]
      rw [diff_snoc r _ x]
      by_cases h2 : x ∈ (diffGo (ts ++ [y]) r).1
      · rw [if_pos h2, if_pos h2]; rfl
      · rw [if_neg h2, if_neg h2]; rfl
theorem diff_len : ∀ (l ts : List Lc), (diffGo ts l).2.length = l.length ∧ (diffGo ts l).1.length ≤ ts.length + l.length
  | [], ts => ⟨rfl, Nat.le_refl _⟩
  | y :: r, ts => by
    by_cases h : y ∈ ts
    · obtain ⟨a, b⟩ := diff_len r ts
      simp only [diffGo, if_pos h, List.length_cons]
      omega
    · obtain ⟨a, b⟩ := diff_len r (ts ++ [y])
      simp only [List.length_append, List.length_singleton] at b
      simp only [diffGo, if_neg h, List.length_cons]
      omega
theorem nodup_snoc {ts : List Lc} {y : Lc} (h : ts.Nodup) (hy : y ∉ ts) : (ts ++ [y]).Nodup := by
  rw [List.nodup_append]
  exact ⟨h, by simp, fun x hx z hz => by
    rw [List.mem_singleton] at hz
    subst hz
    intro e
    exact hy (e ▸ hx)⟩
theorem diff_nodup : ∀ (l ts : List Lc), ts.Nodup → (diffGo ts l).1.Nodup
  | [], ts, h => h
  | y :: r, ts, h => by
    by_cases hy : y ∈ ts
    · simp only [diffGo, if_pos hy]
      exact diff_nodup r ts h
    · simp only [diffGo, if_neg hy]
      exact diff_nodup r _ (nodup_snoc h hy)
theorem diff_sub : ∀ (l ts : List Lc) (x : Lc), x ∈ (diffGo ts l).1 → x ∈ ts ∨ x ∈ l
  | [], ts, x, h => .inl h
  | y :: r, ts, x, h => by
    by_cases hy : y ∈ ts
    · simp only [diffGo, if_pos hy] at h
      exact (diff_sub r ts x h).imp id (List.mem_cons_of_mem _)
    · simp only [diffGo, if_neg hy] at h
      rcases diff_sub r _ x h with h | h
      · rcases List.mem_append.1 h with h | h
        · exact .inl h
        · rw [List.mem_singleton] at h
          exact .inr (h ▸ List.mem_cons_self ..)
      · exact .inr (List.mem_cons_of_mem _ h)
/-- the index of each element as a map says it -/
def idxG (out : List Lc) (x : Lit) : Option (DataW Unit) := out.zipIdx.foldl (fun o p => if x.sameKey (lcKey p.1) = true then some (.lit (.int .i64 (p.2 : Int))) else o) none
theorem idxG_snoc (out : List Lc) (l : Lc) : idxG (out ++ [l]) = fun x => if x.sameKey (lcKey l) = true then some (.lit (.int .i64 (out.length : Int))) else idxG out x := by
  funext x
  unfold idxG
  rw [List.zipIdx_append, List.foldl_append]
  simp
theorem idxG_at {l : Lc} (hl : Lc.Fit l) : ∀ out : List Lc, (∀ p ∈ out, Lc.Fit p) → out.Nodup → idxG out (lcKey l) = if l ∈ out then some (.lit (.int .i64 (out.idxOf l : Int))) else none := by
  refine snoc_ind (P := fun out => (∀ p ∈ out, Lc.Fit p) → out.Nodup → idxG out (lcKey l) = if l ∈ out then some (.lit (.int .i64 (out.idxOf l : Int))) else none) (fun _ _ => by simp [idxG]) (fun out y ih hf hn => ?_)
  rw [List.nodup_append] at hn
  have hy : y ∉ out := fun hm => hn.2.2 y hm y (by simp) rfl
  have ih' := ih (fun p hp => hf p (List.mem_append_left _ hp)) hn.1
  have hfy := hf y (by simp)
  rw [idxG_snoc]
  dsimp only
  by_cases e : l = y
  · subst e
    rw [if_pos (same_lc.2 rfl), if_pos (by simp), List.idxOf_append, if_neg hy]
    simp
  · rw [if_neg (fun h => e (lcKey_inj hl.1 hl.2 hfy.1 hfy.2 (same_lc.1 h))), ih']
    by_cases hm : l ∈ out
    · rw [if_pos hm, if_pos (List.mem_append_left _ hm), List.idxOf_append, if_pos hm]
    · rw [if_neg hm, if_neg (by
        intro h
        rcases List.mem_append.1 h with h | h
        · exact hm h
        · rw [List.mem_singleton] at h
          exact e h)]
theorem transOf_snoc (t : Int) (k : Nat) : ∀ (at' : List Int) (ks : List Nat) (prev : Nat), at'.length = ks.length → transOf prev (at' ++ [t]) (ks ++ [k]) = transOf prev at' ks ++ (if k = ks.getLast?.getD prev then [] else [⟨t, (k : Int)⟩])
  | [], [], prev, _ => by
    by_cases h : k = prev <;> simp [transOf, h]
  | [], _ :: _, _, h => by simp at h
  | _ :: _, [], _, h => by simp at h
  | u :: at', j :: ks, prev, h => by
    have hl : at'.length = ks.length := by simpa using h
    rw [List.cons_append, List.cons_append]
    simp only [transOf, List.getLast?_cons, Option.getD_some]
    rw [transOf_snoc t k at' ks j hl]
    split <;> rfl
/-- the table of some changes, or the error -/
def ofT (first : Lc) (at' : List Int) (l : List Lc) (f : List UInt8) : Tab × Int :=
  if at'.length ≠ l.length then (⟨[], [], []⟩, 2)
  else if checkE ⟨(ofGo [first] [] first (at'.zip l)).1, (ofGo [first] [] first (at'.zip l)).2, f⟩ = 0 then (⟨(ofGo [first] [] first (at'.zip l)).1, (ofGo [first] [] first (at'.zip l)).2, f⟩, 0)
  else (⟨[], [], []⟩, checkE ⟨(ofGo [first] [] first (at'.zip l)).1, (ofGo [first] [] first (at'.zip l)).2, f⟩)
theorem diff_first (first : Lc) (l : List Lc) : diffGo [] (first :: l) = ((diffGo [first] l).1, 0 :: (diffGo [first] l).2) := by simp [diffGo]
/-- the program's way to it -/
theorem of_program (first : Lc) (at' : List Int) (l : List Lc) (h : at'.length = l.length) :
    ofGo [first] [] first (at'.zip l) = ((diffGo [] (first :: l)).1, transOf 0 at' (diffGo [first] l).2) := by
  rw [of_two at' l [first] [] first h (by simp), diff_first]
  simp
end Go.Proofs.YtlaplgaccjmbhaaGreatDoor.Px
namespace Go.Proofs.YtlaplgaccjmbhaaGreatDoor.Px
open Go.RowKit
open Civ Tb
open Go.Joins Go.ChangeShapes Go.WideShapes Go.Deep
/-- a slice of integers in memory -/
def IsV (W : World) (k : IntKind) (v : Value) (L : List Int) : Prop := SlV W v 1 L.length (L.map (Value.int k))
theorem IsV.keep {W W' : World} {k : IntKind} {v : Value} {L : List Int} (h : IsV W k v L) (hB : Below W.heap.size W W') : IsV W' k v L := SlV.keep h hB
theorem IsV.own {W : World} {B n : Nat} {e : TypeId} {k : IntKind} {v : Value} {L : List Int} (h : W.ownsRow B e 1 v n (L.map (Value.int k))) (hn : n = L.length) : IsV W k v L := by subst hn; exact SlV.of_own h
theorem IsV.nil (W : World) (k : IntKind) : IsV W k (.slice none 0 0) [] := SlV.nil W 1
theorem IsV.slice {W : World} {k : IntKind} {v : Value} {L : List Int} (h : IsV W k v L) : ∃ a c, v = .slice a L.length c ∧ L.length ≤ c ∧ c ≤ maxLen := by
  obtain ⟨_, a, c, e, h1, h2, _⟩ := h
  exact ⟨a, c, e, h1, h2⟩
theorem IsV.all {W : World} {k : IntKind} {v : Value} {L : List Int} (h : IsV W k v L) (h0 : 0 < L.length) : ∃ b o c, v = .slice (some ⟨b, o, none⟩) L.length c ∧ L.length ≤ c ∧ c ≤ maxLen ∧ b < W.heap.size ∧
    ∀ (i : Nat) (x : Int), L[i]? = some x → W.cell? ⟨b, o + i, none⟩ = some (.int k x) := by
  obtain ⟨_, a, c, e, h1, h2, h3⟩ := h
  rcases h3 with h3 | ⟨b, o, ea, hb, hc⟩
  · omega
  · subst ea
    exact ⟨b, o, c, e, h1, h2, hb, fun i x hx => hc i _ (by rw [List.getElem?_map, hx]; rfl)⟩
section
variable {H : Type} {enc : TypeId × Value → H} {w : World} {base : Nat} {spare : Nat → Bool} {held : Bool}
theorem open_ints {t e : TypeId} {k : IntKind} {fuel : Nat} {v : Value} {y : DataW H × List MemPlace} (ht : Tryz.prog.underlying t = some (.slice e)) (he : Tryz.prog.underlying e = some (.int k)) (hC : Tryz.prog.cellsOf e = 1)
    (h : DataW.trod enc Tryz.prog w base spare held fuel t [v] = some y) : ∃ L : List Int, IsV w k v L ∧ ∀ x ∈ L, (Lit.int k x).wf = true := by
  rcases open_slice ht h with ⟨hc, _⟩ | ⟨a, len, cap, m, n, D, Pl, hc, hb, hl, hm, hmm, hx, hi⟩
  · simp only [List.cons.injEq, and_true] at hc
    subst hc
    exact ⟨[], IsV.nil w k, fun l hl => by cases hl⟩
  · simp only [List.cons.injEq, and_true] at hc
    subst hc
    have hlm : len ≤ m := by subst hmm; split <;> omega
    obtain ⟨L, hL, hq⟩ := list_of (Q := fun i (x : Int) => w.cell? (a.add i) = some (.int k x) ∧ (Lit.int k x).wf = true) len (fun i him => by
      obtain ⟨cs', hcs, ht'⟩ := hi i (by omega)
      rw [hC, Nat.mul_one] at hcs
      obtain ⟨x0, e0, _, z0⟩ := DataW.trod_int he ht'
      obtain ⟨_, _, hat⟩ := World.cells?_some hcs
      have h0 := hat 0 (by omega)
      rw [e0] at h0
      exact ⟨x0, by rw [Go.Deep.add_add, Nat.add_zero] at h0; exact h0, z0⟩)
    refine ⟨L, ⟨by simp, some a, cap, by rw [hL], by omega, hm, ?_⟩, fun l hl => ?_⟩
    · by_cases h0 : L.length = 0
      · exact .inl h0
      · right
        have c00 := (hq 0 _ (List.getElem?_eq_getElem (by omega))).1
        obtain ⟨b, o, spot⟩ := a
        have hspot : spot = none := by simpa [Addr.add] using World.cell?_spot c00
        subst hspot
        refine ⟨b, o, rfl, ?_, fun j u hu => ?_⟩
        · rw [WideShapes.add_plain] at c00
          exact block_lt_of_cell c00
        · rw [List.getElem?_map] at hu
          cases hx : L[j]? with
          | none => rw [hx] at hu; cases hu
          | some x =>
            rw [hx] at hu
            simp only [Option.map_some, Option.some.injEq] at hu
            subst hu
            have := (hq j x hx).1
            rw [WideShapes.add_plain] at this
            exact this
    · obtain ⟨i, hi', e⟩ := List.getElem_of_mem hl
      exact (hq i l (by rw [List.getElem?_eq_getElem hi', e])).2
end
theorem wf_u16 {x : Int} (h : (Lit.int IntKind.u16 x).wf = true) : 0 ≤ x ∧ x ≤ 65535 := by
  unfold Lit.wf at h
  rw [Bool.and_eq_true, decide_eq_true_eq, decide_eq_true_eq] at h
  exact h
theorem wf_u8 {x : Int} (h : (Lit.int IntKind.u8 x).wf = true) : 0 ≤ x ∧ x ≤ 255 := by
  unfold Lit.wf at h
  rw [Bool.and_eq_true, decide_eq_true_eq, decide_eq_true_eq] at h
  exact h
theorem wf_u32 {x : Int} (h : (Lit.int IntKind.u32 x).wf = true) : 0 ≤ x ∧ x ≤ 4294967295 := by
  unfold Lit.wf at h
  rw [Bool.and_eq_true, decide_eq_true_eq, decide_eq_true_eq] at h
  exact h
theorem wf_i32 {x : Int} (h : (Lit.int IntKind.i32 x).wf = true) : -2147483648 ≤ x ∧ x ≤ 2147483647 := by
  unfold Lit.wf at h
  rw [Bool.and_eq_true, decide_eq_true_eq, decide_eq_true_eq] at h
  exact h
end Go.Proofs.YtlaplgaccjmbhaaGreatDoor.Px
namespace Go.Proofs.YtlaplgaccjmbhaaGreatDoor.Px
open Go.RowKit
open Go.Maps (Keyed)
open Tb
theorem own_down {X : World} {B B' : Nat} {e : TypeId} {sz n : Nat} {v : Value} {xs : List Value} (h : X.ownsRow B e sz v n xs) (hb : B' ≤ B) : X.ownsRow B' e sz v n xs :=
  ⟨h.1, h.2.imp id (fun ⟨g, cap, cur, e1, e2, r⟩ => ⟨g, cap, cur, e1, Nat.le_trans hb e2, r⟩)⟩
theorem Kp.drewN {L : List (Nat × Obj)} {R : List Rw} {w X Y : World} {n : Nat} (h : Kp L R w X) (e : X.drewN n = Y) : Kp L R w Y := by
  rw [← e]
  exact h.call (Civ.below_drewN (Below.refl _ _) _) rfl rfl rfl rfl
/-- what a callee has made, taken over -/
theorem Kp.adopt {L : List (Nat × Obj)} {R R0 : List Rw} {w X Z : World} (h : Kp L R0 w X) (k : Kp [] R X Z) : Kp L (R ++ R0) w Z := by
  have h' := h.keep k.below
  refine ⟨h'.known, fun r hr => ?_, fun r hr g hg p hp => ?_, ?_⟩
  · rcases List.mem_append.1 hr with hr | hr
    · exact own_down (k.own r hr) h.below.size
    · exact h'.own r hr
  · rcases List.mem_append.1 hr with hr | hr
    · have h1 := ((k.own r hr).lt g hg).1
      obtain ⟨i, hi, rfl⟩ := List.getElem_of_mem hp
      have := h.lt i (b := L[i].1) (o := L[i].2) (by rw [List.getElem?_eq_getElem hi])
      omega
    · exact h'.offL r hr g hg p hp
  · refine List.pairwise_append.2 ⟨k.offR, h'.offR, fun r hr s hs g hg e => ?_⟩
    have h1 := ((k.own r hr).lt g hg).1
    have h2 := ((h.own s hs).lt g e).2
    omega
theorem run_makeMap_hint {P : Program} {t k e : TypeId} (h : P.underlying t = some (.map k e)) (n : Int) (w : World) : (Instr.makeMap t (some (.int .i64 n))).run P w = .ok (.map (some w.heap.size)) (w.alloc (.map #[] 0)) := by
  simp [Instr.makeMap, run_underlying h, asInt, asIntOf]
theorem infoLc : (Tryz.prog.info? 28).map (fun i => (i.zero, i.size, i.bytes)) = some (some (.agg #[.int .i64 0, .bool false, .string ⟨#[]⟩]), 3, 32) := by kernel_rfl
theorem infoTr : (Tryz.prog.info? 59).map (fun i => (i.zero, i.size, i.bytes)) = some (some (.agg #[.int .i64 0, .int .i64 0]), 2, 16) := by kernel_rfl
theorem infoI : (Tryz.prog.info? 3).map (fun i => (i.zero, i.size, i.bytes)) = some (some (.int .i64 0), 1, 8) := by kernel_rfl
theorem infoI64 : (Tryz.prog.info? 2).map (fun i => (i.zero, i.size, i.bytes)) = some (some (.int .i64 0), 1, 8) := by kernel_rfl
def nInt (l : List Nat) : List Value := l.map (fun (k : Nat) => Value.int .i64 (k : Int))
theorem nInt_snoc (l : List Nat) (k : Nat) : nInt (l ++ [k]) = nInt l ++ [.int .i64 (k : Int)] := by unfold nInt; simp
theorem lcs_snoc (l : List Lc) (x : Lc) : (l ++ [x]).flatMap Lc.cells = l.flatMap Lc.cells ++ [.int .i64 x.off, .bool x.dst, .string x.abbr] := by simp [Lc.cells]
/-- the two slices of different -/
def dfR (v5 v6 : Value) (O : List Lc) (I : List Nat) : List Rw := [⟨v5, 28, 3, O.length, O.flatMap Lc.cells⟩, ⟨v6, 3, 1, I.length, nInt I⟩]
/-- what the loop keeps -/
def Df (L : List Lc) (W : World) (i : Nat) (v5 v6 : Value) (X : World) : Prop :=
  ∃ n D, n ≤ i ∧ Km [] (dfR v5 v6 (diffGo [] (L.take i)).1 (diffGo [] (L.take i)).2) [⟨W.heap.size, 28, 3, n, D⟩] W X ∧ FnOf D (idxG (diffGo [] (L.take i)).1)
theorem ownAt {v : Value} {g H n cap : Nat} (h : v.ownBlock = some g ∨ g = H) : (Value.slice (some ⟨g, 0, none⟩) n cap).ownBlock = v.ownBlock ∨ (Value.slice (some ⟨g, 0, none⟩) n cap).ownBlock = some H := by
  rcases h with h | h
  · exact .inl (by rw [h]; rfl)
  · exact .inr (by rw [h]; rfl)
theorem own_slice {X : World} {B : Nat} {e : TypeId} {sz n : Nat} {v : Value} {xs : List Value} (h : X.ownsRow B e sz v n xs) : ∃ a c, v = .slice a n c := by
  rcases h.2 with ⟨h1, h2⟩ | ⟨g, cap, cur, rfl, _⟩
  · subst h2
    exact ⟨none, 0, h1⟩
  · exact ⟨_, _, rfl⟩
set_option maxHeartbeats 8000000 in
set_option maxRecDepth 100000 in
theorem different_any (L : List Lc) (v : Value) (W : World) (h : LcV W v L) (hf : ∀ l ∈ L, Lc.Fit l) (hmax : L.length ≤ 1000000) :
    Calls Tryz.prog 99 #[v] W fun e w' => ∃ tv iv, e = .returned (.tuple #[tv, iv]) ∧ Kp [] (dfR tv iv (diffGo [] L).1 (diffGo [] L).2) W w' := by
  obtain ⟨a, c, rfl, hc1, hc2⟩ := h.slice
  have hall := fun h0 => h.all h0
  obtain ⟨n, hn⟩ : ∃ n, L.length = n := ⟨_, rfl⟩
  rw [hn] at hall hmax hc1 ⊢
  unfold maxLen at hc2
  have HA := Lib.hid hall
  have HN := Lib.hid hn
  have HF := Lib.hid hf
  have K0 := Lib.hid ((((Km.of (Kp.start W)).made 28 3).fresh 3 1).fresh 28 3)
  have T0 := Lib.hid (show Df L W 0 (.slice none 0 0) (.slice none 0 0) _ from ⟨0, _, Nat.le_refl _, K0.out, FnOf.empty⟩)
  have hmm := fun (n : Int) (w : World) => run_makeMap_hint (P := Tryz.prog) Tryz.underlying181 n w
  obtain ⟨i0, hi, hz0, hz1, hz2⟩ := info_parts infoLc
  obtain ⟨j0, hj, hy0, hy1, hy2⟩ := info_parts infoI
  clear h hall hn hf K0
  go_enter Tryz.func99, Tryz.ntmps99
  go_wp2_with fail
  go_loopw [5, 6, 8, 9, 10, 16] (fun v5 v6 _ _ _ i16 wr => ∃ i : Nat, i ≤ n ∧ i16 = .int .i64 i ∧ Df L W i v5 v6 wr) (fun _ _ _ _ _ i16 _ => n - (intOf i16).toNat)
  case atStart => exact ⟨0, by omega, rfl, T0.out⟩
  case round =>
    obtain ⟨i, hi', rfl, hT⟩ := hrel
    obtain ⟨nm, D, hnm, hK, hD⟩ := hT
    obtain ⟨⟨O, I⟩, hO⟩ : ∃ p, diffGo [] (L.take i) = p := ⟨_, rfl⟩
    rw [hO] at hK hD
    dsimp only [dfR] at hK hD
    obtain ⟨a5, c5, rfl⟩ : ∃ a c, u5 = .slice a O.length c := own_slice (hK.kp.row 0 rfl)
    have HK := Lib.hid hK
    have HD := Lib.hid hD
    have HO := Lib.hid hO
    have hlen := diff_len (L.take i) []
    have hI : I.length = i := by
      rw [hO] at hlen
      rw [hlen.1, List.length_take, HN.out]
      omega
    have hOl : O.length ≤ i := by
      rw [hO] at hlen
      have := hlen.2
      rw [List.length_take, HN.out] at this
      simp at this
      omega
    clear hK hD hO hlen
    by_cases hlt : i < n
    · obtain ⟨b, o, c', e1, _, _, hb, hcell⟩ := HA.out (by omega)
      simp only [Value.slice.injEq] at e1
      obtain ⟨rfl, _, rfl⟩ := e1
      obtain ⟨l, hl⟩ : ∃ l, L[i]? = some l := ⟨_, List.getElem?_eq_getElem (by have := HN.out; omega)⟩
      obtain ⟨c0, c1, c2⟩ := hcell i l hl
      have k0 := (HK.out.below.cell (p := ⟨b, o + i * 3, none⟩) hb).trans c0
      have k1 := (HK.out.below.cell (p := ⟨b, o + i * 3 + 1, none⟩) hb).trans c1
      have k2 := (HK.out.below.cell (p := ⟨b, o + i * 3 + 2, none⟩) hb).trans c2
      have hbw : b < wr.heap.size := Nat.lt_of_lt_of_le hb HK.out.below.size
      have HFit := Lib.hid (HF.out l (List.mem_of_getElem? hl))
      have HLi := Lib.hid hl
      have hfO : ∀ p ∈ O, Lc.Fit p := fun p hp => HF.out p (by
        rcases diff_sub (L.take i) [] p (by rw [HO.out]; exact hp) with h | h
        · cases h
        · exact List.mem_of_mem_take h)
      have hnO : O.Nodup := by
        have := diff_nodup (L.take i) [] List.nodup_nil
        rw [HO.out] at this
        exact this
      have HS := Lib.hid (idxG_at HFit.out O hfO hnO)
      have KA := Lib.hid (HK.out.alloc (.cells #[.int .i64 l.off, .bool l.dst, .string l.abbr] 28))
      have HL := Lib.hid (show diffGo [] (L.take (i + 1)) = if l ∈ O then (O, I ++ [O.idxOf l]) else (O ++ [l], I ++ [O.length]) by
        rw [List.take_add_one, HLi.out]
        show diffGo [] (L.take i ++ [l]) = _
        rw [diff_snoc, HO.out])
      clear c0 c1 c2 hl hcell hfO hnO hmm
      by_cases hm : l ∈ O
      · rw [if_pos hm] at HS HL
        have hix := List.idxOf_lt_length_of_mem hm
        obtain ⟨x, hx⟩ : ∃ x, O.idxOf l = x := ⟨_, rfl⟩
        rw [hx] at HS HL hix
        have hS1 : (idxG O (lcKey l)).getD (.lit (.int .i64 0)) = .lit (.int .i64 (x : Int)) := by rw [HS.out]; rfl
        have hS2 : (idxG O (lcKey l)).isSome = true := by rw [HS.out]; rfl
        have HS1 := Lib.hid hS1
        have HS2 := Lib.hid hS2
        clear hS1 hS2 hm hx
        go_wp2_with (first
          | (at_lookup; refine wpList_look_ok_int _ rfl _ _ 181 rfl 28 3 .i64 loc_keyed Tryz.underlying181 Tryz.underlying3 (zero_int _) W.heap.size nm D (idxG O) HD.out rfl (KA.out.map _ (List.mem_cons_self ..)) _ (lcKey l) rfl (lcKey_is HFit.out.1 HFit.out.2) (x : Int) HS1.out true HS2.out ?_; have K1 := Lib.hid (KA.out.swap.allocAt (wr.heap.size + 1) (by simp) (.cells #[.int .i64 (x : Int)] 3)))
          | (at_builtin; refine wpList_append_own_at _ rfl (.tmp 37) (.tmp 39) 95 rfl W.heap.size 3 j0 (.int .i64 0) 1 8 Tryz.underlying95 hj hy0 hy1 hy2 rfl (by decide) _ I.length _ rfl (K1.out.kp.row 0 rfl) ⟨wr.heap.size + 1, 0, none⟩ 1 1 [.int .i64 (x : Int)] rfl rfl ?c1 ?c2 ?c3 ?c4 ?c5 ?_; (case c1 => exact World.news_of_block (K1.out.kp.at 0 rfl)); (case c2 => simp [Value.oneCell']); (case c3 => unfold maxLen; omega); (case c4 => omega); (case c5 => exact K1.out.below.size); intro v' w1 hown hgrow _ hat; have K2 := Lib.hid (K1.out.append hown hgrow hat).drop.drop.swap; clear hown hgrow hat)
          | go_in)
        go_roundw
        case rel =>
          refine ⟨i + 1, by omega, by go_num, ?_⟩
          unfold Df
          rw [HL.out]
          refine ⟨nm, D, by omega, ?_, HD.out⟩
          dsimp only [dfR]
          rw [nInt_snoc, List.length_append]
          exact K2.out
        case measure => simp [intOf]; omega
      · rw [if_neg hm] at HS HL
        have hS1 : (idxG O (lcKey l)).getD (.lit (.int .i64 0)) = .lit (.int .i64 0) := by rw [HS.out]; rfl
        have hS2 : (idxG O (lcKey l)).isSome = false := by rw [HS.out]; rfl
        have HS1 := Lib.hid hS1
        have HS2 := Lib.hid hS2
        clear hS1 hS2 hm
        have hwf := wf_64 (n := (O.length : Int)) (by omega)
        have hnml : nm < maxLen := by unfold maxLen; omega
        have hkey := Lib.hid (lcKey_is HFit.out.1 HFit.out.2)
        have hval := Lib.hid (plainElem_int (H := Unit) (P := Tryz.prog) (q := .i64) Tryz.underlying3 hwf)
        go_upto_region 10 with (first
          | (at_lookup; refine wpList_look_ok_int _ rfl _ _ 181 rfl 28 3 .i64 loc_keyed Tryz.underlying181 Tryz.underlying3 (zero_int _) W.heap.size nm D (idxG O) HD.out rfl (KA.out.map _ (List.mem_cons_self ..)) _ (lcKey l) rfl (lcKey_is HFit.out.1 HFit.out.2) 0 HS1.out false HS2.out ?_)
          | go_in)
        clear k0 k1 k2
        have KD := Lib.hid (KA.out.drew)
        have KE := Lib.hid (KA.out.allocAt (wr.heap.size + 1) (by simp) (.cells #[.int .i64 l.off, .bool l.dst, .string l.abbr] 28)).drew
        obtain ⟨⟨m0, m1, m2⟩, _, _, _⟩ := row3 (KD.out.kp.at 0 rfl)
        obtain ⟨⟨p0, p1, p2⟩, _, _, _⟩ := row3 (KE.out.kp.at 1 rfl)
        go_region_held_law (fun w' => w'.cell? ⟨wr.heap.size, 0, none⟩ = some (.int .i64 l.off) ∧ w'.cell? ⟨wr.heap.size, 1, none⟩ = some (.bool l.dst) ∧ w'.cell? ⟨wr.heap.size, 2, none⟩ = some (.string l.abbr)) (go_keep)
          (first
            | (refine step_append_lies _ (by rfl) (.tmp 33) (.tmp 35) 22 (by rfl) W.heap.size 28 i0 (.agg #[.int .i64 0, .bool false, .string ⟨#[]⟩]) 3 32 Tryz.underlying22 hi hz0 hz1 hz2 (by rfl) (by decide) _ O.length _ (by rfl) (KE.out.kp.row 0 rfl) ⟨wr.heap.size + 1, 0, none⟩ 1 1 [.int .i64 l.off, .bool l.dst, .string l.abbr] (by rfl) (by rfl) (World.news_of_block (KE.out.kp.at 0 rfl)) (by simp [Value.oneCell']) (by omega) (by unfold maxLen; omega) (by omega) KE.out.below.size _ rfl ?_; intro g cap w1 hown hgrow hat hlt; have K1 := Lib.hid ((KE.out.append hown hgrow (ownAt hat)).drop); obtain ⟨u3, hu3, ou3, gu3⟩ := (K1.out.map _ (List.mem_cons_self ..)).update loc_keyed Tryz.underlying181 hnml hkey.out hval.out; dsimp only [Lc.val] at hu3; have KF := Lib.hid (K1.out.turn gu3 ou3); obtain ⟨⟨x0, x1, x2⟩, _, _, _⟩ := row3 (K1.out.kp.at 0 rfl); obtain ⟨⟨y0, y1, y2⟩, _, _, _⟩ := row3 (KF.out.kp.at 0 rfl); clear hown hgrow hat hlt ou3 gu3))
        all_goals
          have K1 := Lib.hid (KF.out.drop.swap.alloc (.cells #[.int .i64 (O.length : Int)] 3))
          go_wp2_with (first
            | (at_builtin; refine wpList_append_own_at _ rfl (.tmp 37) (.tmp 39) 95 rfl W.heap.size 3 j0 (.int .i64 0) 1 8 Tryz.underlying95 hj hy0 hy1 hy2 rfl (by decide) _ I.length _ rfl (K1.out.kp.row 0 rfl) _ 1 1 [.int .i64 (O.length : Int)] rfl rfl ?c1 ?c2 ?c3 ?c4 ?c5 ?_; (case c1 => exact World.news_of_block (K1.out.kp.at 0 rfl)); (case c2 => simp [Value.oneCell']); (case c3 => unfold maxLen; omega); (case c4 => omega); (case c5 => exact K1.out.below.size); intro v' w1 hown hgrow _ hat; have K2 := Lib.hid (K1.out.append hown hgrow hat).drop.swap; clear hown hgrow hat)
            | go_in)
          go_roundw
          case rel =>
            refine ⟨i + 1, by omega, by go_num, ?_⟩
            unfold Df
            rw [HL.out]
            refine ⟨nm + 1, D.put (lcKey l) (.lit (.int .i64 (O.length : Int))), by omega, ?_, ?_⟩
            · dsimp only [dfR]
              rw [nInt_snoc, lcs_snoc, List.length_append, List.length_append]
              exact K2.out
            · rw [idxG_snoc]
              exact HD.out.put (k := lcKey l) trivial _
          case measure => simp [intOf]; omega
    · obtain rfl : i = n := by omega
      have hLt : L.take i = L := List.take_of_length_le (by have := HN.out; omega)
      have hE : diffGo [] L = (O, I) := by rw [← HO.out, hLt]
      have HE := Lib.hid hE
      clear hLt hE hmm
      go_wp2_with fail
      refine bodyPost_ret (v := .tuple #[.slice a5 O.length c5, u6]) (by simp [results, Tryz.results99, go_sem]) rfl ⟨_, _, rfl, ?_⟩
      rw [HE.out]
      exact HK.out.kp
end Go.Proofs.YtlaplgaccjmbhaaGreatDoor.Px

