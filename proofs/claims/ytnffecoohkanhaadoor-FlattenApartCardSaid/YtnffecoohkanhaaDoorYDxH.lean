/- The drafts of sources with eras (chapter 23): the source made, known by the draft alone. -/
import Derived.Test.YtnffecoohkanhaaDoorM30
import Derived.Test.YtnffecoohkanhaaDoorM17
import Derived.Test.YtnffecoohkanhaaDoorYFuP
import Derived.Deep.DeepCutAuto
namespace Go.Proofs.YtnffecoohkanhaaDoor.Px
open Go.RowKit
open Lk Ld Py

/-- the zones made so far, and their eras in memory -/
structure ZsP (i : Nat) (T : List ZnT) (E : List (Zq × Zo)) : Prop where
  nm : T.map Prod.fst = Z23 i
  few : ∀ x ∈ T, x.2.length ≤ 4
  zq : E.map Prod.fst = T.map zqT
  same : ∀ p ∈ E, p.2.1 = p.1.nm
theorem ZsP.nil : ZsP 0 [] [] := ⟨rfl, (fun _ h => by cases h), rfl, (fun _ h => by cases h)⟩
theorem Z23_succ (i : Nat) : Z23 (i + 1) = Z23 i ++ [aName i] := by
  unfold Z23
  rw [List.range_succ, List.map_append]
  rfl
theorem ZsP.snoc {i : Nat} {T : List ZnT} {E : List (Zq × Zo)} (h : ZsP i T E) (es : List ErQ) (he : es.length ≤ 4) (o : Zo) (ho : o.1 = aName i) : ZsP (i + 1) (T ++ [(aName i, es)]) (E ++ [(zqT (aName i, es), o)]) := by
  refine ⟨by rw [List.map_append, h.nm, Z23_succ]; rfl, fun x hx => ?_, by rw [List.map_append, List.map_append, h.zq]; rfl, fun p hp => ?_⟩
  · rcases List.mem_append.1 hx with hx | hx
    · exact h.few x hx
    · rw [List.mem_singleton.1 hx]
      exact he
  · rcases List.mem_append.1 hp with hp | hp
    · exact h.same p hp
    · rw [List.mem_singleton.1 hp]
      exact ho
theorem ZsP.len {i : Nat} {T : List ZnT} {E : List (Zq × Zo)} (h : ZsP i T E) : T.length = i ∧ E.length = i := by
  have h1 := congrArg List.length h.nm
  have h2 := congrArg List.length h.zq
  unfold Z23 at h1
  simp only [List.length_map, List.length_range] at h1 h2
  omega
theorem L23_succ (n i : Nat) (Ln : List Nat) : L23 n (i + 1) Ln = L23 n i Ln ++ [(oName i, t23 n (Ln.getD i 0) i)] := by
  unfold L23
  rw [List.range_succ, List.map_append]
  rfl
/-- what holds in every world in which some blocks are known -/
def Always (X : List (Nat × Obj)) (W : World) (p : World → Prop) : Prop := ∀ (L : List (Nat × Obj)) (R : List Rw) (Y : World), (∀ x ∈ X, x ∈ L) → Kp L R W Y → p Y
/-- a slice of eras by numbers, in every world that keeps what W has -/
def ErsX (W : World) (v : Value) (E8 : List Er8) : Prop := (∀ x ∈ E8, x.ok) ∧ ∀ Y, Below W.heap.size W Y → SlV Y v 8 E8.length (E8.flatMap er8C)
theorem Kp.permL {L M : List (Nat × Obj)} {R : List Rw} {w X : World} (h : Kp L R w X) (hp : M.Perm L) : Kp M R w X :=
  ⟨⟨h.known.below, fun k b o hk => by
    obtain ⟨j, hj, e⟩ := List.getElem_of_mem (hp.subset (List.mem_of_getElem? hk))
    exact h.at j (by rw [List.getElem?_eq_getElem hj, e]), fun p hq => h.known.own p (hp.subset hq), (hp.pairwise_iff (fun {_ _} hab => hab.symm)).2 h.known.desc⟩, h.own, fun r hr g hg p hq => h.offL r hr g hg p (hp.subset hq), h.offR⟩
/-- the eras of a zone, one behind the other, and their years -/
def esTo (f : Er8 → Bool → Int → Bool → ErQ) (F : List Er8) (k : Nat) : Nat → List ErQ × Int
  | 0 => ([], 1904)
  | j + 1 =>
    let x := F.getD j ⟨0, 0, 0, 0, 0, 0, 0, 0⟩
    let y := (esTo f F k j).2 + (1 + ((x.yr % 30 : Nat) : Int))
    ((esTo f F k j).1 ++ [f x ((j : Int) == 0) y (decide ((j : Int) < (k : Int) - 1))], y)
theorem esTo_len (f : Er8 → Bool → Int → Bool → ErQ) (F : List Er8) (k : Nat) : ∀ j, (esTo f F k j).1.length = j ∧ 1904 ≤ (esTo f F k j).2 ∧ (esTo f F k j).2 ≤ 1904 + 30 * (j : Int)
  | 0 => ⟨rfl, by show (1904 : Int) ≤ 1904; omega, by show (1904 : Int) ≤ 1904 + 30 * ((0 : Nat) : Int); omega⟩
  | j + 1 => by
    obtain ⟨h1, h2, h3⟩ := esTo_len f F k j
    refine ⟨?_, ?_, ?_⟩
    · show ((esTo f F k j).1 ++ [_]).length = j + 1
      rw [List.length_append, h1]
      rfl
    · show 1904 ≤ (esTo f F k j).2 + (1 + (((F.getD j ⟨0, 0, 0, 0, 0, 0, 0, 0⟩).yr % 30 : Nat) : Int))
      omega
    · show (esTo f F k j).2 + (1 + (((F.getD j ⟨0, 0, 0, 0, 0, 0, 0, 0⟩).yr % 30 : Nat) : Int)) ≤ 1904 + 30 * ((j + 1 : Nat) : Int)
      omega
/-- the eras of a zone that are taken -/
def erasOf (E : List Er8) : List Er8 := if E.length = 0 then [⟨0, 0, 0, 0, 0, 0, 0, 0⟩] else E.take (min E.length 4)
theorem erasOf_len (E : List Er8) : 1 ≤ (erasOf E).length ∧ (erasOf E).length ≤ 4 := by
  unfold erasOf
  split
  · exact ⟨by simp, by simp⟩
  · rw [List.length_take]
    omega
/-- the zones that are taken, the zones made -/
def zonesOf (zs : List Value) : List Value := if min zs.length 3 = 0 then [.slice none 0 0] else zs.take (min zs.length 3)
def zoneE (f : Er8 → Bool → Int → Bool → ErQ) (Ef : Value → List Er8) (v : Value) : List ErQ := (esTo f (erasOf (Ef v)) (erasOf (Ef v)).length (erasOf (Ef v)).length).1
def zonesTo (f : Er8 → Bool → Int → Bool → ErQ) (Ef : Value → List Er8) (zs : List Value) (i : Nat) : List ZnT := (List.range i).map fun j => (aName j, zoneE f Ef ((zonesOf zs).getD j (.slice none 0 0)))
def rulesTo (rf : List Nat × ByteArray → List RuQ) (Lf : Value → List Nat) (vs : List Value) (i : Nat) : List RuQ := (List.range i).flatMap fun j => rf (if j < vs.length then Lf (vs.getD j (.slice none 0 0)) else [], ⟨#[82]⟩ ++ bs (Lib.itoa (j : Int)))
theorem rulesTo_succ (rf : List Nat × ByteArray → List RuQ) (Lf : Value → List Nat) (vs : List Value) (i : Nat) : rulesTo rf Lf vs (i + 1) = rulesTo rf Lf vs i ++ rf (if i < vs.length then Lf (vs.getD i (.slice none 0 0)) else [], ⟨#[82]⟩ ++ bs (Lib.itoa (i : Int))) := by
  unfold rulesTo
  rw [List.range_succ, List.flatMap_append]
  simp only [List.flatMap_cons, List.flatMap_nil, List.append_nil]
theorem zonesTo_fst (f : Er8 → Bool → Int → Bool → ErQ) (Ef : Value → List Er8) (zs : List Value) (i : Nat) : (zonesTo f Ef zs i).map Prod.fst = Z23 i := by
  unfold zonesTo Z23
  rw [List.map_map]
  rfl
theorem zonesTo_few (f : Er8 → Bool → Int → Bool → ErQ) (Ef : Value → List Er8) (zs : List Value) (i : Nat) : ∀ x ∈ zonesTo f Ef zs i, x.2.length ≤ 4 := fun x hx => by
  obtain ⟨j, _, rfl⟩ := List.mem_map.1 hx
  show (zoneE f Ef _).length ≤ 4
  unfold zoneE
  rw [(esTo_len f _ _ _).1]
  exact (erasOf_len _).2
theorem min_nat (m k : Nat) : min (m : Int) (k : Int) = ((min m k : Nat) : Int) := by omega

set_option maxHeartbeats 40000000 in
set_option maxRecDepth 100000 in
theorem made23src_any (sv zv lv : Value) (vs zs : List Value) (Ln : List Nat) (W0 : World) (h0 : D23 W0 sv zv lv vs zs Ln) : ∃ (D : List RuQ) (T : List ZnT) (p m : Nat), 1 ≤ p ∧ p ≤ 3 ∧ m ≤ 4 ∧ D.length ≤ 15 ∧ T.map Prod.fst = Z23 p ∧ (∀ x ∈ T, x.2.length ≤ 4) ∧ ∀ W : World, Below W0.heap.size W0 W → EnvAt W →
    Calls Tryd.prog 19 #[.agg #[sv, zv, lv]] W fun e w' => ∃ (rv zv' lv' : Value) (E : List (Zq × Zo)), e = .returned (.agg #[rv, zv', lv', .slice none 0 0]) ∧ ZsP p T E ∧
      Kp [] (⟨lv', 43, 2, m, (L23 p m Ln).flatMap kcells⟩ :: ⟨zv', 40, 2, p, (E.map Prod.snd).flatMap zcells⟩ :: ⟨rv, 36, 11, D.length, D.flatMap ruqC⟩ :: E.reverse.map eraR) W w' := by
  obtain ⟨Lf, hLf⟩ := Classical.axiomOfChoice (show ∀ v : Value, ∃ L : List Nat, v ∈ vs → D17 W0 v L from fun v => by
    by_cases hv : v ∈ vs
    · obtain ⟨L, hL⟩ := h0.sets v hv
      exact ⟨L, fun _ => hL⟩
    · exact ⟨[], fun q => absurd q hv⟩)
  obtain ⟨Ef, hEf⟩ := Classical.axiomOfChoice (show ∀ v : Value, ∃ E8 : List Er8, (v ∈ zs → (∀ x ∈ E8, x.ok) ∧ ∀ Y, Below W0.heap.size W0 Y → SlV Y v 8 E8.length (E8.flatMap er8C)) ∧ (v ∉ zs → E8 = []) from fun v => by
    by_cases hv : v ∈ zs
    · obtain ⟨E8, e1, e2⟩ := h0.zones v hv
      exact ⟨E8, fun _ => ⟨e2, fun Y hB => e1.keep hB⟩, fun q => absurd hv q⟩
    · exact ⟨[], fun q => absurd q hv, fun _ => rfl⟩)
  obtain ⟨rf, hrf⟩ := Classical.axiomOfChoice (show ∀ q : List Nat × ByteArray, ∃ l : List RuQ, 0 < l.length ∧ l.length ≤ 5 ∧ ∀ (dv : Value) (W : World), D17 W dv q.1 → Calls Tryd.prog 43 #[dv, .string q.2] W fun e w' => (∃ v : Value, e = .returned v ∧ SlV w' v 11 l.length (l.flatMap ruqC)) ∧ Below W.heap.size W w' from fun q => made17_any q.1 q.2)
  obtain ⟨c, hc⟩ : ∃ c : Nat, max (1 : Int) (min (vs.length : Int) 3) = (c : Int) := ⟨(max (1 : Int) (min (vs.length : Int) 3)).toNat, by omega⟩
  have hc1 : 1 ≤ c := by omega
  have hc3 : c ≤ 3 := by omega
  obtain ⟨ef, hef⟩ := Classical.axiomOfChoice (show ∀ q : Er8 × Bool × Int × Bool, ∃ x : ErQ, q.1.ok → ∀ W : World, EnvAt W → Calls Tryd.prog 45 #[.agg #[.int .u8 (q.1.kd : Int), .int .u8 (q.1.st : Int), .int .u8 (q.1.fm : Int), .int .u8 (q.1.yr : Int), .int .u8 (q.1.dy : Int), .int .u8 (q.1.bz : Int), .int .i8 q.1.of, .int .i8 q.1.at'], .bool q.2.1, .int .i64 (c : Int), .int .i64 q.2.2.1, .bool q.2.2.2] W fun e w' => e = .returned (.agg (erqC x).toArray) ∧ Below W.heap.size W w' from fun q => by
    by_cases hq : q.1.ok
    · obtain ⟨a1, a2, a3, a4, a5, a6, a7, a8⟩ := hq
      obtain ⟨x, hx⟩ := made23_any q.1.kd q.1.st q.1.fm q.1.yr q.1.dy q.1.bz q.1.of q.1.at' q.2.1 q.2.2.2 (c : Int) q.2.2.1 a1 a2 a3 a4 a5 a6 a7 a8 (by omega) (by omega)
      exact ⟨x, fun _ => hx⟩
    · exact ⟨⟨0, 0, 0, ⟨#[]⟩, ⟨#[]⟩, false, 0, 0, 0, 0, 0, 0, 0⟩, fun q => absurd q hq⟩)
  obtain ⟨fE, hfE⟩ : ∃ fE : Er8 → Bool → Int → Bool → ErQ, ∀ x a y b, ef (x, a, y, b) = fE x a y b := ⟨fun x a y b => ef (x, a, y, b), fun _ _ _ _ => rfl⟩
  have hzl : 1 ≤ (zonesOf zs).length ∧ (zonesOf zs).length ≤ 3 := by
    unfold zonesOf
    split
    · exact ⟨by simp, by simp⟩
    · rw [List.length_take]
      omega
  have hrl : ∀ i, (rulesTo rf Lf vs i).length ≤ 5 * i := fun i => by
    induction i with
    | zero => exact Nat.le_refl 0
    | succ i ih =>
      unfold rulesTo at ih ⊢
      rw [List.range_succ, List.flatMap_append, List.length_append]
      have := (hrf (if i < vs.length then Lf (vs.getD i (.slice none 0 0)) else [], ⟨#[82]⟩ ++ bs (Lib.itoa (i : Int)))).2.1
      simp only [List.flatMap_cons, List.flatMap_nil, List.append_nil]
      omega
  have hD15 := hrl c
  refine ⟨rulesTo rf Lf vs c, zonesTo fE Ef zs (zonesOf zs).length, (zonesOf zs).length, min Ln.length 4, hzl.1, hzl.2, by omega, by omega, zonesTo_fst _ _ _ _, zonesTo_few _ _ _ _, fun W hBW hE => ?_⟩
  have h := h0.keep hBW
  have HLf := Lib.hid (fun v (hv : v ∈ vs) (Y : World) (hB : Below W.heap.size W Y) => (hLf v hv).keep (hBW.trans (hB.mono hBW.size)))
  have HRf := Lib.hid hrf
  have HRl := Lib.hid hrl
  have HEfz := Lib.hid (fun v (hv : v ∈ zs) => (hEf v).1 hv)
  have HEfn := Lib.hid (fun v (hv : v ∉ zs) => (hEf v).2 hv)
  have HB0 := Lib.hid hBW
  have HEX := Lib.hid (fun (x : Er8) (a : Bool) (y : Int) (b : Bool) (hx : x.ok) => (hfE x a y b) ▸ hef (x, a, y, b) hx)
  have HD := Lib.hid (fun (Y : World) (hB : Below W.heap.size W Y) => h.keep hB)
  have HE := Lib.hid hE
  have HLb := Lib.hid h.links
  obtain ⟨sa, sc, rfl, _, _⟩ := h.s.slA
  obtain ⟨za, zc, rfl, hzc1, hzc2⟩ := h.z.slA
  obtain ⟨la, lc, rfl, hlc1, hlc2⟩ := h.l.slA
  unfold maxLen at hzc2 hlc2
  obtain ⟨n, hn⟩ : ∃ n, vs.length = n := ⟨_, rfl⟩
  obtain ⟨m, hm⟩ : ∃ m, zs.length = m := ⟨_, rfl⟩
  obtain ⟨q, hq⟩ : ∃ q, Ln.length = q := ⟨_, rfl⟩
  rw [hn, hm, hq] at HD
  rw [hn, hm, hq]
  rw [hm] at hzc1
  rw [hq] at hlc1
  have HL := Lib.hid (And.intro hn (And.intro hm hq))
  have K0 := Lib.hid ((((Kp.start W).allocAt W.heap.size rfl (.cells #[.slice sa n sc, .slice za m zc, .slice la q lc] 54)).allocAt (W.heap.size + 1) (by simp) (.cells #[.slice none 0 0, .slice none 0 0, .slice none 0 0, .slice none 0 0] 27)).allocAt (W.heap.size + 2) (by simp) (.cells #[.slice none 0 0, .slice none 0 0, .slice none 0 0, .slice none 0 0] 27))
  rw [hn] at hc
  clear h hE hn hm hq hLf hEf hrf hef hfE hzl hrl hD15 h0 hBW
  go_enter Tryd.func19, Tryd.ntmps19
  go_upto_region 2 with fail
  obtain ⟨X0, hX0⟩ : ∃ X, (((W.alloc (.cells #[.slice sa n sc, .slice za m zc, .slice la q lc] 54)).alloc (.cells #[.slice none 0 0, .slice none 0 0, .slice none 0 0, .slice none 0 0] 27)).alloc (.cells #[.slice none 0 0, .slice none 0 0, .slice none 0 0, .slice none 0 0] 27)) = X := ⟨_, rfl⟩
  rw [hX0] at K0
  rw [hX0]
  clear hX0
  obtain ⟨E, hEq⟩ : ∃ p, W.heap.size = p := ⟨_, rfl⟩
  obtain ⟨R, hRq⟩ : ∃ p, E + 1 = p := ⟨_, rfl⟩
  obtain ⟨S, hSq⟩ : ∃ p, R + 1 = p := ⟨_, rfl⟩
  have e2 : E + 2 = S := by omega
  rw [hEq, hRq, e2] at K0
  have HEq := Lib.hid hEq
  simp only [hEq, hRq, hSq]
  clear hEq hRq hSq e2
  obtain ⟨b0, b1, b2⟩ := (row3 (K0.out.at 2 rfl)).1
  obtain ⟨z0, z1, z2, z3⟩ := row4 (K0.out.at 0 rfl)
  go_upto_region 3 with fail
  try simp only [hc]
  have K1 := Lib.hid (K0.out.fresh 36 11)
  clear hc b0 b1 b2 z0 z1 z2 z3 K0
  go_wp2_with fail
  go_loopw [5, 6, 24] (fun _ _ i24 wr => ∃ (i : Nat) (rv : Value), i ≤ c ∧ i24 = .int .i64 (i : Int) ∧ Kp [(S, .cells #[rv, .slice none 0 0, .slice none 0 0, .slice none 0 0] 27), (R, .cells #[.slice none 0 0, .slice none 0 0, .slice none 0 0, .slice none 0 0] 27), (E, .cells #[.slice sa n sc, .slice za m zc, .slice la q lc] 54)] [⟨rv, 36, 11, (rulesTo rf Lf vs i).length, (rulesTo rf Lf vs i).flatMap ruqC⟩] W wr) (fun _ _ i24 _ => c - (intOf i24).toNat)
  case atStart => exact ⟨0, _, by omega, rfl, K1.out⟩
  case round =>
    clear K1
    obtain ⟨i, rv, hi', rfl, hk⟩ := hrel
    have hl := HRl.out i
    obtain ⟨l, hlq⟩ : ∃ l, rulesTo rf Lf vs i = l := ⟨_, rfl⟩
    rw [hlq] at hk hl
    have HLq := Lib.hid hlq
    clear hlq
    obtain ⟨ra, rc, rfl⟩ : ∃ a c, rv = .slice a l.length c := own_slice (hk.row 0 rfl)
    have HK := Lib.hid hk
    clear hk
    by_cases hlt : i < c
    · obtain ⟨b0, b1, b2⟩ := (row3 (HK.out.at 2 rfl)).1
      have hcI : (i : Int) < (c : Int) := by omega
      go_upto_if 31 with fail
      go_cut [6] from 31 to 36 (fun v6 wx => D17 wx v6 (if i < n then Lf (vs.getD i (.slice none 0 0)) else []) ∧ Kp [(S, .cells #[.slice ra l.length rc, .slice none 0 0, .slice none 0 0, .slice none 0 0] 27), (R, .cells #[.slice none 0 0, .slice none 0 0, .slice none 0 0, .slice none 0 0] 27), (E, .cells #[.slice sa n sc, .slice za m zc, .slice la q lc] 54)] [⟨.slice ra l.length rc, 36, 11, l.length, l.flatMap ruqC⟩] W wx)
      case first =>
        by_cases hin : i < n
        · have hd := HD.out _ HK.out.below
          have hs := hd.s
          rw [HL.out.1] at hs
          obtain ⟨bb, o, c', e1, _, _, hbb, hcell⟩ := hs.allA (by omega)
          simp only [Value.slice.injEq] at e1
          obtain ⟨rfl, _, rfl⟩ := e1
          obtain ⟨v, hv⟩ : ∃ v, vs[i]? = some v := ⟨_, List.getElem?_eq_getElem (by rw [HL.out.1]; exact hin)⟩
          have k0 := hcell i v hv
          have hL := HLf.out v (List.mem_of_getElem? hv) _ HK.out.below
          obtain ⟨LL, hLL⟩ : ∃ L, Lf v = L := ⟨_, rfl⟩
          rw [hLL] at hL
          have HLL := Lib.hid hLL
          clear hLL
          have hvi : vs.getD i (.slice none 0 0) = v := by rw [List.getD, hv]; rfl
          have HVI := Lib.hid hvi
          clear hvi
          obtain ⟨va, vc, rfl, _, _⟩ := hL.sl.slA
          have HV := Lib.hid hL
          clear hd hs hcell hv hL
          have hinI : (i : Int) < (n : Int) := by omega
          go_wp2_with fail
          go_meet
          exact ⟨by rw [if_pos hin, HVI.out, HLL.out]; exact HV.out, HK.out⟩
        · have hinI : ¬ (i : Int) < (n : Int) := by omega
          go_wp2_with fail
          go_meet
          exact ⟨by rw [if_neg hin]; exact D17.nil _, HK.out⟩
      case rest =>
        clear b0 b1 b2
        obtain ⟨hL, hk⟩ := hcut
        obtain ⟨L, hLi⟩ : ∃ L, (if i < n then Lf (vs.getD i (.slice none 0 0)) else []) = L := ⟨_, rfl⟩
        rw [hLi] at hL
        have HLi := Lib.hid hLi
        clear hLi
        obtain ⟨va, vn, vc, rfl⟩ : ∃ a n c, u6 = .slice a n c := by obtain ⟨a, c, e, _, _⟩ := hL.sl.slA; exact ⟨_, _, _, e⟩
        have HW6 := Lib.hid hL
        have KD := Lib.hid hk.drew
        clear hk hL HK
        obtain ⟨sj, hsj⟩ : ∃ s, bs (Lib.itoa (i : Int)) = s := ⟨_, rfl⟩
        have hsl : sj.size ≤ 2 := by rw [← hsj]; exact itoa_len (by omega)
        have hcat : ¬ 9223372036854775807 < 1 + sj.size := by omega
        have CI := Lib.hid (fun (Y : World) (hB : Below W.heap.size W Y) => itoa_any (i : Int) (by omega) (by omega) Y (HE.out.keep hB))
        rw [hsj] at CI
        obtain ⟨l', hl'⟩ : ∃ l', rf (L, ⟨#[82]⟩ ++ sj) = l' := ⟨_, rfl⟩
        have CM := Lib.hid (fun (Y : World) (hB : Below wc.heap.size wc Y) => (HRf.out (L, ⟨#[82]⟩ ++ sj)).2.2 _ Y (HW6.out.keep hB))
        have h00 := (HRf.out (L, ⟨#[82]⟩ ++ sj)).1
        have hl5 := (HRf.out (L, ⟨#[82]⟩ ++ sj)).2.1
        rw [hl'] at CM h00 hl5
        have HLn := Lib.hid (show l ++ l' = rulesTo rf Lf vs (i + 1) by
          rw [rulesTo_succ, HLq.out, HL.out.1, HLi.out, hsj, hl'])
        clear hsj hl'
        obtain ⟨y0, y1, y2, y3⟩ := row4 (KD.out.at 0 rfl)
        go_upto_region 9 with fail
        go_region_law
          (first
          | (refine step_append_eq (by rfl) (.tmp 38) (.tmp 43) 22 (by rfl) _ _ _ _ (by rfl) (by rfl) HR.out ?_; obtain ⟨z0, z1, z2, z3⟩ := row4 (K2.out.at 0 rfl); have z4 := free_at (K2.out.at 0 rfl) 0; clear HR)
          | (go_simp; go_at_call 44; refine (CI.out _ KD.out.below).mono ?_; rintro e X ⟨rfl, hb⟩; have KX := Lib.hid (KD.out.keep hb); have HBX := Lib.hid hb; obtain ⟨x0, x1, x2, x3⟩ := row4 (KX.out.at 0 rfl); have hwx := KX.out.lt 0 rfl; clear hb CI)
          | (go_simp; go_at_call 43; refine (CM.out _ (by have := HBX.out; exact (below_drewN (Below.refl _ _) 1).trans this)).mono ?_; rintro e Y ⟨⟨v, rfl, hS⟩, hb⟩; obtain ⟨pa, pc, rfl, _, _⟩ := hS.slA; have KY := KX.out.keep hb; obtain ⟨w0, w1, w2, w3⟩ := row4 (KY.at 0 rfl); have hwy := KY.lt 0 rfl; obtain ⟨oa, oc, w1', hra, hka⟩ := append_rules KY l' _ hS h00 (by omega); have HR := Lib.hid hra; have K2 := Lib.hid hka; clear hra hka hS hb KY CM HBX KX))
        all_goals
          have K3 := Lib.hid (K2.out.set 0 rfl 0 (.slice oa (l.length + l'.length) oc) rfl)
          have hw1 := IntWalk.i64_in ((i : Int) + 1) (by omega)
          go_wp2_with fail
          go_roundw
          case rel =>
            refine ⟨i + 1, .slice oa (l.length + l'.length) oc, by omega, by go_num, ?_⟩
            rw [← HLn.out]
            exact K3.out
          case measure => simp [intOf]; omega
    · obtain rfl : c = i := by omega
      have hD15 : l.length ≤ 15 := by omega
      obtain ⟨nr, hnr⟩ : ∃ k, l.length = k := ⟨_, rfl⟩
      obtain ⟨Rs, hRs⟩ : ∃ k, l.flatMap ruqC = k := ⟨_, rfl⟩
      have hk := HK.out
      rw [hnr, hRs] at hk
      rw [hnr] at hD15
      have K2 := Lib.hid hk
      have HNr := Lib.hid (And.intro hnr (And.intro hRs hD15))
      have HB2 := Lib.hid K2.out.below
      have hz := HD.out _ HB2.out
      have HZs := Lib.hid hz.z
      clear hk HK hnr hRs hl hD15 hz
      obtain ⟨b0, b1, b2⟩ := (row3 (K2.out.at 2 rfl)).1
      obtain ⟨p0, hp0⟩ : ∃ p : Nat, min m 3 = p := ⟨_, rfl⟩
      have HP0 := Lib.hid hp0
      have hm0 : min (m : Int) 3 = (p0 : Int) := by omega
      have hp3 : p0 ≤ 3 := by omega
      have hpz : p0 ≤ zc := by omega
      have hpI : (p0 : Int) ≤ (zc : Int) := by omega
      go_upto_if 56 with fail
      obtain ⟨zs', hzs'⟩ : ∃ l, zonesOf zs = l := ⟨_, rfl⟩
      obtain ⟨p, hpz'⟩ : ∃ k, zs'.length = k := ⟨_, rfl⟩
      have HZS := Lib.hid (And.intro hzs' hpz')
      clear hzs' hpz'
      go_cut [7] from 56 to 57 (fun v7 wx => ∃ (zb zo cap : Nat) (X : List (Nat × Obj)), v7 = .slice (some ⟨zb, zo, none⟩) p cap ∧ (1 ≤ p ∧ p ≤ 3 ∧ p ≤ cap ∧ cap ≤ maxLen) ∧ (∀ v ∈ zs', ErsX W v (Ef v)) ∧ Always X W (fun Y => ∀ (i : Nat) (v : Value), zs'[i]? = some v → Y.cell? ⟨zb, zo + i, none⟩ = some v) ∧ Kp ((S, .cells #[.slice ra nr rc, .slice none 0 0, .slice none 0 0, .slice none 0 0] 27) :: (R, .cells #[.slice none 0 0, .slice none 0 0, .slice none 0 0, .slice none 0 0] 27) :: (E, .cells #[.slice sa n sc, .slice za m zc, .slice la q lc] 54) :: X) [⟨.slice ra nr rc, 36, 11, nr, Rs⟩] W wx)
      case first =>
        by_cases hp : p0 = 0
        · subst hp
          have K3 := Lib.hid (K2.out.allocAt _ rfl (.cells #[.slice none 0 0] 93))
          go_wp2_with fail
          go_meet
          obtain rfl : zs' = [.slice none 0 0] := by rw [← HZS.out.1]; unfold zonesOf; rw [if_pos (by rw [HL.out.2.1]; omega)]
          obtain rfl : 1 = p := HZS.out.2
          refine ⟨wr.heap.size, 0, 1, [(wr.heap.size, .cells #[.slice none 0 0] 93)], rfl, ⟨by omega, by omega, by omega, by unfold maxLen; omega⟩, ?_, ?_, K3.out.permL ?_⟩
          · intro v hv
            rw [List.mem_singleton.1 hv]
            have hz0 : zs = [] := List.eq_nil_of_length_eq_zero (by rw [HL.out.2.1]; omega)
            rw [HEfn.out _ (by rw [hz0]; exact List.not_mem_nil)]
            exact ⟨(fun x hx => by cases hx), fun Y _ => SlV.nil Y 8⟩
          · intro L R' Y hs hk i v hv
            have hb := hk.atM (hs _ (List.mem_singleton.2 rfl))
            cases i with
            | zero =>
              simp only [List.getElem?_cons_zero, Option.some.injEq] at hv
              subst hv
              exact cells_at hb 0
            | succ i => simp at hv
          · exact List.perm_middle (l₁ := [_, _, _]) (l₂ := [])
        · obtain ⟨zb, zo, zc', e1, _, _, _, _⟩ := HZs.out.allA (by rw [HL.out.2.1]; omega)
          simp only [Value.slice.injEq] at e1
          obtain ⟨rfl, _, rfl⟩ := e1
          have hpI0 : ¬ (p0 : Int) = 0 := by omega
          go_wp2_with fail
          go_meet
          obtain rfl : zs' = zs.take p0 := by rw [← HZS.out.1]; unfold zonesOf; rw [if_neg (by rw [HL.out.2.1]; omega), HL.out.2.1, HP0.out]
          obtain rfl : p0 = p := by rw [← HZS.out.2, List.length_take, HL.out.2.1]; omega
          refine ⟨zb, zo, zc, [], rfl, ⟨by omega, hp3, hpz, by unfold maxLen; omega⟩, fun v hv => ?_, ?_, K2.out⟩
          · obtain ⟨e1, e2⟩ := HEfz.out v (List.mem_of_mem_take hv)
            exact ⟨e1, fun Y hB => e2 Y (HB0.out.trans (hB.mono HB0.out.size))⟩
          intro L R' Y hs hk i v hv
          have hY := (HD.out _ hk.below).z
          rw [HL.out.2.1] at hY
          obtain ⟨_, _, _, e1, _, _, _, hc⟩ := hY.allA (by omega)
          simp only [Value.slice.injEq, Option.some.injEq, Addr.mk.injEq] at e1
          obtain ⟨⟨rfl, rfl, _⟩, _, _⟩ := e1
          refine hc i v ?_
          rw [List.getElem?_take] at hv
          split at hv
          · exact hv
          · cases hv
      case rest =>
        obtain ⟨zb, zo, cap, X, rfl, ⟨hp1, hp3', hpc, hcapm⟩, hzE, hzA, hk⟩ := hcut
        have HZl := Lib.hid HZS.out.2
        have HZE := Lib.hid hzE
        have HZA := Lib.hid hzA
        have K3 := Lib.hid (hk.fresh 40 2)
        clear hk hzE hzA K2 b0 b1 b2 HB2 HZs hp0 hm0 hp3 hpz hpI
        go_wp2_with fail
        go_loopw [8, 9, 10, 11, 12, 13, 60] (fun _ _ _ _ _ _ i60 wr => ∃ (i : Nat) (zv : Value) (E' : List (Zq × Zo)), i ≤ p ∧ i60 = .int .i64 (i : Int) ∧ ZsP i (zonesTo fE Ef zs i) E' ∧ Kp ((S, .cells #[.slice ra nr rc, zv, .slice none 0 0, .slice none 0 0] 27) :: (R, .cells #[.slice none 0 0, .slice none 0 0, .slice none 0 0, .slice none 0 0] 27) :: (E, .cells #[.slice sa n sc, .slice za m zc, .slice la q lc] 54) :: X) (⟨zv, 40, 2, i, (E'.map Prod.snd).flatMap zcells⟩ :: ⟨.slice ra nr rc, 36, 11, nr, Rs⟩ :: E'.reverse.map eraR) W wr) (fun _ _ _ _ _ _ i60 _ => p - (intOf i60).toNat)
        case atStart => exact ⟨0, _, [], by omega, rfl, ZsP.nil, K3.out⟩
        case round =>
          clear K3
          obtain ⟨i, zv, E', hi', rfl, hZ, hk⟩ := hrel
          obtain ⟨T, hTq⟩ : ∃ T, zonesTo fE Ef zs i = T := ⟨_, rfl⟩
          rw [hTq] at hZ
          have HTq := Lib.hid hTq
          clear hTq
          obtain ⟨za3, zc3, rfl⟩ : ∃ a c, zv = .slice a i c := own_slice (hk.row 0 rfl)
          have HK := Lib.hid hk
          have HZ := Lib.hid hZ
          clear hk hZ
          by_cases hlt2 : i < p
          · have hiI : (i : Int) < (p : Int) := by omega
            obtain ⟨v, hv⟩ : ∃ v, zs'[i]? = some v := ⟨_, List.getElem?_eq_getElem (by rw [HZl.out]; exact hlt2)⟩
            have c0 := HZA.out _ _ _ (fun z hz => List.mem_cons_of_mem _ (List.mem_cons_of_mem _ (List.mem_cons_of_mem _ hz))) HK.out i v hv
            have hvq : (zonesOf zs).getD i (.slice none 0 0) = v := by rw [HZS.out.1, List.getD, hv]; rfl
            have HVq := Lib.hid hvq
            obtain ⟨E8, hE8⟩ : ∃ E8, Ef v = E8 := ⟨_, rfl⟩
            obtain ⟨h8ok, h8⟩ := HZE.out v (List.mem_of_getElem? hv)
            rw [hE8] at h8ok h8
            have HE8 := Lib.hid hE8
            clear hvq hE8
            obtain ⟨xa, xc, rfl, hx1, hx2⟩ := (h8 W (Below.refl _ _)).slA
            obtain ⟨n8, hn8⟩ : ∃ k, E8.length = k := ⟨_, rfl⟩
            rw [hn8] at h8 hx1 c0
            unfold maxLen at hx2
            have HN8 := Lib.hid hn8
            have H8 := Lib.hid h8
            have H8o := Lib.hid h8ok
            obtain ⟨p8, hp8⟩ : ∃ k : Nat, min n8 4 = k := ⟨_, rfl⟩
            have hpI8 : min (n8 : Int) 4 = (p8 : Int) := by omega
            have hpx8 : p8 ≤ xc := by omega
            have hpx8I : (p8 : Int) ≤ (xc : Int) := by omega
            obtain ⟨sj, hsj⟩ : ∃ s, bs (Lib.itoa (i : Int)) = s := ⟨_, rfl⟩
            have hsl : sj.size ≤ 2 := by rw [← hsj]; exact itoa_len (by omega)
            have hcat : ¬ 9223372036854775807 < 6 + sj.size := by omega
            have CI := Lib.hid (fun (Y : World) (hB : Below W.heap.size W Y) => itoa_any (i : Int) (by omega) (by omega) Y (HE.out.keep hB))
            rw [hsj] at CI
            obtain ⟨nm, hnm⟩ : ∃ s, (⟨#[65, 114, 101, 97, 47, 90]⟩ : ByteArray) ++ sj = s := ⟨_, rfl⟩
            have HSj := Lib.hid (show nm = bs (aName i) by rw [← hnm, ← hsj]; exact bs_ext (by unfold bs aName; simp))
            obtain ⟨F8, hF8q⟩ : ∃ F, erasOf E8 = F := ⟨_, rfl⟩
            obtain ⟨k, hkq⟩ : ∃ k, F8.length = k := ⟨_, rfl⟩
            have HF8q := Lib.hid hF8q
            have HF8 := Lib.hid hkq
            have HP8 := Lib.hid hp8
            have HZn := Lib.hid (show T ++ [(aName i, (esTo fE F8 k k).1)] = zonesTo fE Ef zs (i + 1) by
              unfold zonesTo
              rw [List.range_succ, List.map_append, ← HTq.out]
              show _ = _ ++ [(aName i, zoneE fE Ef ((zonesOf zs).getD i (.slice none 0 0)))]
              rw [HVq.out]
              unfold zoneE
              rw [HE8.out, hF8q, hkq]
              rfl)
            clear hv h8 h8ok hn8 hsj hF8q hkq
            go_upto_region 18 with (first | (go_at_call 44; refine (CI.out _ HK.out.below).mono ?_; rintro e X3 ⟨rfl, hb3⟩; have K3 := Lib.hid (HK.out.keep hb3); clear hb3; skip))
            have K5 := Lib.hid (K3.out.allocAt _ rfl (.cells #[.string nm, .slice none 0 0] 40))
            obtain ⟨Y5, hY5⟩ : ∃ Y, X3.alloc (.cells #[.string nm, .slice none 0 0] 40) = Y := ⟨_, rfl⟩
            rw [hY5] at K5 ⊢
            obtain ⟨bz0, hbz⟩ : ∃ b, X3.heap.size = b := ⟨_, rfl⟩
            rw [hbz] at K5 ⊢
            clear hY5 hbz c0 K3 HK hnm hcat hsl CI
            go_upto_if 76 with fail
            go_cut [9] from 76 to 78 (fun v9 wx => ∃ (eb eo cp : Nat) (X2 : List (Nat × Obj)), v9 = .slice (some ⟨eb, eo, none⟩) k cp ∧ (1 ≤ k ∧ k ≤ 4 ∧ k ≤ cp ∧ cp ≤ maxLen) ∧ (∀ x ∈ F8, x.ok) ∧ Always X2 W (fun Y => ∀ (j : Nat) (x : Er8), F8[j]? = some x → ∀ d, d < 8 → Y.cell? ⟨eb, eo + (j * 8 + d), none⟩ = some ((er8C x).getD d undef)) ∧ Kp ((bz0, .cells #[.string nm, .slice none 0 0] 40) :: (S, .cells #[.slice ra nr rc, .slice za3 i zc3, .slice none 0 0, .slice none 0 0] 27) :: (R, .cells #[.slice none 0 0, .slice none 0 0, .slice none 0 0, .slice none 0 0] 27) :: (E, .cells #[.slice sa n sc, .slice za m zc, .slice la q lc] 54) :: (X2 ++ X)) (⟨.slice za3 i zc3, 40, 2, i, (E'.map Prod.snd).flatMap zcells⟩ :: ⟨.slice ra nr rc, 36, 11, nr, Rs⟩ :: E'.reverse.map eraR) W wx)
            case first =>
              by_cases hp : p8 = 0
              · subst hp
                have K6 := Lib.hid (K5.out.allocAt _ rfl (.cells #[.int .u8 0, .int .u8 0, .int .u8 0, .int .u8 0, .int .u8 0, .int .u8 0, .int .i8 0, .int .i8 0] 96))
                go_wp2_with fail
                go_meet
                obtain rfl : F8 = [⟨0, 0, 0, 0, 0, 0, 0, 0⟩] := by rw [← HF8q.out]; unfold erasOf; rw [if_pos (by rw [HN8.out]; have := HP8.out; omega)]
                obtain rfl : 1 = k := HF8.out
                refine ⟨Y5.heap.size, 0, 1, [(Y5.heap.size, .cells #[.int .u8 0, .int .u8 0, .int .u8 0, .int .u8 0, .int .u8 0, .int .u8 0, .int .i8 0, .int .i8 0] 96)], rfl, ⟨by omega, by omega, by omega, by unfold maxLen; omega⟩, ?_, ?_, K6.out.permL ?_⟩
                · intro x hx
                  rw [List.mem_singleton.1 hx]
                  unfold Er8.ok
                  dsimp only
                  omega
                · intro L R' Y hs hk j x hx d hd
                  have hb := hk.atM (hs _ (List.mem_singleton.2 rfl))
                  cases j with
                  | zero =>
                    simp only [List.getElem?_cons_zero, Option.some.injEq] at hx
                    subst hx
                    have hd8 : d = 0 ∨ d = 1 ∨ d = 2 ∨ d = 3 ∨ d = 4 ∨ d = 5 ∨ d = 6 ∨ d = 7 := by omega
                    rcases hd8 with rfl | rfl | rfl | rfl | rfl | rfl | rfl | rfl
                    all_goals exact cells_at hb _
                  | succ j => simp at hx
                · exact List.perm_middle (l₁ := [_, _, _, _])
              · obtain ⟨eb, eo, ec', e1, _, _, _, _⟩ := (H8.out W (Below.refl _ _)).allA (by omega)
                simp only [Value.slice.injEq] at e1
                obtain ⟨rfl, _, rfl⟩ := e1
                have hpI80 : ¬ (p8 : Int) = 0 := by omega
                go_wp2_with fail
                go_meet
                obtain rfl : F8 = E8.take p8 := by rw [← HF8q.out]; unfold erasOf; rw [if_neg (by rw [HN8.out]; have := HP8.out; omega), HN8.out, HP8.out]
                obtain rfl : p8 = k := by rw [← HF8.out, List.length_take, HN8.out]; omega
                refine ⟨eb, eo, xc, [], rfl, ⟨by omega, by omega, hpx8, by unfold maxLen; omega⟩, fun x hx => H8o.out x (List.mem_of_mem_take hx), ?_, K5.out⟩
                intro L R' Y hs hk j x hx d hd
                obtain ⟨_, _, _, e1, _, _, _, hc⟩ := (H8.out Y hk.below).allA (by omega)
                simp only [Value.slice.injEq, Option.some.injEq, Addr.mk.injEq] at e1
                obtain ⟨⟨rfl, rfl, _⟩, _, _⟩ := e1
                refine hc _ _ (er8_at E8 (i := j) ?_ d hd)
                rw [List.getElem?_take] at hx
                split at hx
                · exact hx
                · cases hx
            case rest =>
              obtain ⟨eb, eo, cp, X2, rfl, ⟨hk1, hk4, hkc, hcm⟩, hFo, hFA, hk⟩ := hcut
              have HFo := Lib.hid hFo
              have HFA := Lib.hid hFA
              have K6 := Lib.hid (hk.fresh 81 13)
              clear hk hFo hFA K5 hp8 hpI8 hpx8
              go_wp2_with fail
              go_loopw [11, 12, 13, 81] (fun v11 _ _ i81 wx => ∃ (j : Nat) (ev : Value), j ≤ k ∧ i81 = .int .i64 (j : Int) ∧ v11 = .int .i64 (esTo fE F8 k j).2 ∧ Kp ((bz0, .cells #[.string nm, ev] 40) :: (S, .cells #[.slice ra nr rc, .slice za3 i zc3, .slice none 0 0, .slice none 0 0] 27) :: (R, .cells #[.slice none 0 0, .slice none 0 0, .slice none 0 0, .slice none 0 0] 27) :: (E, .cells #[.slice sa n sc, .slice za m zc, .slice la q lc] 54) :: (X2 ++ X)) (⟨ev, 81, 13, j, (esTo fE F8 k j).1.flatMap erqC⟩ :: ⟨.slice za3 i zc3, 40, 2, i, (E'.map Prod.snd).flatMap zcells⟩ :: ⟨.slice ra nr rc, 36, 11, nr, Rs⟩ :: E'.reverse.map eraR) W wx) (fun _ _ _ i81 _ => k - (intOf i81).toNat)
              case atStart => exact ⟨0, _, by omega, rfl, rfl, K6.out⟩
              case round =>
                clear K6
                obtain ⟨j, ev, hj', rfl, rfl, hk⟩ := hrel
                obtain ⟨hes, hy⟩ := esTo_len fE F8 k j
                obtain ⟨y, hyq⟩ : ∃ y, (esTo fE F8 k j).2 = y := ⟨_, rfl⟩
                obtain ⟨es, hesq⟩ : ∃ y, (esTo fE F8 k j).1 = y := ⟨_, rfl⟩
                rw [hyq] at hy ⊢
                rw [hesq] at hes hk
                have HYq := Lib.hid (And.intro hyq hesq)
                clear hyq hesq
                obtain ⟨ea, ec, rfl⟩ : ∃ a c, ev = .slice a j c := own_slice (hk.row 0 rfl)
                have KE := Lib.hid hk
                have HEs := Lib.hid hes
                clear hk hes
                by_cases hltj : j < k
                · have hjI : (j : Int) < (k : Int) := by omega
                  obtain ⟨x, hx⟩ : ∃ x, F8[j]? = some x := ⟨_, List.getElem?_eq_getElem (by rw [HF8.out]; exact hltj)⟩
                  have hcs := HFA.out _ _ _ (fun z hz => List.mem_cons_of_mem _ (List.mem_cons_of_mem _ (List.mem_cons_of_mem _ (List.mem_cons_of_mem _ (List.mem_append_left _ hz))))) KE.out j x hx
                  obtain ⟨hkd, hst, hfm, hyr, hdy, hbz, hof, hat⟩ := HFo.out x (List.mem_of_getElem? hx)
                  obtain ⟨kd, st, fm, yr, dy, bz, of, at'⟩ := x
                  dsimp only at hkd hst hfm hyr hdy hbz hof hat
                  have q0 := hcs 0 (by omega)
                  have q1 := hcs 1 (by omega)
                  have q2 := hcs 2 (by omega)
                  have q3 := hcs 3 (by omega)
                  have q4 := hcs 4 (by omega)
                  have q5 := hcs 5 (by omega)
                  have q6 := hcs 6 (by omega)
                  have q7 := hcs 7 (by omega)
                  simp only [er8C, List.getD, List.getElem?_cons_zero, List.getElem?_cons_succ, Option.getD_some, ← Nat.add_assoc] at q0 q1 q2 q3 q4 q5 q6 q7
                  rw [Nat.add_zero] at q0
                  have KB := Lib.hid (KE.out.allocAt _ rfl (.cells #[.int .u8 (kd : Int), .int .u8 (st : Int), .int .u8 (fm : Int), .int .u8 (yr : Int), .int .u8 (dy : Int), .int .u8 (bz : Int), .int .i8 of, .int .i8 at'] 96))
                  obtain ⟨r30, hr30⟩ : ∃ r, yr % 30 = r := ⟨_, rfl⟩
                  have hrL : r30 < 30 := by omega
                  have hrT : (yr : Int).tmod 30 = (r30 : Int) := by rw [← hr30, Int.tmod_eq_emod_of_nonneg (by omega)]; simp
                  have hrE : (yr : Int) % 30 = (r30 : Int) := by omega
                  have hrU : IntKind.u8.wrap (r30 : Int) = (r30 : Int) := IntWalk.u8_in _ (by omega)
                  have hrW : IntKind.i64.wrap (r30 : Int) = (r30 : Int) := IntWalk.i64_in _ (by omega)
                  have hr1W : IntKind.i64.wrap (1 + (r30 : Int)) = 1 + (r30 : Int) := IntWalk.i64_in _ (by omega)
                  obtain ⟨y1, hy1⟩ : ∃ z, y + (1 + (r30 : Int)) = z := ⟨_, rfl⟩
                  have hy1W : IntKind.i64.wrap y1 = y1 := IntWalk.i64_in _ (by omega)
                  have hy1a : 1904 ≤ y1 := by omega
                  have hy1b : y1 ≤ 1904 + 30 * ((j : Int) + 1) := by omega
                  obtain ⟨first, hfirst⟩ : ∃ b, ((j : Int) == 0) = b := ⟨_, rfl⟩
                  obtain ⟨kl, hkl⟩ : ∃ z : Int, (k : Int) - 1 = z := ⟨_, rfl⟩
                  have hklW : IntKind.i64.wrap kl = kl := IntWalk.i64_in _ (by omega)
                  obtain ⟨last, hlast⟩ : ∃ b, decide ((j : Int) < kl) = b := ⟨_, rfl⟩
                  have hX := HEX.out ⟨kd, st, fm, yr, dy, bz, of, at'⟩ first y1 last ⟨hkd, hst, hfm, hyr, hdy, hbz, hof, hat⟩
                  dsimp only at hX
                  obtain ⟨xE, hxE⟩ : ∃ x, fE ⟨kd, st, fm, yr, dy, bz, of, at'⟩ first y1 last = x := ⟨_, rfl⟩
                  have HNx := Lib.hid (show es ++ [xE] = (esTo fE F8 k (j + 1)).1 ∧ y1 = (esTo fE F8 k (j + 1)).2 from by
                    have e0 : F8.getD j ⟨0, 0, 0, 0, 0, 0, 0, 0⟩ = ⟨kd, st, fm, yr, dy, bz, of, at'⟩ := by rw [List.getD, hx]; rfl
                    unfold esTo
                    dsimp only
                    rw [e0, HYq.out.1, HYq.out.2]
                    dsimp only
                    rw [hr30, hy1, hfirst, hkl, hlast, hxE]
                    exact ⟨rfl, rfl⟩)
                  rw [hxE] at hX
                  obtain ⟨i0, i1, i2, s0, s1, b0, j0, j1, j2, j3, j4, j5, j6⟩ := xE
                  have CX := Lib.hid (fun (Y : World) (hB : Below W.heap.size W Y) => hX Y (HE.out.keep hB))
                  clear hcs hx hX hr30 hkd hst hfm hdy hbz hof hat hxE
                  go_upto_region 25 with fail
                  obtain ⟨Y8, hY8⟩ : ∃ Y, wr.alloc (.cells #[.int .u8 (kd : Int), .int .u8 (st : Int), .int .u8 (fm : Int), .int .u8 (yr : Int), .int .u8 (dy : Int), .int .u8 (bz : Int), .int .i8 of, .int .i8 at'] 96) = Y := ⟨_, rfl⟩
                  rw [hY8] at KB ⊢
                  obtain ⟨bx, hbx⟩ : ∃ b, wr.heap.size = b := ⟨_, rfl⟩
                  rw [hbx] at KB ⊢
                  clear hY8 hbx q0 q1 q2 q3 q4 q5 q6 q7 KE
                  have K8 := KB
                  obtain ⟨d0, d1, d2, d3, d4, d5, d6, d7⟩ := row8 (K8.out.at 0 rfl)
                  go_upto_region 26 with fail
                  clear d0 d1 d2 d3 d4 d5 d6 d7
                  have hes := HEs.out
                  obtain ⟨ie, hez, he0, he1, he2⟩ := info_partsU info_eras
                  refine Py.wp_region_kps_tail 16 (by kernel_rfl) (by kernel_rfl) W _ (⟨.slice za3 i zc3, 40, 2, i, (E'.map Prod.snd).flatMap zcells⟩ :: ⟨.slice ra nr rc, 36, 11, nr, Rs⟩ :: E'.reverse.map eraR) [⟨14, 107, ⟨.slice ea j ec, 81, 13, j, es.flatMap erqC⟩, j + 1, es.flatMap erqC ++ [.int .i64 i0, .int .i64 i1, .int .i64 i2, .string s0, .string s1, .bool b0, .int .i64 j0, .int .i64 j1, .int .i64 j2, .int .i64 j3, .int .i64 j4, .int .i64 j5, .int .i64 j6]⟩] [] (by kernel_rfl) (kkS [(93, .eq (.pointer (some ⟨bz0, 1, none⟩))), (94, .eq (.slice ea j ec)), (95, .eq (.agg #[.int .u8 (kd : Int), .int .u8 (st : Int), .int .u8 (fm : Int), .int .u8 (yr : Int), .int .u8 (dy : Int), .int .u8 (bz : Int), .int .i8 of, .int .i8 at'])), (96, .eq (.int .i64 (j : Int))), (97, .eq (.bool first)), (98, .eq (.int .i64 (c : Int))), (99, .eq (.int .i64 y1)), (100, .eq (.int .i64 (j : Int))), (101, .eq (.slice (some ⟨eb, eo, none⟩) k cp)), (102, .eq (.int .i64 (k : Int))), (103, .eq (.int .i64 kl)), (104, .eq (.bool last)), (105, .eq (.agg #[.int .i64 i0, .int .i64 i1, .int .i64 i2, .string s0, .string s1, .bool b0, .int .i64 j0, .int .i64 j1, .int .i64 j2, .int .i64 j3, .int .i64 j4, .int .i64 j5, .int .i64 j6])), (106, .blk 1 #[.int .i64 i0, .int .i64 i1, .int .i64 i2, .string s0, .string s1, .bool b0, .int .i64 j0, .int .i64 j1, .int .i64 j2, .int .i64 j3, .int .i64 j4, .int .i64 j5, .int .i64 j6] 81), (108, .eq (.pointer (some ⟨bz0, 1, none⟩)))]) (by kernel_rfl) ?hat (of_decide_eq_true (by kernel_rfl)) (by kernel_rfl) (kkS_mono _) K8.out ?steps ?hend
                  case hat =>
                    intro j hj
                    simp only [List.mem_cons, List.not_mem_nil, or_false] at hj
                    subst hj
                    exact ⟨_, rfl, rfl⟩
                  case steps =>
                    refine stepsK_n 93 rfl (by kernel_rfl) ?_ ?_
                    · intro TT D w lq R hk hF K hK0
                      have hK := Lib.hid hK0
                      have q10 : TT[10]?.getD undef = .pointer (some ⟨bz0, 0, none⟩) := hF.old 10 (by kernel_rfl)
                      have hk := Lib.hid hk
                      clear hK0 hF
                      go_simp
                      exact hK.out _ _ _ hk.out (fun _ hp => hp) rfl
                    refine stepsK_n 94 rfl (by kernel_rfl) ?_ ?_
                    · intro TT D w lq R hk hF K hK0
                      have hK := Lib.hid hK0
                      have q93 : TT[93]?.getD undef = .pointer (some ⟨bz0, 1, none⟩) := hF.on 0 (by kernel_rfl) (by kernel_rfl) rfl rfl
                      have c : _ := row2 (hk.atM (hF.sub _ (List.mem_cons_of_mem _ (List.mem_cons_self ..))))
                      obtain ⟨c0, c1⟩ := c
                      have hk := Lib.hid hk
                      clear hK0 hF
                      go_simp
                      exact hK.out _ _ _ hk.out (fun _ hp => hp) rfl
                    refine stepsK_n 95 rfl (by kernel_rfl) ?_ ?_
                    · intro TT D w lq R hk hF K hK0
                      have hK := Lib.hid hK0
                      have q13 : TT[13]?.getD undef = .pointer (some ⟨bx, 0, none⟩) := hF.old 13 (by kernel_rfl)
                      have c : _ := row8 (hk.atM (hF.sub _ (List.mem_cons_self ..)))
                      obtain ⟨c0, c1, c2, c3, c4, c5, c6, c7⟩ := c
                      have hk := Lib.hid hk
                      clear hK0 hF
                      go_simp
                      exact hK.out _ _ _ hk.out (fun _ hp => hp) rfl
                    refine stepsK_n 96 rfl (by kernel_rfl) ?_ ?_
                    · intro TT D w lq R hk hF K hK0
                      have hK := Lib.hid hK0
                      have q12 : TT[12]?.getD undef = .int .i64 (j : Int) := hF.old 12 (by kernel_rfl)
                      have hk := Lib.hid hk
                      clear hK0 hF
                      go_simp
                      exact hK.out _ _ _ hk.out (fun _ hp => hp) rfl
                    refine stepsK_n 97 rfl (by kernel_rfl) ?_ ?_
                    · intro TT D w lq R hk hF K hK0
                      have hK := Lib.hid hK0
                      have q96 : TT[96]?.getD undef = .int .i64 (j : Int) := hF.on 3 (by kernel_rfl) (by kernel_rfl) rfl rfl
                      have hk := Lib.hid hk
                      clear hK0 hF
                      go_simp
                      exact hK.out _ _ _ hk.out (fun _ hp => hp) rfl
                    refine stepsK_n 98 rfl (by kernel_rfl) ?_ ?_
                    · intro TT D w lq R hk hF K hK0
                      have hK := Lib.hid hK0
                      have q4 : TT[4]?.getD undef = .int .i64 (c : Int) := hF.old 4 (by kernel_rfl)
                      have hk := Lib.hid hk
                      clear hK0 hF
                      go_simp
                      exact hK.out _ _ _ hk.out (fun _ hp => hp) rfl
                    refine stepsK_n 99 rfl (by kernel_rfl) ?_ ?_
                    · intro TT D w lq R hk hF K hK0
                      have hK := Lib.hid hK0
                      have q11 : TT[11]?.getD undef = .int .i64 y1 := hF.old 11 (by kernel_rfl)
                      have hk := Lib.hid hk
                      clear hK0 hF
                      go_simp
                      exact hK.out _ _ _ hk.out (fun _ hp => hp) rfl
                    refine stepsK_n 100 rfl (by kernel_rfl) ?_ ?_
                    · intro TT D w lq R hk hF K hK0
                      have hK := Lib.hid hK0
                      have q12 : TT[12]?.getD undef = .int .i64 (j : Int) := hF.old 12 (by kernel_rfl)
                      have hk := Lib.hid hk
                      clear hK0 hF
                      go_simp
                      exact hK.out _ _ _ hk.out (fun _ hp => hp) rfl
                    refine stepsK_n 101 rfl (by kernel_rfl) ?_ ?_
                    · intro TT D w lq R hk hF K hK0
                      have hK := Lib.hid hK0
                      have q9 : TT[9]?.getD undef = .slice (some ⟨eb, eo, none⟩) k cp := hF.old 9 (by kernel_rfl)
                      have hk := Lib.hid hk
                      clear hK0 hF
                      go_simp
                      exact hK.out _ _ _ hk.out (fun _ hp => hp) rfl
                    refine stepsK_n 102 rfl (by kernel_rfl) ?_ ?_
                    · intro TT D w lq R hk hF K hK0
                      have hK := Lib.hid hK0
                      have q101 : TT[101]?.getD undef = .slice (some ⟨eb, eo, none⟩) k cp := hF.on 8 (by kernel_rfl) (by kernel_rfl) rfl rfl
                      have hk := Lib.hid hk
                      clear hK0 hF
                      go_simp
                      exact hK.out _ _ _ hk.out (fun _ hp => hp) rfl
                    refine stepsK_n 103 rfl (by kernel_rfl) ?_ ?_
                    · intro TT D w lq R hk hF K hK0
                      have hK := Lib.hid hK0
                      have q102 : TT[102]?.getD undef = .int .i64 (k : Int) := hF.on 9 (by kernel_rfl) (by kernel_rfl) rfl rfl
                      have hk := Lib.hid hk
                      clear hK0 hF
                      go_simp
                      exact hK.out _ _ _ hk.out (fun _ hp => hp) rfl
                    refine stepsK_n 104 rfl (by kernel_rfl) ?_ ?_
                    · intro TT D w lq R hk hF K hK0
                      have hK := Lib.hid hK0
                      have q100 : TT[100]?.getD undef = .int .i64 (j : Int) := hF.on 7 (by kernel_rfl) (by kernel_rfl) rfl rfl
                      have q103 : TT[103]?.getD undef = .int .i64 kl := hF.on 10 (by kernel_rfl) (by kernel_rfl) rfl rfl
                      have hk := Lib.hid hk
                      clear hK0 hF
                      go_simp
                      exact hK.out _ _ _ hk.out (fun _ hp => hp) rfl
                    refine stepsK_n 105 rfl (by kernel_rfl) ?_ ?_
                    · intro TT D w lq R hk hF K hK0
                      have hK := Lib.hid hK0
                      have q95 : TT[95]?.getD undef = .agg #[.int .u8 (kd : Int), .int .u8 (st : Int), .int .u8 (fm : Int), .int .u8 (yr : Int), .int .u8 (dy : Int), .int .u8 (bz : Int), .int .i8 of, .int .i8 at'] := hF.on 2 (by kernel_rfl) (by kernel_rfl) rfl rfl
                      have q97 : TT[97]?.getD undef = .bool first := hF.on 4 (by kernel_rfl) (by kernel_rfl) rfl rfl
                      have q98 : TT[98]?.getD undef = .int .i64 (c : Int) := hF.on 5 (by kernel_rfl) (by kernel_rfl) rfl rfl
                      have q99 : TT[99]?.getD undef = .int .i64 y1 := hF.on 6 (by kernel_rfl) (by kernel_rfl) rfl rfl
                      have q104 : TT[104]?.getD undef = .bool last := hF.on 11 (by kernel_rfl) (by kernel_rfl) rfl rfl
                      have hk := Lib.hid hk
                      clear hK0 hF
                      go_simp
                      refine (CX.out _ hk.out.below).mono ?_
                      rintro _ V ⟨rfl, hb⟩
                      exact hK.out _ _ _ (hk.out.keep hb) (fun _ hp => hp) rfl
                    refine stepsK_n 106 rfl (by kernel_rfl) ?_ ?_
                    · intro TT D w lq R hk hF K hK0
                      have hK := Lib.hid hK0
                      have q105 : TT[105]?.getD undef = .agg #[.int .i64 i0, .int .i64 i1, .int .i64 i2, .string s0, .string s1, .bool b0, .int .i64 j0, .int .i64 j1, .int .i64 j2, .int .i64 j3, .int .i64 j4, .int .i64 j5, .int .i64 j6] := hF.on 12 (by kernel_rfl) (by kernel_rfl) rfl rfl
                      have hk := Lib.hid hk
                      clear hK0 hF
                      go_simp
                      exact hK.out _ _ _ (hk.out.alloc _) (fun _ hp => List.mem_cons_of_mem _ hp) ⟨_, rfl, List.mem_cons_self ..⟩
                    refine stepsK_j _ rfl ?_ ?_
                    · intro TT D w lq R hk hF K hK0
                      have hK := Lib.hid hK0
                      have q1 : TT[94]?.getD undef = .slice ea j ec := hF.on 1 (by kernel_rfl) (by kernel_rfl) rfl rfl
                      obtain ⟨bb, q2, hbm⟩ := (show KK.S (.blk 1 #[.int .i64 i0, .int .i64 i1, .int .i64 i2, .string s0, .string s1, .bool b0, .int .i64 j0, .int .i64 j1, .int .i64 j2, .int .i64 j3, .int .i64 j4, .int .i64 j5, .int .i64 j6] 81) lq (TT[106]?.getD undef) none from hF.on 13 (by kernel_rfl) (by kernel_rfl) rfl rfl)
                      exact job_append rfl (.tmp 94) (.tmp 106) 38 rfl hk ie _ 120 Tryd.underlying38 hez he0 he1 he2 rfl (by decide) (eval_tmp q1) hbm 1 1 (eval_tmp q2) rfl (by simp [Value.oneCell']) (by omega) (by omega) (by omega) (fun v' w' hk' => hK.out v' w' hk')
                    refine stepsK_n 108 rfl (by kernel_rfl) ?_ ?_
                    · intro TT D w lq R hk hF K hK0
                      have hK := Lib.hid hK0
                      have q10 : TT[10]?.getD undef = .pointer (some ⟨bz0, 0, none⟩) := hF.old 10 (by kernel_rfl)
                      have hk := Lib.hid hk
                      clear hK0 hF
                      go_simp
                      exact hK.out _ _ _ hk.out (fun _ hp => hp) rfl
                    exact stepsK_nil
                  case hend =>
                    intro TT w lq hsz hk hsub hold hS
                    obtain ⟨G, hG⟩ : ∃ G : Nat → Value, ∀ t, TT[t]?.getD undef = G t := ⟨_, fun _ => rfl⟩
                    have hk2 := hk
                    simp only [List.map_cons, List.map_nil, Job.row, hG, List.cons_append, List.nil_append] at hk2
                    have KM := hk2.sub K8.out hsub
                    obtain ⟨ga, gc, e107⟩ := own_slice (KM.row 0 rfl)
                    dsimp only at e107
                    rw [e107] at KM
                    obtain ⟨g, rfl, -⟩ := own_some (KM.row 0 rfl) (show 0 < j + 1 by omega)
                    have KN := Lib.hid KM
                    have e' := tmps_mix [93, 94, 95, 96, 97, 98, 99, 100, 101, 102, 103, 104, 105, 106, 107, 108] (by kernel_rfl) hsz hold
                    simp only [List.foldl_cons, List.foldl_nil, hG, List.setIfInBounds_toArray, List.set_cons_zero, List.set_cons_succ] at e'
                    have e108 : G 108 = .pointer (some ⟨bz0, 1, none⟩) := by
                      have := (show KK.S (.eq (.pointer (some ⟨bz0, 1, none⟩))) lq (TT[108]?.getD undef) none from hS 15 _ 108 rfl rfl (by kernel_rfl))
                      rw [hG] at this
                      exact this
                    rw [e', e107, e108]
                    clear e' e107 e108 hold hS hG hsz hk hk2 hsub KM
                    obtain ⟨g0, g1⟩ := row2 (KN.out.at 1 rfl)
                    have g4 := free_at (KN.out.at 1 rfl) 1
                    simp only [List.drop_succ_cons, List.drop_zero, TailWp]
                    go_simp
                    have K9 := Lib.hid (KN.out.set 1 rfl 1 (.slice (some ⟨g, 0, none⟩) (j + 1) gc) rfl)
                    have hwj := IntWalk.i64_in ((j : Int) + 1) (by omega)
                    go_wp2_with fail
                    go_roundw
                    case rel =>
                      refine ⟨j + 1, .slice (some ⟨g, 0, none⟩) (j + 1) gc, by omega, by go_num, by rw [← HNx.out.2], ?_⟩
                      rw [← HNx.out.1, List.flatMap_append]
                      exact K9.out.drop
                    case measure => simp [intOf]; omega
                · obtain rfl : k = j := by omega
                  have HEq := HYq.out.2
                  have HEq := Lib.hid HEq
                  have K8 := Lib.hid KE.out.swap
                  clear KE
                  obtain ⟨iz, hzz, hz0, hz1, hz2⟩ := info_partsU infoZn
                  have K7 := K8.out.allocAt _ rfl (.cells #[.string nm, .slice ea k ec] 40)
                  have hSb := SlV.of_block (sz := 2) (n := 1) (c := 1) (K7.at 0 rfl) (by omega) (by unfold maxLen; omega) (by simp)
                  obtain ⟨vv, w1, hra, hka⟩ := append_flat (t := 23) Tryd.underlying23 hzz hz0 hz1 hz2 rfl (by decide) (by decide) K7 1 [.string nm, .slice ea k ec] (.slice (some ⟨wr.heap.size, 0, none⟩) 1 1) hSb (by simp [Value.oneCell']) (by intro c hc; simp at hc) (by omega)
                  obtain ⟨oa, oc, e9⟩ := own_slice (hka.row 0 rfl)
                  dsimp only at e9
                  subst e9
                  obtain ⟨g, rfl, -⟩ := own_some (hka.row 0 rfl) (show 0 < i + 1 by omega)
                  have HR := Lib.hid hra
                  have KN := Lib.hid hka.drop
                  obtain ⟨x0, x1⟩ := row2 (K8.out.at 0 rfl)
                  obtain ⟨x2, x3, x4, x5⟩ := row4 (K8.out.at 1 rfl)
                  obtain ⟨y0, y1, y2, y3⟩ := row4 (KN.out.at 1 rfl)
                  have y4 := free_at (KN.out.at 1 rfl) 1
                  have K9 := Lib.hid (KN.out.set 1 rfl 1 (.slice (some ⟨g, 0, none⟩) (i + 1) oc) rfl)
                  clear hra hka hSb K7
                  go_upto_region 29 with ((at_builtin; refine wpList_append_eq rfl _ _ 23 rfl _ _ _ w1 rfl rfl HR.out ?_))
                  have hwi := IntWalk.i64_in ((i : Int) + 1) (by omega)
                  go_wp2_with fail
                  go_roundw
                  case rel =>
                    have hR : eraR (zqT (aName i, es), (aName i, (ea, k, ec))) = ⟨.slice ea k ec, 81, 13, k, es.flatMap erqC⟩ := by
                      unfold eraR zqT
                      dsimp only
                      rw [HEs.out]
                    refine ⟨i + 1, .slice (some ⟨g, 0, none⟩) (i + 1) oc, E' ++ [(zqT (aName i, es), (aName i, (ea, k, ec)))], by omega, by go_num, ?_, ?_⟩
                    · rw [← HZn.out, HEq.out]
                      exact HZ.out.snoc es (by rw [HEs.out]; exact hk4) _ rfl
                    have h := (K9.out.drop.pick (.cons_cons _ (.cons_cons _ (.cons_cons _ (List.sublist_append_right X2 X))))).perm (List.Perm.cons _ (List.Perm.swap _ _ _))
                    rw [List.reverse_append, List.map_append, List.map_append, List.flatMap_append]
                    rw [HSj.out] at h
                    show Kp _ (_ :: _ :: eraR _ :: _) _ _
                    rw [hR]
                    exact h
                  case measure => simp [intOf]; omega
          · obtain rfl : p = i := by omega
            obtain ⟨b0, b1, b2⟩ := (row3 (HK.out.at 2 rfl)).1
            have HT := Lib.hid HZ.out
            obtain ⟨q0, hq0⟩ : ∃ k : Nat, min q 4 = k := ⟨_, rfl⟩
            have HQ0 := Lib.hid hq0
            have hq0m : min (q : Int) 4 = (q0 : Int) := by omega
            have hq4 : q0 ≤ 4 := by omega
            have hqq : q0 ≤ q := by omega
            have hqz : q0 ≤ lc := by omega
            have hqI : (q0 : Int) ≤ (lc : Int) := by omega
            have KX := Lib.hid ((HK.out.pick (.cons_cons _ (.cons_cons _ (.cons_cons _ (List.nil_sublist X))))).fresh 43 2)
            go_wp2_with fail
            go_loopw [14, 15, 16, 17, 125] (fun _ _ _ _ i125 wx => ∃ (i : Nat) (lv' : Value), i ≤ q0 ∧ i125 = .int .i64 (i : Int) ∧ Kp ((S, .cells #[.slice ra nr rc, .slice za3 p zc3, lv', .slice none 0 0] 27) :: (R, .cells #[.slice none 0 0, .slice none 0 0, .slice none 0 0, .slice none 0 0] 27) :: (E, .cells #[.slice sa n sc, .slice za m zc, .slice la q lc] 54) :: []) (⟨lv', 43, 2, i, (L23 p i Ln).flatMap kcells⟩ :: ⟨.slice za3 p zc3, 40, 2, p, (E'.map Prod.snd).flatMap zcells⟩ :: ⟨.slice ra nr rc, 36, 11, nr, Rs⟩ :: E'.reverse.map eraR) W wx) (fun _ _ _ _ i125 _ => q0 - (intOf i125).toNat)
            case atStart => exact ⟨0, _, by omega, rfl, KX.out⟩
            case round =>
              clear KX HK b0 b1 b2
              obtain ⟨i, lv', hi', rfl, hk⟩ := hrel
              obtain ⟨la4, lc4, rfl⟩ : ∃ a c, lv' = .slice a i c := own_slice (hk.row 0 rfl)
              have KL := Lib.hid hk
              clear hk
              by_cases hlt4 : i < q0
              · have hiI : (i : Int) < (q0 : Int) := by omega
                have hd := (HD.out _ KL.out.below).l
                rw [HL.out.2.2] at hd
                obtain ⟨lb, lo, lc', e1, _, _, hlb, hcell⟩ := hd.allA (by omega)
                simp only [Value.slice.injEq] at e1
                obtain ⟨rfl, _, rfl⟩ := e1
                obtain ⟨b, hb⟩ : ∃ b, Ln[i]? = some b := ⟨_, List.getElem?_eq_getElem (by rw [HL.out.2.2]; omega)⟩
                have k0 := hcell i (.int .u8 (b : Int)) (by rw [List.getElem?_map, hb]; rfl)
                have hb256 := HLb.out b (List.mem_of_getElem? hb)
                have HBi := Lib.hid (show Ln.getD i 0 = b by rw [List.getD, hb]; rfl)
                have hbW : IntKind.i64.wrap (b : Int) = (b : Int) := IntWalk.i64_in _ (by omega)
                obtain ⟨bp, hbp⟩ : ∃ x, b % p = x := ⟨_, rfl⟩
                have hbpL : bp < p := by rw [← hbp]; exact Nat.mod_lt _ (by omega)
                have hbpT : (b : Int).tmod (p : Int) = (bp : Int) := by rw [← hbp, Int.tmod_eq_emod_of_nonneg (by omega)]; simp
                have hbpW : IntKind.i64.wrap (bp : Int) = (bp : Int) := IntWalk.i64_in _ (by omega)
                obtain ⟨pi, hpi⟩ : ∃ x, p + i = x := ⟨_, rfl⟩
                have hpiI : (p : Int) + (i : Int) = (pi : Int) := by omega
                have hpiW : IntKind.i64.wrap (pi : Int) = (pi : Int) := IntWalk.i64_in _ (by omega)
                obtain ⟨bk, hbk⟩ : ∃ x, b % pi = x := ⟨_, rfl⟩
                have hbkL : bk < pi := by rw [← hbk]; exact Nat.mod_lt _ (by omega)
                have hbkT : (b : Int).tmod (pi : Int) = (bk : Int) := by rw [← hbk, Int.tmod_eq_emod_of_nonneg (by omega)]; simp
                have hbkW : IntKind.i64.wrap (bk : Int) = (bk : Int) := IntWalk.i64_in _ (by omega)
                have hp0' : ¬ (p : Int) = 0 := by omega
                have hp00 : ¬ p = 0 := by omega
                have hpi0 : ¬ (pi : Int) = 0 := by omega
                have hpi00 : ¬ pi = 0 := by omega
                have CI := Lib.hid (fun (x : Nat) (s : ByteArray) (hs : bs (Lib.itoa (x : Int)) = s) (hx : x < 300) (Y : World) (hB : Below W.heap.size W Y) => hs ▸ itoa_any (x : Int) (by omega) (by omega) Y (HE.out.keep hB))
                obtain ⟨sp, hsp⟩ : ∃ s, bs (Lib.itoa (bp : Int)) = s := ⟨_, rfl⟩
                have HSp := Lib.hid hsp
                have hspl : sp.size ≤ 2 := by rw [← hsp]; exact itoa_len (by omega)
                have hcat6 : ¬ 9223372036854775807 < 6 + sp.size := by omega
                have HSpA := Lib.hid (show (⟨#[65, 114, 101, 97, 47, 90]⟩ : ByteArray) ++ sp = bs (aName bp) by rw [← hsp]; exact bs_ext (by unfold bs aName; simp))
                have HT2 := Lib.hid (show t23 p b i = if p ≤ bk then oName (bk - p) else aName bp by unfold t23; rw [hpi, hbk, hbp])
                clear hd hcell hb hbp hpi hbk hsp
                go_upto_if 147 with (first | (go_at_call 44; refine (CI.out bp _ HSp.out (by omega) _ KL.out.below).mono ?_; rintro e X3 ⟨rfl, hb3⟩; have K3 := Lib.hid (KL.out.keep hb3); clear hb3))
                go_cut [16] from 147 to 153 (fun v16 wx => v16 = .string (bs (t23 p b i)) ∧ Kp ((S, .cells #[.slice ra nr rc, .slice za3 p zc3, .slice la4 i lc4, .slice none 0 0] 27) :: (R, .cells #[.slice none 0 0, .slice none 0 0, .slice none 0 0, .slice none 0 0] 27) :: (E, .cells #[.slice sa n sc, .slice za m zc, .slice (some ⟨lb, lo, none⟩) q lc] 54) :: []) (⟨.slice la4 i lc4, 43, 2, i, (L23 p i Ln).flatMap kcells⟩ :: ⟨.slice za3 p zc3, 40, 2, p, (E'.map Prod.snd).flatMap zcells⟩ :: ⟨.slice ra nr rc, 36, 11, nr, Rs⟩ :: E'.reverse.map eraR) W wx)
                case first =>
                  by_cases hge : p ≤ bk
                  · have hgeI : (p : Int) ≤ (bk : Int) := by omega
                    have hsub : (bk : Int) - (p : Int) = ((bk - p : Nat) : Int) := by omega
                    obtain ⟨bd, hbd⟩ : ∃ x, bk - p = x := ⟨_, rfl⟩
                    rw [hbd] at hsub
                    have hbdW : IntKind.i64.wrap (bd : Int) = (bd : Int) := IntWalk.i64_in _ (by omega)
                    obtain ⟨sd, hsd⟩ : ∃ s, bs (Lib.itoa (bd : Int)) = s := ⟨_, rfl⟩
                    have HSd := Lib.hid hsd
                    have hsdl : sd.size ≤ 2 := by rw [← hsd]; exact itoa_len (by omega)
                    have hcat5 : ¬ 9223372036854775807 < 5 + sd.size := by omega
                    have HSdO := Lib.hid (show (⟨#[79, 108, 100, 47, 76]⟩ : ByteArray) ++ sd = bs (oName bd) by rw [← hsd]; exact bs_ext (by unfold bs oName; simp))
                    have HBd := Lib.hid hbd
                    clear hsd hbd
                    go_wp2_with (first | (go_at_call 44; refine (CI.out bd _ HSd.out (by omega) _ K3.out.below).mono ?_; rintro e X4 ⟨rfl, hb4⟩; have K4 := Lib.hid (K3.out.keep hb4); clear hb4))
                    go_meet
                    exact ⟨by rw [HT2.out, if_pos hge, HBd.out, HSdO.out], K4.out⟩
                  · have hgeI : ¬ (p : Int) ≤ (bk : Int) := by omega
                    go_wp2_with fail
                    go_meet
                    exact ⟨by rw [HT2.out, if_neg hge, HSpA.out], K3.out⟩
                case rest =>
                  obtain ⟨rfl, hk⟩ := hcut
                  have K8 := Lib.hid hk
                  clear hk KL K3
                  obtain ⟨tg, htg⟩ : ∃ s, bs (t23 p b i) = s := ⟨_, rfl⟩
                  rw [htg]
                  have HTg := Lib.hid htg.symm
                  obtain ⟨si, hsi⟩ : ∃ s, bs (Lib.itoa (i : Int)) = s := ⟨_, rfl⟩
                  have hsil : si.size ≤ 2 := by rw [← hsi]; exact itoa_len (by omega)
                  have hcat5 : ¬ 9223372036854775807 < 5 + si.size := by omega
                  have HSi := Lib.hid (show (⟨#[79, 108, 100, 47, 76]⟩ : ByteArray) ++ si = bs (oName i) by rw [← hsi]; exact bs_ext (by unfold bs oName; simp))
                  have CI := Lib.hid (fun (Y : World) (hB : Below W.heap.size W Y) => itoa_any (i : Int) (by omega) (by omega) Y (HE.out.keep hB))
                  rw [hsi] at CI
                  clear hsi htg
                  obtain ⟨il, hlz, hl0, hl1, hl2⟩ := info_partsU infoLn
                  go_upto_region 37 with fail
                  refine Py.wp_region_kps_tail 10 (by kernel_rfl) (by kernel_rfl) W _ (⟨.slice za3 p zc3, 40, 2, p, (E'.map Prod.snd).flatMap zcells⟩ :: ⟨.slice ra nr rc, 36, 11, nr, Rs⟩ :: E'.reverse.map eraR) [⟨8, 162, ⟨.slice la4 i lc4, 43, 2, i, (L23 p i Ln).flatMap kcells⟩, i + 1, (L23 p i Ln).flatMap kcells ++ [.string tg, .string (⟨#[79, 108, 100, 47, 76]⟩ ++ si)]⟩] [] (by kernel_rfl) (kkS [(154, .eq (.pointer (some ⟨S, 2, none⟩))), (155, .eq (.slice la4 i lc4)), (156, .eq (.string tg)), (157, .eq (.int .i64 (i : Int))), (158, .eq (.string si)), (159, .eq (.string (⟨#[79, 108, 100, 47, 76]⟩ ++ si))), (160, .eq (.agg #[.string tg, .string (⟨#[79, 108, 100, 47, 76]⟩ ++ si)])), (161, .blk 1 #[.string tg, .string (⟨#[79, 108, 100, 47, 76]⟩ ++ si)] 43), (163, .eq (.pointer (some ⟨S, 2, none⟩)))]) (by kernel_rfl) ?hat (of_decide_eq_true (by kernel_rfl)) (by kernel_rfl) (kkS_mono _) K8.out ?steps ?hend
                  case hat =>
                    intro j hj
                    simp only [List.mem_cons, List.not_mem_nil, or_false] at hj
                    subst hj
                    exact ⟨_, rfl, rfl⟩
                  case steps =>
                    refine stepsK_n 154 rfl (by kernel_rfl) ?_ ?_
                    · intro TT D w lq R hk hF K hK0
                      have hK := Lib.hid hK0
                      have q3 : TT[3]?.getD undef = .pointer (some ⟨S, 0, none⟩) := hF.old 3 (by kernel_rfl)
                      have hk := Lib.hid hk
                      clear hK0 hF
                      go_simp
                      exact hK.out _ _ _ hk.out (fun _ hp => hp) rfl
                    refine stepsK_n 155 rfl (by kernel_rfl) ?_ ?_
                    · intro TT D w lq R hk hF K hK0
                      have hK := Lib.hid hK0
                      have q154 : TT[154]?.getD undef = .pointer (some ⟨S, 2, none⟩) := hF.on 0 (by kernel_rfl) (by kernel_rfl) rfl rfl
                      have c : _ := row4 (hk.atM (hF.sub _ (List.mem_cons_self ..)))
                      obtain ⟨c0, c1, c2, c3⟩ := c
                      have hk := Lib.hid hk
                      clear hK0 hF
                      go_simp
                      exact hK.out _ _ _ hk.out (fun _ hp => hp) rfl
                    refine stepsK_n 156 rfl (by kernel_rfl) ?_ ?_
                    · intro TT D w lq R hk hF K hK0
                      have hK := Lib.hid hK0
                      have q16 : TT[16]?.getD undef = .string tg := hF.old 16 (by kernel_rfl)
                      have hk := Lib.hid hk
                      clear hK0 hF
                      go_simp
                      exact hK.out _ _ _ hk.out (fun _ hp => hp) rfl
                    refine stepsK_n 157 rfl (by kernel_rfl) ?_ ?_
                    · intro TT D w lq R hk hF K hK0
                      have hK := Lib.hid hK0
                      have q14 : TT[14]?.getD undef = .int .i64 (i : Int) := hF.old 14 (by kernel_rfl)
                      have hk := Lib.hid hk
                      clear hK0 hF
                      go_simp
                      exact hK.out _ _ _ hk.out (fun _ hp => hp) rfl
                    refine stepsK_n 158 rfl (by kernel_rfl) ?_ ?_
                    · intro TT D w lq R hk hF K hK0
                      have hK := Lib.hid hK0
                      have q157 : TT[157]?.getD undef = .int .i64 (i : Int) := hF.on 3 (by kernel_rfl) (by kernel_rfl) rfl rfl
                      have hk := Lib.hid hk
                      clear hK0 hF
                      go_simp
                      refine (CI.out _ hk.out.below).mono ?_
                      rintro _ V ⟨rfl, hb⟩
                      exact hK.out _ _ _ (hk.out.keep hb) (fun _ hp => hp) rfl
                    refine stepsK_n 159 rfl (by kernel_rfl) ?_ ?_
                    · intro TT D w lq R hk hF K hK0
                      have hK := Lib.hid hK0
                      have q158 : TT[158]?.getD undef = .string si := hF.on 4 (by kernel_rfl) (by kernel_rfl) rfl rfl
                      have hk := Lib.hid hk
                      clear hK0 hF
                      go_simp
                      exact hK.out _ _ _ hk.out (fun _ hp => hp) rfl
                    refine stepsK_n 160 rfl (by kernel_rfl) ?_ ?_
                    · intro TT D w lq R hk hF K hK0
                      have hK := Lib.hid hK0
                      have q156 : TT[156]?.getD undef = .string tg := hF.on 2 (by kernel_rfl) (by kernel_rfl) rfl rfl
                      have q159 : TT[159]?.getD undef = .string (⟨#[79, 108, 100, 47, 76]⟩ ++ si) := hF.on 5 (by kernel_rfl) (by kernel_rfl) rfl rfl
                      have hk := Lib.hid hk
                      clear hK0 hF
                      go_simp
                      exact hK.out _ _ _ hk.out (fun _ hp => hp) rfl
                    refine stepsK_n 161 rfl (by kernel_rfl) ?_ ?_
                    · intro TT D w lq R hk hF K hK0
                      have hK := Lib.hid hK0
                      have q160 : TT[160]?.getD undef = .agg #[.string tg, .string (⟨#[79, 108, 100, 47, 76]⟩ ++ si)] := hF.on 6 (by kernel_rfl) (by kernel_rfl) rfl rfl
                      have hk := Lib.hid hk
                      clear hK0 hF
                      go_simp
                      exact hK.out _ _ _ (hk.out.alloc _) (fun _ hp => List.mem_cons_of_mem _ hp) ⟨_, rfl, List.mem_cons_self ..⟩
                    refine stepsK_j _ rfl ?_ ?_
                    · intro TT D w lq R hk hF K hK0
                      have hK := Lib.hid hK0
                      have q1 : TT[155]?.getD undef = .slice la4 i lc4 := hF.on 1 (by kernel_rfl) (by kernel_rfl) rfl rfl
                      obtain ⟨bb, q2, hbm⟩ := (show KK.S (.blk 1 #[.string tg, .string (⟨#[79, 108, 100, 47, 76]⟩ ++ si)] 43) lq (TT[161]?.getD undef) none from hF.on 7 (by kernel_rfl) (by kernel_rfl) rfl rfl)
                      exact job_append rfl (.tmp 155) (.tmp 161) 24 rfl hk il _ 32 Tryd.underlying24 hlz hl0 hl1 hl2 rfl (by decide) (eval_tmp q1) hbm 1 1 (eval_tmp q2) rfl (by simp [Value.oneCell']) (by omega) (by omega) (by omega) (fun v' w' hk' => hK.out v' w' hk')
                    refine stepsK_n 163 rfl (by kernel_rfl) ?_ ?_
                    · intro TT D w lq R hk hF K hK0
                      have hK := Lib.hid hK0
                      have q3 : TT[3]?.getD undef = .pointer (some ⟨S, 0, none⟩) := hF.old 3 (by kernel_rfl)
                      have hk := Lib.hid hk
                      clear hK0 hF
                      go_simp
                      exact hK.out _ _ _ hk.out (fun _ hp => hp) rfl
                    exact stepsK_nil
                  case hend =>
                    intro TT w lq hsz hk hsub hold hS
                    obtain ⟨G, hG⟩ : ∃ G : Nat → Value, ∀ t, TT[t]?.getD undef = G t := ⟨_, fun _ => rfl⟩
                    have hk2 := hk
                    simp only [List.map_cons, List.map_nil, Job.row, hG, List.cons_append, List.nil_append] at hk2
                    have KM := hk2.sub K8.out hsub
                    obtain ⟨ga, gc, e162⟩ := own_slice (KM.row 0 rfl)
                    dsimp only at e162
                    rw [e162] at KM
                    obtain ⟨g, rfl, -⟩ := own_some (KM.row 0 rfl) (show 0 < i + 1 by omega)
                    have KN := Lib.hid KM
                    have e' := tmps_mix [154, 155, 156, 157, 158, 159, 160, 161, 162, 163] (by kernel_rfl) hsz hold
                    simp only [List.foldl_cons, List.foldl_nil, hG, List.setIfInBounds_toArray, List.set_cons_zero, List.set_cons_succ] at e'
                    have e163 : G 163 = .pointer (some ⟨S, 2, none⟩) := by
                      have := (show KK.S (.eq (.pointer (some ⟨S, 2, none⟩))) lq (TT[163]?.getD undef) none from hS 9 _ 163 rfl rfl (by kernel_rfl))
                      rw [hG] at this
                      exact this
                    rw [e', e162, e163]
                    clear e' e162 e163 hold hS hG hsz hk hk2 hsub KM
                    obtain ⟨y0, y1, y2, y3⟩ := row4 (KN.out.at 0 rfl)
                    have y4 := free_at (KN.out.at 0 rfl) 2
                    simp only [List.drop_succ_cons, List.drop_zero, TailWp]
                    go_simp
                    have K9 := Lib.hid (KN.out.set 0 rfl 2 (.slice (some ⟨g, 0, none⟩) (i + 1) gc) rfl)
                    have hwi := IntWalk.i64_in ((i : Int) + 1) (by omega)
                    go_wp2_with fail
                    go_roundw
                    case rel =>
                      refine ⟨i + 1, .slice (some ⟨g, 0, none⟩) (i + 1) gc, by omega, by go_num, ?_⟩
                      have h := K9.out
                      rw [HSi.out, HTg.out] at h
                      rw [L23_succ, List.flatMap_append, HBi.out]
                      exact h
                    case measure => simp [intOf]; omega
              · obtain rfl : q0 = i := by omega
                obtain ⟨y0, y1, y2, y3⟩ := row4 (KL.out.at 0 rfl)
                obtain ⟨x0, x1, x2, x3⟩ := row4 (KL.out.at 1 rfl)
                have f0 := free_at (KL.out.at 1 rfl) 0
                have f1 := free_at (KL.out.at 1 rfl) 1
                have f2 := free_at (KL.out.at 1 rfl) 2
                have f3 := free_at (KL.out.at 1 rfl) 3
                go_wp2_with fail
                have KF := Lib.hid ((((KL.out.set 1 rfl 0 (.slice ra nr rc) rfl).set 1 rfl 1 (.slice za3 p zc3) rfl).set 1 rfl 2 (.slice la4 q0 lc4) rfl).set 1 rfl 3 (.slice none 0 0) rfl)
                obtain ⟨r0, r1, r2, r3⟩ := row4 (KF.out.at 1 rfl)
                refine bodyPost_ret (v := .agg #[.slice ra nr rc, .slice za3 p zc3, .slice la4 q0 lc4, .slice none 0 0]) (by simp [results, Tryd.results19, go_sem, r0, r1, r2, r3]) rfl ⟨_, _, _, E', rfl, ?_, ?_⟩
                · rw [HZS.out.1, HZS.out.2, HTq.out]
                  exact HZ.out
                · rw [HZS.out.1, HZS.out.2, HQ0.out, HLq.out, HNr.out.1, HNr.out.2.1]
                  exact KF.out.pick (List.nil_sublist _)
end Go.Proofs.YtnffecoohkanhaaDoor.Px
