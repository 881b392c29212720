/- Slices of bytes in memory; bytes and strings appended to a slice that the call owns; the library's bytes.Clone. -/
import Derived.Test.YtkpmmabdpeobaaaGreatDoorSU39
import Derived.Test.YtkpmmabdpeobaaaGreatDoorSU27
import Derived.Test.YtkpmmabdpeobaaaGreatDoorSU28
import Derived.Test.YtkpmmabdpeobaaaGreatDoorSU20
import Derived.Test.YtkpmmabdpeobaaaGreatDoorSU23
import Derived.Deep.Matrix
import Derived.Lib.AppendStr
namespace Go.Proofs.YtkpmmabdpeobaaaGreatDoor.Px
open Go.RowKit
open Go.ChangeShapes Go.WideShapes Go.Deep
open Tz
def u8v (c : UInt8) : Value := .int .u8 (c.toNat : Int)
def BytesV (W : World) (v : Value) (L : List UInt8) : Prop := SlV W v 1 L.length (L.map u8v)
theorem BytesV.keep {W W' : World} {v : Value} {L : List UInt8} (h : BytesV W v L) (hB : Below W.heap.size W W') : BytesV W' v L := SlV.keep h hB
def byteOf (z : Int) : UInt8 := UInt8.ofNat z.toNat
theorem byteOf_wf {z : Int} (h : (Lit.int .u8 z).wf = true) : ((byteOf z).toNat : Int) = z := by
 have hb := bounds_u8 h
 unfold byteOf
 rw [UInt8.toNat_ofNat', Nat.mod_eq_of_lt (by omega)]
 omega
section
variable {H : Type} {enc : TypeId × Value → H} {w : World} {base : Nat} {held : Bool}
set_option maxRecDepth 100000 in
theorem open_u8s_arg {r : Reach} {b0 : Nat} {v : Value} {d : DataW H} {p : List MemPlace} (hv : Value.okWide Tryz.prog w r b0 32 v) (h : DataW.Trod enc Tryz.prog w base (fun _ => true) held 32 v d p) :
 ∃ L : List UInt8, BytesV w v L := by
 obtain ⟨fuel, hf⟩ := slice_cells Tryz.underlying32 hv h
 obtain ⟨l, hI, hw⟩ := Px.open_ints Tryz.underlying32 Tryz.underlying5 (by kernel_rfl) hf
 have e : (l.map byteOf).map u8v = l.map (Value.int .u8) := by
  rw [List.map_map]
  refine List.map_congr_left fun x hx => ?_
  show Value.int .u8 _ = _
  rw [byteOf_wf (hw x hx)]
 refine ⟨l.map byteOf, ?_⟩
 unfold BytesV
 rw [e, List.length_map]
 exact hI
end
theorem append_flat {L : List (Nat × Obj)} {R : List Rw} {v : Value} {n : Nat} {xs : List Value} {W X : World} {e t : TypeId} {sz bytes : Nat} {i0 : TypeInfo} {z : Value} (hu : Tryz.prog.underlying t = some (.slice e)) (hi : Tryz.prog.info? e = some i0) (hz0 : i0.zero = some z) (hz1 : i0.size = sz) (hz2 : i0.bytes = bytes) (hzs : z.cells.size = sz) (hsz : 0 < sz) (hb : bytes ≤ 1000)
 (h : Kp L (⟨v, e, sz, n, xs⟩ :: R) W X) (m : Nat) (ys : List Value) (lv : Value) (hL : SlV X lv sz m ys) (h1 : ∀ u ∈ ys, u.oneCell' = true) (hnil : ∀ c, lv = .slice none m c → c = 0) (hmax : n + m ≤ 1000000) :
 ∃ v' w1, (Builtin.append_ #[t, t] t #[v, lv]).run Tryz.prog X = .ok v' w1 ∧ Kp L (⟨v', e, sz, n + m, xs ++ ys⟩ :: R) W w1 := by
 obtain ⟨h0, a, c, rfl, h1', h2, h3⟩ := hL
 cases a with
 | none =>
   have hl : m = 0 := by
    rcases h3 with h3 | ⟨_, _, e, _⟩
    · exact h3
    · cases e
   have hc := hnil c rfl
   subst hl hc
   have hy : ys = [] := List.length_eq_zero_iff.1 (by rw [h0]; omega)
   subst hy
   refine ⟨v, X, ?_, ?_⟩
   · exact run_append_owned_none (P := Tryz.prog) (w := X) W.heap.size t t e i0 sz hu hi v n xs (h.row 0 rfl)
   · simpa using h
 | some ad =>
   have hnews : ∀ (j : Nat) (u : Value), ys[j]? = some u → X.cell? (ad.add j) = some u := by
    intro j u hu
    rcases h3 with h3 | ⟨b, o, e, _, hc⟩
    · have hy : ys = [] := List.length_eq_zero_iff.1 (by rw [h0, h3, Nat.zero_mul])
      subst hy
      simp at hu
    · cases e
      rw [WideShapes.add_plain]
      exact hc j u hu
   obtain ⟨v', w1, hr, hown, hgrow, _, hat⟩ := run_append_own_at (P := Tryz.prog) X W.heap.size t t e i0 z sz bytes hu hi hz0 hz1 hz2 hzs hsz v n xs (h.row 0 rfl) ad m c ys h0 hnews h1 (by unfold maxLen; omega) (by have := Nat.mul_le_mul hmax hb; omega) h.below.size
   exact ⟨v', w1, hr, h.append hown hgrow hat⟩
theorem infoU8 : (Tryz.prog.info? 5).map (fun i => (i.zero, i.size, i.bytes)) = some (some (.int .u8 0), 1, 1) := by kernel_rfl
theorem u8v_one (l : B) : ∀ u ∈ l.map u8v, u.oneCell' = true := fun u hu => by
 obtain ⟨c, _, rfl⟩ := List.mem_map.1 hu
 rfl
theorem BytesV.own {W : World} {B n : Nat} {e : TypeId} {v : Value} {L : Tz.B} (h : W.ownsRow B e 1 v n (L.map u8v)) (hn : n = L.length) : BytesV W v L := by subst hn; exact SlV.of_own h
theorem BytesV.slice {W : World} {v : Value} {L : B} (h : BytesV W v L) : ∃ a c, v = .slice a L.length c ∧ L.length ≤ c ∧ c ≤ maxLen := by
 obtain ⟨_, a, c, e, h1, h2, _⟩ := h
 exact ⟨a, c, e, h1, h2⟩
def bRow (v : Value) (l : B) : Rw := ⟨v, 5, 1, l.length, l.map u8v⟩
theorem bRow_is (v : Value) (l : B) {n : Nat} (h : n = l.length) : (⟨v, 5, 1, n, l.map u8v⟩ : Rw) = bRow v l := by subst h; rfl
theorem bRow_slice {X : World} {b : Nat} {v : Value} {l : B} (h : X.ownsRow b (bRow v l).e (bRow v l).sz (bRow v l).v (bRow v l).n (bRow v l).xs) : ∃ a c, v = .slice a l.length c := own_slice h
theorem Kp.row1 {W w' : World} {r : Rw} (hB : Below W.heap.size W w') (ho : w'.ownsRow W.heap.size r.e r.sz r.v r.n r.xs) : Kp [] [r] W w' :=
 ⟨((Kp.start W).keep hB).known, (fun s hs => by rw [List.mem_singleton.1 hs]; exact ho), (fun _ _ _ _ p hp => by cases hp), List.pairwise_singleton _ _⟩
theorem append_u8s {L : List (Nat × Obj)} {R : List Rw} {v : Value} {n : Nat} {l : B} {W X : World} (h : Kp L (⟨v, 5, 1, n, l.map u8v⟩ :: R) W X) (m : B) (lv : Value) (hL : BytesV X lv m) (hnil : ∀ c, lv = .slice none m.length c → c = 0) (hmax : n + m.length ≤ 1000000) :
 ∃ v' w1, (Builtin.append_ #[32, 32] 32 #[v, lv]).run Tryz.prog X = .ok v' w1 ∧ Kp L (⟨v', 5, 1, n + m.length, (l ++ m).map u8v⟩ :: R) W w1 := by
 obtain ⟨i0, hi, hz0, hz1, hz2⟩ := info_parts infoU8
 rw [List.map_append]
 exact append_flat Tryz.underlying32 hi hz0 hz1 hz2 rfl (by decide) (by omega) h m.length (m.map u8v) lv hL (u8v_one m) hnil hmax
theorem append_str {L : List (Nat × Obj)} {R : List Rw} {v : Value} {n : Nat} {l : B} {W X : World} (h : Kp L (⟨v, 5, 1, n, l.map u8v⟩ :: R) W X) (s : ByteArray) (hmax : n + s.size ≤ 1000000) :
 ∃ v' w1, (Builtin.append_ #[32, 9] 32 #[v, .string s]).run Tryz.prog X = .ok v' w1 ∧ Kp L (⟨v', 5, 1, n + s.size, (l ++ s.data.toList).map u8v⟩ :: R) W w1 := by
 obtain ⟨i0, hi, hz0, hz1, hz2⟩ := info_parts infoU8
 have ht := Tryz.underlying32
 have hu := Tryz.underlying9
 have hown := h.row 0 rfl
 dsimp only at hown
 have hxl : (l.map u8v).length = n := by simpa using hown.1
 obtain ⟨v', w1, hr, ho, hg, hnn⟩ := Lib.run_append_own_string (P := Tryz.prog) X W.heap.size 32 9 32 5 i0 ht hu hi hz0 hz1 hz2 v n (l.map u8v) hown s (by unfold maxLen; omega) (by omega) h.below.size
 refine ⟨v', w1, hr, ?_⟩
 rw [List.map_append]
 refine h.append ho hg ?_
 rcases hown.2 with ⟨rfl, rfl⟩ | ⟨g, cap, cur, rfl, hbg, hgb, hnc, hcm, hcs, htake⟩
 · by_cases hs : s.size = 0
   · obtain rfl := hnn.2 ⟨rfl, hs⟩
     exact .inl rfl
   · have hr2 := run_append_nil_string (P := Tryz.prog) X 32 9 32 5 i0 (.int .u8 0) ht hu hi hz0 s (by omega) (by omega) (by rw [hz2]; omega)
     rw [hr2] at hr
     injection hr with e1 e2
     rw [← e1]
     exact .inr rfl
 · by_cases hroom : n + s.size ≤ cap
   · have hr2 := Lib.run_append_room_string (P := Tryz.prog) X 32 9 32 5 i0 ht hu hi hz1 g n cap cur hgb s hroom (by unfold maxLen at hcm; omega)
     rw [hr2] at hr
     injection hr with e1 e2
     rw [← e1]
     exact .inl rfl
   · have holds : ∀ j u, (l.map u8v)[j]? = some u → X.cell? ((⟨g, 0, none⟩ : Addr).add j) = some u := hown.cells (g := g) rfl
     have hr2 := Lib.run_append_grow_string (P := Tryz.prog) X 32 9 32 5 i0 (.int .u8 0) ht hu hi hz0 ⟨g, 0, none⟩ n cap (l.map u8v) (by rw [hz1]; simpa using hxl) holds s (by omega) (by omega) (by rw [hz2]; exact growslice_fits (by omega) (by omega))
     rw [hr2] at hr
     injection hr with e1 e2
     rw [← e1]
     exact .inr rfl
def zerS (m : Nat) : ByteArray := ⟨(List.replicate m 0).toArray⟩
theorem zerS_size (m : Nat) : (zerS m).size = m := by show (List.replicate m (0 : UInt8)).toArray.size = m; simp
theorem zero_cells (m : Nat) : Builtin.zeroCells #[.int .u8 0] m = (Lib.strCells (zerS m)).toArray := by
 unfold Builtin.zeroCells Lib.strCells zerS
 apply Array.ext'
 simp only [List.size_toArray, List.length_cons, List.length_nil, Nat.zero_add, Nat.mul_one, Nat.mod_one, List.map_replicate, Array.toList_map, Array.toList_range]
 rw [List.map_const', List.length_range]
 rfl
theorem run_append_zeros (X : World) (a : Option Addr) (n c m : Nat) (h0 : 0 < m) (hm : n + m ≤ 1000000) :
 (Builtin.append_ #[32, 3] 32 #[.slice a n c, .int .i64 m]).run Tryz.prog X = (Builtin.append_ #[32, 9] 32 #[.slice a n c, .string (zerS m)]).run Tryz.prog X := by
 have ht := Tryz.underlying32
 have hu := Tryz.underlying9
 have hn := Tryz.underlying3
 obtain ⟨i0, hi, hz0, hz1, hz2⟩ := info_parts infoU8
 have hw : IntKind.i64.wrap (m : Int) = m := IntWalk.i64_in _ (by omega)
 have e1 : ¬ (m : Int) < 0 := by omega
 have e2 : ¬ (281474976710656 : Int) < (m : Int) := by omega
 have e3 : ¬ (9223372036854775807 : Int) < (n : Int) + (m : Int) := by omega
 have e4 : m ≠ 0 := by omega
 have e5 : List.take m (List.map (fun b => Value.int IntKind.u8 (b.toNat : Int)) (zerS m).data.toList) = (Builtin.zeroCells #[Value.int IntKind.u8 0] m).toList := by
  rw [zero_cells]
  exact List.take_of_length_le (by rw [List.length_map, Array.length_toList]; exact Nat.le_of_eq (zerS_size m))
 have e6 : ((zerS m).data.map fun b => Value.int IntKind.u8 (b.toNat : Int)).extract 0 m = Builtin.zeroCells #[Value.int IntKind.u8 0] m := by
  apply Array.ext'
  rw [← e5, Array.toList_extract, Array.toList_map]
  simp [List.extract]
 by_cases hroom : n + m ≤ c
 · simp [Builtin.append_, run_underlying ht, run_underlying hu, run_underlying hn, sizeOf, typeInfo, hi, hz1, hz2, Builtin.lenOf, zerS_size, hw, asInt, go_sem, e1, e2, e4, hroom, e5]
 · have hg : ¬ 281474976710656 < Builtin.nextslicecap (n + m) c := by
     have := growslice_fits (need := n + m) (old := c) (bytes := 1) (by omega) (by omega)
     omega
   simp [Builtin.append_, run_underlying ht, run_underlying hu, run_underlying hn, sizeOf, typeInfo, hi, hz1, hz2, Builtin.lenOf, zerS_size, hw, asInt, go_sem, e1, e2, e3, e4, hroom, e6, hg]
theorem append_zeros {L : List (Nat × Obj)} {R : List Rw} {v : Value} {n : Nat} {l : B} {W X : World} (h : Kp L (⟨v, 5, 1, n, l.map u8v⟩ :: R) W X) (m : Nat) (h0 : 0 < m) (hmax : n + m ≤ 1000000) :
 ∃ v' w1, (Builtin.append_ #[32, 3] 32 #[v, .int .i64 m]).run Tryz.prog X = .ok v' w1 ∧ Kp L (⟨v', 5, 1, n + m, (l ++ List.replicate m 0).map u8v⟩ :: R) W w1 := by
 obtain ⟨a, c, rfl⟩ : ∃ a c, v = .slice a n c := own_slice (h.row 0 rfl)
 obtain ⟨v', w1, hr, hk⟩ := append_str h (zerS m) (by rw [zerS_size]; exact hmax)
 rw [zerS_size] at hk
 exact ⟨v', w1, (run_append_zeros X a n c m h0 hmax).trans hr, hk⟩
theorem wpList_append_run {P : Program} {w : World} {ops : Array Oper} {rest : List Oper} {o : Oper} {a : Act} {Q : Exit → Act → World → Prop} (hgd : o.guard = none) (s x : Operand) (t u : TypeId)
 (ho : o.op = .call { callee := .builtin .append, args := #[s, x], argTypes := #[t, u] }) (vs vx v' : Value) (w' : World) (hs : a.eval s = vs) (hx : a.eval x = vx) (hr : (Builtin.append_ #[t, u] o.type #[vs, vx]).run P w = .ok v' w')
 (h : wpList P ops Q rest (a.put o.dst v') w') : wpList P ops Q (o :: rest) a w := by
 refine wpList_plain hgd fun K hK => ?_
 unfold Oper.wp execOp
 simp only [ho, resolve, invoke, builtin, Sem.run_bind, Sem.run_pure, Result.andThen_ok, List.map_toArray, List.map_cons, List.map_nil, hs, hx, hr]
 exact hK _ _ h
theorem append_byte {L : List (Nat × Obj)} {R : List Rw} {v : Value} {n : Nat} {l : B} {W X : World} (h : Kp L (⟨v, 5, 1, n, l.map u8v⟩ :: R) W X) (c : UInt8) (hmax : n + 1 ≤ 1000000) :
 ∃ v' w1, (Builtin.append_ #[32, 32] 32 #[v, .slice (some ⟨X.heap.size, 0, none⟩) 1 1]).run Tryz.prog (X.alloc (.cells #[.int .u8 (c.toNat : Int)] 5)) = .ok v' w1 ∧ Kp L (⟨v', 5, 1, n + 1, (l ++ [c]).map u8v⟩ :: R) W w1 := by
 have hk := h.alloc (.cells #[.int .u8 (c.toNat : Int)] 5)
 have hb : BytesV (X.alloc (.cells #[.int .u8 (c.toNat : Int)] 5)) (.slice (some ⟨X.heap.size, 0, none⟩) 1 1) [c] := SlV.of_block (hk.at 0 rfl) (by omega) (by unfold maxLen; omega) (by simp)
 obtain ⟨v', w1, hr, hk'⟩ := append_u8s hk [c] _ hb (fun c e => by cases e) hmax
 exact ⟨v', w1, hr, hk'.drop⟩
set_option maxRecDepth 100000 in
theorem clone_u8 (l : B) (v : Value) (W : World) (h : BytesV W v l) (hmax : l.length ≤ 1000000) :
 Calls Tryz.prog 131 #[v] W fun e w' => ∃ v', e = .returned v' ∧ Kp [] [⟨v', 5, 1, l.length, l.map u8v⟩] W w' := by
 obtain ⟨h0, a, c, rfl, h1, h2, h3⟩ := h
 cases a with
 | none =>
   have hl : l.length = 0 := by
    rcases h3 with h3 | ⟨_, _, e, _⟩
    · exact h3
    · cases e
   obtain rfl := List.length_eq_zero_iff.1 hl
   refine (Tryz.bytes_Clone_nil 0 c W).mono ?_
   rintro _ _ ⟨rfl, rfl⟩
   exact ⟨_, rfl, (Kp.start _).fresh 5 1⟩
 | some ad =>
   have hmap : l.map u8v = (l.map (fun c => (c.toNat : Int))).map (Value.int .u8) := by rw [List.map_map]; rfl
   refine (Tryz.bytes_Clone_at ad l.length c (l.map (fun c => (c.toNat : Int))) W (by rw [List.length_map]) (by omega) (fun i hi => ?_)).mono ?_
   · rcases h3 with h3 | ⟨b, o, e, _, hc⟩
     · omega
     · cases e
       rw [WideShapes.add_plain]
       refine hc i _ ?_
       rw [hmap, List.getElem?_map, List.getElem?_eq_getElem (by rw [List.length_map]; exact hi)]
       simp [List.getD, List.getElem?_eq_getElem hi]
   · rintro _ w' ⟨v', rfl, ho, -, hb⟩
     rw [← hmap] at ho
     exact ⟨v', rfl, Kp.row1 hb ho⟩
end Go.Proofs.YtkpmmabdpeobaaaGreatDoor.Px
