/- The function Names of package links: all names, sorted. -/
import Derived.Test.YtnffecoohkanhaaGreatDoorYLnG
import Derived.Test.YtnffecoohkanhaaGreatDoorM4
import Derived.Test.YtnffecoohkanhaaGreatDoorIter
import Derived.Sort.KeysCollected
namespace Go.Proofs.YtnffecoohkanhaaGreatDoor.Px
open Go.RowKit Go.Maps Go.Sort Go.Shelf
open Lk

theorem strKeys_spec {D : DataW Unit} {X : World} {b n : Nat} {e : TypeId} (h : X.ownsMap Tryz.prog 9 (plainElem Tryz.prog e) b n D) : (strKeys D).Nodup ∧ ∀ x, x ∈ strKeys D ↔ has D (.string x) = true := by
  obtain ⟨es, hD, hpw, _⟩ := h.entries str_keyed
  obtain ⟨es', hD', hko⟩ := h.keysOf
  obtain rfl : es = es' := by rw [hD] at hD'; simpa using hD'
  subst hD
  have hk : ∀ p ∈ es, ∃ x, p.1 = .string x := fun p hp => by
    obtain ⟨v, hv⟩ := hko p hp
    obtain ⟨x, _, hx, _⟩ := Go.Maps.keyOf_str Tryz.underlying9 hv
    exact ⟨x, hx⟩
  refine ⟨?_, fun x => ?_⟩
  · show (es.map fun p => strOf p.1).Nodup
    refine List.pairwise_map.2 (hpw.imp_of_mem fun {p q} hp' hq' hne e => hne ?_)
    obtain ⟨a, ha⟩ := hk p hp'
    obtain ⟨b, hb⟩ := hk q hq'
    rw [ha, hb] at e ⊢
    exact congrArg _ e
  · rw [has_eq, List.any_eq_true]
    show x ∈ es.map (fun p => strOf p.1) ↔ _
    rw [List.mem_map]
    constructor
    · rintro ⟨p, hp', rfl⟩
      obtain ⟨a, ha⟩ := hk p hp'
      exact ⟨p, hp', by rw [ha]; simp [Lit.sameKey, strOf]⟩
    · rintro ⟨p, hp', hs⟩
      obtain ⟨a, ha⟩ := hk p hp'
      rw [ha] at hs
      exact ⟨p, hp', by rw [ha]; simpa [Lit.sameKey, strOf] using hs⟩
theorem has_merge {D1 D2 : DataW Unit} {N1 N2 : List (List UInt8)} (h1 : FnOf D1 (firstG N1)) (h2 : FnOf D2 (firstG N2)) {X : World} {b n : Nat} {e : TypeId} (ho : X.ownsMap Tryz.prog 9 (plainElem Tryz.prog e) b n D2) (x : List UInt8) : has (Lib.mergeD D1 D2) (.string x) = true ↔ x ∈ N1 ∨ x ∈ N2 := by
  obtain ⟨es, hD, _⟩ := ho.entries str_keyed
  obtain ⟨es', hD', hko⟩ := ho.keysOf
  obtain rfl : es = es' := by rw [hD] at hD'; simpa using hD'
  have e2 := h2.has (.string x) trivial
  subst hD
  show has (es.foldl (fun D p => D.put p.1 p.2) D1) (.string x) = true ↔ _
  rw [has_foldPut _ es D1 h1.isMap (fun p hp => by obtain ⟨v, hv⟩ := hko p hp; exact str_keyed.key hv), ← has_eq, h1.has (.string x) trivial, e2]
  have a1 := firstG_is N1 x
  have a2 := firstG_is N2 x
  unfold keyN at a1 a2
  rw [a1, a2, Bool.or_eq_true, decide_eq_true_eq, decide_eq_true_eq]
theorem sortsN (m : Nat) : AnyZ.SortsIn Tryz.prog Tryz.sorted24_ren Fence.wide m :=
  ⟨fun blk off cap ss W hH hblk hsz => callsIn_wide.2 (AnyM.slices_Sort_string Tryz.sort43 blk off cap ss W hH hblk hsz),
  fun p cap W => callsIn_wide.2 (AnyM.slices_Sort_string_none Tryz.sort43 p cap W)⟩
theorem keysN (mb : Option Nat) (W : World) : Calls Tryz.prog 25 #[.map mb] W fun e w' => e = .returned (.func (.func 44) #[] #[.pointer (some ⟨W.heap.size, 0, none⟩)]) ∧ w' = W.alloc (.cells #[.map mb] 59) :=
  callsIn_wide.1 (AnyZ.keys_in Tryz.keys25 Fence.wide 5 trivial rfl mb W)
set_option maxHeartbeats 1000000 in
theorem sortedN (b nn : Nat) (D0 : DataW Unit) (R : Value → Option (DataW Unit × List MemPlace)) (w : World) (hown : w.ownsMap Tryz.prog 9 R b nn D0) (hmax : Maps.size D0 ≤ maxLen) (hbytes : Maps.size D0 * 16 ≤ 140737488355328) :
    Calls Tryz.prog 24 #[.func (.func 44) #[] #[.pointer (some ⟨w.heap.size, 0, none⟩)]] (w.alloc (.cells #[.map (some b)] 59)) fun e w' => ∃ (v : Value) (ss : List (List UInt8)), e = .returned v ∧ ss.Perm (strKeys D0) ∧
      w'.ownsRow (w.alloc (.cells #[.map (some b)] 59)).heap.size 9 1 v ss.length ((ss.mergeSort (fun x y => decide (x ≤ y))).map encStr) ∧ (v = .slice none 0 0 ↔ ss = []) ∧ Below (w.alloc (.cells #[.map (some b)] 59)).heap.size (w.alloc (.cells #[.map (some b)] 59)) w' := by
  have hbl := hown.lt
  have hseq : SeqGives Fence.wide 2 Tryz.prog 44 #[.pointer (some ⟨w.heap.size, 0, none⟩)] encStr (fun ss => ss.Perm (strKeys D0)) (Maps.size D0) (w.alloc (.cells #[.map (some b)] 59)) :=
    AnyZ.keys_gives (ρ := Tryz.keys25_ren) { Tryz.keys25 with } Fence.wide _ trivial rfl (by omega) w.heap.size b nn D0 _ (by simp) (by simp) (by
      obtain ⟨es, clock, hb, Ft, hs, hD⟩ := hown
      exact ⟨es, clock, (Below.heap_alloc _ _ b hbl).trans hb, Ft, hs, hD⟩)
  exact callsIn_wide.1 (AnyZ.sorted_in Tryz.sorted24 Fence.wide 5 trivial trivial trivial trivial rfl (by omega) (sortsN _) (enters_of Tryz.func43 (by kernel_rfl) rfl) 44 #[.pointer (some ⟨w.heap.size, 0, none⟩)] trivial (enters_of Tryz.func44 (by kernel_rfl) rfl) _ _ hmax hbytes _ hseq)
theorem encStr_svv : (encStr : List UInt8 → Value) = svv := by funext x; rfl
set_option maxHeartbeats 4000000 in
set_option maxRecDepth 100000 in
theorem names_any (rv zv lv sv : Value) (Z : List Zo) (L : List (List UInt8 × List UInt8)) (W : World) (h : SrcV W zv lv Z L) (hz : Z.length ≤ 1000000) (hmax : L.length ≤ 1000000) :
    Calls Tryz.prog 7 #[.agg #[rv, zv, lv, sv]] W fun e w' => ∃ v, e = .returned v ∧ SlV w' v 1 (namesL (znames Z) L).length ((namesL (znames Z) L).map svv) ∧ Below W.heap.size W w' := by
  have KB := Lib.hid ((Kp.start W).allocAt W.heap.size rfl (.cells #[rv, zv, lv, sv] 30))
  obtain ⟨W1, hW1⟩ : ∃ X, W.alloc (.cells #[rv, zv, lv, sv] 30) = X := ⟨_, rfl⟩
  have hsz : W1.heap.size = W.heap.size + 1 := by rw [← hW1, World.size_alloc]
  rw [hW1] at KB
  obtain ⟨v0, v1, v2, v3⟩ := row4 (KB.out.at 0 rfl)
  have CZ := Lib.hid (zones_any rv zv lv sv Z W1 (h.keep KB.out.below).zo h.zn hz)
  have CT := Lib.hid (fun (Y : World) (hB : Below W.heap.size W Y) => targets_any rv zv lv sv L Y (h.keep hB).lk (fun x hx => (h.ln x hx).1) hmax)
  have HLen := Lib.hid (show (znames Z).length ≤ 1000000 ∧ (nm L).length ≤ 1000000 from ⟨by rw [znames_len]; exact hz, by rw [nm_len]; exact hmax⟩)
  clear h hz hmax
  go_enter Tryz.func7, Tryz.ntmps7
  go_wp2_with (first
    | (go_at_call 21; refine CZ.out.mono ?_; rintro e X1 ⟨mz, rfl, hm, hlo, hb⟩; have K1 := Lib.hid (KB.out.keep hb); have HM := Lib.hid hm; have HLo := Lib.hid hlo; obtain ⟨y0, y1, y2, y3⟩ := row4 (K1.out.at 0 rfl); clear hb hm hlo)
    | (go_at_call 23; refine (CT.out _ K1.out.below).mono ?_; rintro e X2 ⟨mt, rfl, hm, hlo, hb⟩; have K2 := Lib.hid (K1.out.keep hb); have HM1 := Lib.hid (HM.out.keep hb); have HM2 := Lib.hid hm; have hne : mz ≠ mt := Nat.ne_of_lt (Nat.lt_of_lt_of_le HM.out.lt hlo); clear hb hm hlo)
    | (go_at_call 22; obtain ⟨n1, D1, hn1, ho1, hf1⟩ := HM1.out; obtain ⟨n2, D2, hn2, ho2, hf2⟩ := HM2.out; have hs2 := ho2.size_le; refine (AnyX.maps_Copy mpLays str_keyed _ mz mt n1 n2 D1 D2 _ ho1 ho2 hne (by have := HLen.out; unfold maxLen; omega)).mono ?_; rintro e X3 ⟨rfl, hoM, _, hg⟩; have KM := Lib.hid ((Km.take K2.out ho1 (by have := HLo.out; omega) (fun p hp => by rw [List.mem_singleton.1 hp]; have := HLo.out; dsimp only; omega)).turn hg hoM); have HO := Lib.hid hoM; have HHas := Lib.hid (has_merge hf1 hf2 ho2); have HSz := Lib.hid (show Maps.size (Lib.mergeD D1 D2) ≤ 2000000 from by have := hoM.size_le; have := HLen.out; omega); clear ho1 ho2 hf1 hf2 hoM hg hn1 hn2 hs2 HM1 HM2 HM K2 K1)
    | (go_at_call 25; refine (keysN _ _).mono ?_; rintro e X4 ⟨rfl, rfl⟩)
    | (go_at_call 24; refine (sortedN mz _ _ _ X3 HO.out (by have := HSz.out; unfold maxLen; omega) (by have := HSz.out; omega)).mono ?_; rintro e X5 ⟨v, ss, rfl, hp, hrow, _, hb⟩; have HP := Lib.hid hp; have HRow := Lib.hid hrow; have HB5 := Lib.hid (KM.out.below.alloc KM.out.below.size (.cells #[.map (some mz)] 59) |>.trans (hb.mono (by have := KM.out.below.size; rw [World.size_alloc]; omega))); clear hp hrow hb)
    | go_in)
  refine bodyPost_ret (v := v) (by simp [results, Tryz.results7, go_sem]) rfl ⟨_, rfl, ?_, HB5.out⟩
  obtain ⟨hnd, hmem⟩ := strKeys_spec HO.out
  have e1 : ss.mergeSort (fun x y => decide (x ≤ y)) = namesL (znames Z) L :=
    names_of (HP.out.nodup_iff.2 hnd) (fun x => by rw [HP.out.mem_iff, hmem x, HHas.out x])
  have e2 : ss.length = (namesL (znames Z) L).length := by rw [← e1, List.length_mergeSort]
  have hr := HRow.out
  rw [e1, e2, encStr_svv] at hr
  exact SlV.of_own hr
end Go.Proofs.YtnffecoohkanhaaGreatDoor.Px
