/- Parts of a text between bytes, plain. A range over a function, as steps. name.of and its closures. strings.SplitSeq: what its iterator yields. -/
import Derived.Lib.Bytealg
import Derived.RangeFuncNested
import Derived.RangeFuncCalls
import Derived.RangeFuncLeaves
import Derived.RangeFuncFrom
import Derived.Shelf.Abstract
import Derived.Shelf.RegionOpen
import Derived.WalkKit
import Derived.OwnWalkIn
import Derived.TacticsInMore
import Derived.LoopNIn
import Derived.LoopIn
import Derived.Test.YtnffecoohkanhaaDoorRows
import Derived.WalkSpells
import Derived.WalkLawsBesides
import Derived.Outline
import Derived.Deep.QuietTactic
import Derived.BigQuiet
import Derived.Lib.Hide
import Derived.Test.YtnffecoohkanhaaDoorShelf
namespace Go.Proofs.YtnffecoohkanhaaDoor

/-- the parts of a text between the bytes c -/
def splitB (c : UInt8) : List UInt8 → List (List UInt8)
  | [] => [[]]
  | b :: r => if b == c then [] :: splitB c r else match splitB c r with
    | [] => [[b]]
    | h :: t => (b :: h) :: t
theorem splitB_ne (c : UInt8) (l : List UInt8) : splitB c l ≠ [] := by
  cases l with
  | nil => simp [splitB]
  | cons b r =>
    simp only [splitB]
    split
    · simp
    · split <;> simp
theorem splitB_none (c : UInt8) (l : List UInt8) (h : Lib.indexByte l c < 0) : splitB c l = [l] := by
  induction l with
  | nil => rfl
  | cons b r ih =>
    simp only [Lib.indexByte] at h
    by_cases e : (b == c) = true
    · simp [e] at h
    · have e' : (b == c) = false := by simpa using e
      rw [e', if_neg (by simp)] at h
      by_cases e2 : (Lib.indexByte r c == -1) = true
      · have : Lib.indexByte r c < 0 := by have := eq_of_beq e2; omega
        simp only [splitB, e', ih this]
        rfl
      · rw [if_neg e2] at h
        have := Lib.indexByte_ge r c
        omega
theorem splitB_some (c : UInt8) (l : List UInt8) (i : Nat) (h : Lib.indexByte l c = i) : i < l.length ∧ splitB c l = l.take i :: splitB c (l.drop (i + 1)) := by
  induction l generalizing i with
  | nil => simp [Lib.indexByte] at h
  | cons b r ih =>
    simp only [Lib.indexByte] at h
    by_cases e : (b == c) = true
    · rw [if_pos e] at h
      obtain rfl : i = 0 := by omega
      simp [splitB, e]
    · have e' : (b == c) = false := by simpa using e
      rw [e', if_neg (by simp)] at h
      by_cases e2 : (Lib.indexByte r c == -1) = true
      · rw [if_pos e2] at h; omega
      · rw [if_neg e2] at h
        have hg := Lib.indexByte_ge r c
        have hne : Lib.indexByte r c ≠ -1 := by simpa using e2
        obtain ⟨j, hj⟩ : ∃ j : Nat, Lib.indexByte r c = j := ⟨(Lib.indexByte r c).toNat, by omega⟩
        obtain rfl : i = j + 1 := by omega
        obtain ⟨h1, h2⟩ := ih j hj
        refine ⟨by simp; omega, ?_⟩
        simp only [splitB, e', h2]
        simp
end Go.Proofs.YtnffecoohkanhaaDoor
namespace Go.Proofs.YtnffecoohkanhaaDoor
open Go.RowKit Go.Shelf

/-- A contract of an iterator that, between two rounds, also takes steps `St` of its own on memory that its caller does not look at. -/
def SeqSteps {α : Type} (F : Fence) (n : Nat) (P : Program) (g : Nat) (lb : Array Value) (encs : α → Array Value) (Kp St : World → World → Prop) (S Sp : List α → Prop) (N : Nat) (w : World) : Prop :=
  ∀ (l : Nat) (J Jx : List α → World → Prop) (W : World), Below w.heap.size w W → AbidesFrom W.heap.size J → AbidesFrom W.heap.size Jx →
    (∀ s A B, J s A → St A B → J s B) → (∀ s A B, Jx s A → St A B → Jx s B) →
    (∀ pre x W1, J pre W1 → pre.length < N → YieldAt F (n - 1) P l (encs x) W1 fun e W' =>
      (e = .returned (.bool true) ∧ J (pre ++ [x]) W' ∧ Kp W1 W') ∨ (e = .returned (.bool false) ∧ Jx (pre ++ [x]) W')) →
    J [] W →
    CallsIn F n P g (#[.func (.yield l) #[] #[]] ++ lb) W fun e W' => (∃ v, e = .returned v) ∧ ((∃ xs, S xs ∧ J xs W') ∨ (∃ pre, Sp pre ∧ Jx pre W'))

/-- The range statement over such an iterator: what the caller says of the world must abide the iterator's own steps. -/
theorem rangeFunc_steps {F : Fence} {n : Nat} {P : Program} {α : Type} {g : Operand} {ps : Array Tmp} {assign body : Code} {Q : Exit → Act → World → Prop} {a : Act} {w : World}
    (hro : F.round = none) (h1 : 1 ≤ n) {gf : Nat} {lb : Array Value} (hg : a.eval g = .func (.func gf) #[] lb) (hFg : F.fn gf) (eg : ∀ args w, (callFunc gf args).run P w = .ok (.enter gf args) w)
    {encs : α → Array Value} {Kp St : World → World → Prop} {S Sp : List α → Prop} {N : Nat} {w0 : World} (hseq : SeqSteps F (n - 1) P gf lb encs Kp St S Sp N w0)
    (hSt : ∀ A B k, St A B → w.heap.size ≤ k → B.heap[k]? = A.heap[k]?)
    (hKt : ∀ {A B C : World}, Kp A B → Kp B C → Kp A C) (hKb : ∀ (W : World) (l : Nat) (o o' : Obj), w.heap.size ≤ l → W.heap[l]? = some o → o.isCells = false → o.isWalk = false → Kp W (W.putObj l o')) (hb0 : Below w0.heap.size w0 w) (hps : ∀ x, (encs x).size = ps.size)
    (I : List α → World → Prop) (Ix : Code → List α → World → Prop) (hI : OwnFrom w.heap.size I) (hIx : ∀ c, OwnFrom w.heap.size (Ix c))
    (hIs : ∀ s A B, I s A → St A B → I s B) (hIxs : ∀ c s A B, Ix c s A → St A B → Ix c s B) (h0 : I [] w) (a₁ : α → Act)
    (hassign : ∀ (l : Nat) (x : α) (W : World) (K : Act → World → Prop), K (a₁ x) W →
      assign.wpIn (F.inRound l) (n - 1 - 1) P (Exit.then K (fun _ _ _ => False)) { tmps := (ps.zip (encs x)).foldl (fun t (p, v) => t.setIfInBounds p v) a.tmps, defers := [] } W)
    (hbody : ∀ (l : Nat) (pre : List α) (x : α) (W : World), I pre W → pre.length < N → body.wpIn (F.inRound l) (n - 1 - 1) P (ownPostK Kp I Ix (pre ++ [x]) W) (a₁ x) W)
    (hdone : ∀ (D : Nat) (xs : List α) (W : World), w.heap.size ≤ D → S xs → I xs W → W.heap[D]? = some (.deferred (some [])) → Q .normal { a with defers := { target := .collected D, args := #[] } :: a.defers } W)
    (hstop : ∀ (D : Nat) (c : Code) (pre : List α) (W : World), w.heap.size ≤ D → Sp pre → Ix c pre W → W.heap[D]? = some (.deferred (some [])) → c.wpIn F n P Q { a with defers := { target := .collected D, args := #[] } :: a.defers } W) :
    (Code.rangeFunc g ps assign body).wpIn F n P Q a w := by
  refine wpIn_rangeFunc fun fn hfn => ?_
  rw [hro]
  let R : LoopState → Option Code → Loop := fun st pe => { state := st, pending := pe, fn, tmps := a.tmps, params := ps, assign, body, defers := w.heap.size }
  have hR : ∀ st pe, R st pe = { state := st, pending := pe, fn, tmps := a.tmps, params := ps, assign, body, defers := w.heap.size } := fun _ _ => rfl
  have hRs : ∀ st pe st', { R st pe with state := st' } = R st' pe := fun _ _ _ => rfl
  obtain ⟨W1, hW1⟩ : ∃ W1, (w.alloc (.deferred (some []))).alloc (.loop (R .ready none)) = W1 := ⟨_, rfl⟩
  have hz1 : W1.heap.size = w.heap.size + 2 := by rw [← hW1]; simp
  have hL1 : W1.heap[w.heap.size + 1]? = some (.loop (R .ready none)) := by rw [← hW1]; exact heap_alloc2_new w _ _
  have hK1 : W1.heap[w.heap.size]? = some (.deferred (some [])) := by rw [← hW1]; exact heap_alloc2_old w _ _
  refine ⟨w.heap.size + 1, [{ target := .collected w.heap.size, args := #[] }], W1, { target := .fn (.func gf) lb, args := #[.func (.yield (w.heap.size + 1)) #[] #[]] }, W1, gf,
    #[.func (.yield (w.heap.size + 1)) #[] #[]] ++ lb, W1, by rw [← hW1]; exact run_enterLoop_outer _ _ _ _ _, by simp only [resolve, hg]; simp [go_sem], ?_, by simp [invoke, go_sem, eg], fun _ => h1, ?_⟩
  · intro f' hf'
    simp [Target.leads] at hf'
    subst hf'
    exact hFg
  -- what is kept beside the caller's own word: the loop's record and the block of the deferred calls
  let Jn : List α → World → Prop := fun pre W => I pre W ∧ W.heap[w.heap.size + 1]? = some (.loop (R .ready none)) ∧ W.heap[w.heap.size]? = some (.deferred (some []))
  let Jd : List α → World → Prop := fun pre W => ∃ c, Ix c pre W ∧ W.heap[w.heap.size + 1]? = some (.loop (R .done (some c))) ∧ W.heap[w.heap.size]? = some (.deferred (some []))
  have walks : ∀ {A : World} {row : Option Nat}, (∀ r, row = some r → W1.heap.size ≤ r ∧ ∃ o : Obj, A.heap[r]? = some o ∧ o.isWalk = true) → (∀ r, row = some r → w.heap.size ≤ r ∧ ∃ o : Obj, A.heap[r]? = some o ∧ o.isCells = false) :=
    fun hr r e => by
      obtain ⟨hB, o, ho, hw⟩ := hr r e
      exact ⟨by omega, o, ho, Obj.not_cells_of_walk hw⟩
  have round : ∀ pre x W, Jn pre W → pre.length < N → YieldAt F (n - 1 - 1) P (w.heap.size + 1) (encs x) W fun e W' =>
      (e = .returned (.bool true) ∧ Jn (pre ++ [x]) W' ∧ Kp W W') ∨ (e = .returned (.bool false) ∧ Jd (pre ++ [x]) W') := by
    rintro pre x W ⟨hi, hl, hk⟩ hlen
    have hlt : w.heap.size + 1 < W.heap.size := (Array.getElem?_eq_some_iff.1 hl).1
    have hy := run_yield (P := P) (args := encs x) hl (by rw [hR]; exact hps x)
    rw [hR] at hy
    refine ⟨fn, _, assign, body, hy, roundIn_of_wpIn hfn (hassign _ x W _ ⟨_, run_beginRound hl (by rw [hR]), ?_⟩)⟩
    obtain ⟨V, hV⟩ : ∃ V, W.putObj (w.heap.size + 1) (.loop { R .ready none with state := .busy }) = V := ⟨_, rfl⟩
    have hVl : V.heap[w.heap.size + 1]? = some (.loop (R .busy none)) := by rw [← hV]; exact World.putObj_heap_same hlt
    have hVk : V.heap[w.heap.size]? = some (.deferred (some [])) := by rw [← hV]; exact (World.putObj_heap_other (by omega)).trans hk
    have hVi : I pre V := by rw [← hV]; exact hI.putObj _ hi (by omega) hl rfl
    have hVw : Kp W V := by rw [← hV]; exact hKb _ _ _ _ (by omega) hl rfl rfl
    rw [hV]
    refine wpIn_mono (hbody _ pre x _ hVi hlen) ?_
    have fin : ∀ (jump : Option Code) (X : World), KeepsOthers V X → ∀ (Ij : World → Prop), Ij X → (∀ o', Ij X → Ij (X.putObj (w.heap.size + 1) o')) →
        (Instr.endRound (w.heap.size + 1) jump).run P X = .ok (.bool jump.isNone) (X.putObj (w.heap.size + 1) (.loop (R (if jump.isNone then .ready else .done) jump))) ∧
        X.heap[w.heap.size + 1]? = some (.loop (R .busy none)) ∧ Ij (X.putObj (w.heap.size + 1) (.loop (R (if jump.isNone then .ready else .done) jump))) ∧
        (X.putObj (w.heap.size + 1) (.loop (R (if jump.isNone then .ready else .done) jump))).heap[w.heap.size + 1]? = some (.loop (R (if jump.isNone then .ready else .done) jump)) ∧
        (X.putObj (w.heap.size + 1) (.loop (R (if jump.isNone then .ready else .done) jump))).heap[w.heap.size]? = some (.deferred (some [])) := fun jump X hkX Ij hj hjo => by
      have hXl := hkX.same _ _ hVl rfl
      exact ⟨run_endRound (P := P) jump hXl, hXl, hjo _ hj, World.putObj_heap_same (Array.getElem?_eq_some_iff.1 hXl).1, (World.putObj_heap_other (by omega)).trans (hkX.same _ _ hVk rfl)⟩
    have own : ∀ (c : Code) (X : World), KeepsOthers V X → ∀ o', Ix c (pre ++ [x]) X → Ix c (pre ++ [x]) (X.putObj (w.heap.size + 1) o') :=
      fun c X hkX o' h => (hIx c).putObj _ h (by omega) (hkX.same _ _ hVl rfl) rfl
    rintro e a3 X hp
    cases e with
    | normal =>
      obtain ⟨hkX, hwX, hiX⟩ := hp
      obtain ⟨hr, hXl, hi', hl', hk'⟩ := fin none X hkX (I (pre ++ [x])) hiX (fun o' h => hI.putObj _ h (by omega) (hkX.same _ _ hVl rfl) rfl)
      exact ⟨_, _, hr, .inl ⟨rfl, ⟨hi', hl', hk'⟩, hKt (hKt hVw hwX) (hKb _ _ _ _ (by omega) hXl rfl rfl)⟩⟩
    | ret =>
      obtain ⟨hr, _, hi', hl', hk'⟩ := fin (some .ret) X hp.1 (Ix .ret (pre ++ [x])) hp.2 (fun o' h => own _ X hp.1 o' h)
      exact ⟨_, _, hr, .inr ⟨rfl, .ret, hi', hl', hk'⟩⟩
    | exit id =>
      obtain ⟨hr, _, hi', hl', hk'⟩ := fin (some (.exit id)) X hp.1 (Ix (.exit id) (pre ++ [x])) hp.2 (fun o' h => own _ X hp.1 o' h)
      exact ⟨_, _, hr, .inr ⟨rfl, .exit id, hi', hl', hk'⟩⟩
    | goto t =>
      obtain ⟨hr, _, hi', hl', hk'⟩ := fin (some (.goto t)) X hp.1 (Ix (.goto t) (pre ++ [x])) hp.2 (fun o' h => own _ X hp.1 o' h)
      exact ⟨_, _, hr, .inr ⟨rfl, .goto t, hi', hl', hk'⟩⟩
    | panic ch => exact hp.elim
    | outgrown => exact hp.elim
  have hb1 : Below w0.heap.size w0 W1 := by rw [← hW1]; exact hb0.trans ((((Below.refl _ w).alloc (Nat.le_refl _) _).alloc (by simp) _).mono hb0.size)
  have hI1 : I [] W1 := by rw [← hW1]; exact hI.alloc _ (hI.alloc _ h0)
  refine (hseq (w.heap.size + 1) Jn Jd W1 hb1
    (fun s A B row hs hg' hr => ⟨hI s A B row hs.1 hg' (walks hr), (grownBy_keeps hg' (fun r e => (hr r e).2) hs.2.1 rfl).trans hs.2.1, (grownBy_keeps hg' (fun r e => (hr r e).2) hs.2.2 rfl).trans hs.2.2⟩)
    (fun s A B row hs hg' hr => by
      obtain ⟨c, hc, hl, hk⟩ := hs
      exact ⟨c, hIx c s A B row hc hg' (walks hr), (grownBy_keeps hg' (fun r e => (hr r e).2) hl rfl).trans hl, (grownBy_keeps hg' (fun r e => (hr r e).2) hk rfl).trans hk⟩)
    (fun s A B hs hst => ⟨hIs s A B hs.1 hst, (hSt A B _ hst (by omega)).trans hs.2.1, (hSt A B _ hst (by omega)).trans hs.2.2⟩)
    (fun s A B hs hst => by
      obtain ⟨c, hc, hl, hk⟩ := hs
      exact ⟨c, hIxs c s A B hc hst, (hSt A B _ hst (by omega)).trans hl, (hSt A B _ hst (by omega)).trans hk⟩)
    round ⟨hI1, hL1, hK1⟩).mono ?_
  rintro e X ⟨⟨v, rfl⟩, (⟨xs, hS, hi, hl, hk⟩ | ⟨pre, hSp, c, hi, hl, hk⟩)⟩
  · exact ⟨none, _, run_endLoop (P := P) hl (by rw [hR]; simp), hdone _ xs _ (Nat.le_refl _) hS (hI.putObj _ hi (by omega) hl rfl) ((World.putObj_heap_other (by omega)).trans hk)⟩
  · exact ⟨some c, _, run_endLoop (P := P) hl (by rw [hR]; simp), hstop _ c pre _ (Nat.le_refl _) hSp ((hIx c).putObj _ hi (by omega) hl rfl) ((World.putObj_heap_other (by omega)).trans hk)⟩
end Go.Proofs.YtnffecoohkanhaaDoor
namespace Go.Proofs.YtnffecoohkanhaaDoor
open Go.RowKit
def kset (a : Array Value) (i : Nat) (v : Int) : Array Value := a.setIfInBounds i (.int .u8 v)
noncomputable def kA : Nat → Array Value
  | 0 => Tryd.zeroCells125
  | k + 1 => kset (kset (kA k) (65 + k) 1) (97 + k) 1
noncomputable def kB : Nat → Array Value
  | 0 => kA 26
  | k + 1 => kset (kB k) (48 + k) 2
noncomputable def kFin : Array Value := kset (kset (kset (kset (kB 10) 95 4) 45 8) 46 16) 43 16
theorem kA_size (k : Nat) : (kA k).size = 256 := by
  induction k with
  | zero => kernel_rfl
  | succ k ih => simp [kA, kset, ih]
theorem kB_size (k : Nat) : (kB k).size = 256 := by
  induction k with
  | zero => exact kA_size 26
  | succ k ih => simp [kB, kset, ih]
theorem kFin_size : kFin.size = 256 := by simp [kFin, kset, kB_size]
theorem kinfo : (Tryd.prog.info? 125).map (·.size) = some kFin.size := by rw [kFin_size]; kernel_rfl
theorem kset_one (a : Array Value) (i : Nat) (v : Int) (h : a.all (·.oneCell') = true) : (kset a i v).all (·.oneCell') = true := by
  rw [Array.all_eq_true_iff_forall_mem] at *
  intro x hx
  rcases Array.mem_or_eq_of_mem_setIfInBounds hx with h' | h'
  · exact h x h'
  · subst h'; rfl
theorem kA_one (k : Nat) : (kA k).all (·.oneCell') = true := by
  induction k with
  | zero => kernel_rfl
  | succ k ih => exact kset_one _ _ _ (kset_one _ _ _ ih)
theorem kB_one (k : Nat) : (kB k).all (·.oneCell') = true := by
  induction k with
  | zero => exact kA_one 26
  | succ k ih => exact kset_one _ _ _ ih
theorem kFin_one : kFin.all (·.oneCell') = true := kset_one _ _ _ (kset_one _ _ _ (kset_one _ _ _ (kset_one _ _ _ (kB_one 10))))
theorem setRow_under (w : World) (a b : Array Value) (t : TypeId) (o : Obj) : ((w.alloc (.cells a t)).alloc o).setRow w.heap.size b = (w.alloc (.cells b t)).alloc o := by
  unfold World.setRow World.alloc
  congr 1
  apply Array.ext_getElem?
  intro k
  simp only [Array.getElem?_modify, Array.getElem?_push, Array.size_push]
  by_cases h1 : k = w.heap.size
  · subst h1; simp
  · by_cases h2 : k = w.heap.size + 1
    · subst h2; simp
    · simp [h1, h2]
      by_cases h3 : w.heap.size = k
      · omega
      · simp [h3]
theorem some_of (a : Array Value) (i : Nat) (h : i < a.size) : ∃ v, a[i]? = some v := ⟨a[i], by simp [h]⟩
set_option maxHeartbeats 400000 in
theorem kinds_any (w : World) :
    Calls Tryd.prog 78 #[] w fun e w' => e = .returned (.agg kFin) ∧ (w.alloc (.cells kFin 125)).alloc (.cells kFin 125) = w' := by
  go_enter Tryd.func78, Tryd.ntmps78
  go_wp2
  go_loopw [2, 4] (fun _ i wr => ∃ k : Nat, k ≤ 26 ∧ i = .int .i64 k ∧ wr = (w.alloc (.cells Tryd.zeroCells125 125)).alloc (.cells (kA k) 125)) (fun _ i _ => 26 - (intOf i).toNat)
  case atStart => exact ⟨0, by omega, rfl, rfl⟩
  case round =>
    obtain ⟨k, hk, rfl, rfl⟩ := hrel
    by_cases hlt : k < 26
    · obtain ⟨v1, h1⟩ := some_of (kA k) (65 + k) (by rw [kA_size]; omega)
      obtain ⟨v2, h2⟩ := some_of (kA k) (97 + k) (by rw [kA_size]; omega)
      go_wp2
      go_roundw
      case rel => exact ⟨k + 1, by omega, by go_num, rfl⟩
      case measure => simp [intOf]; omega
    · have hk26 : k = 26 := by omega
      subst hk26
      go_wp2
      go_loopw [3, 14] (fun _ i wr => ∃ k : Nat, k ≤ 10 ∧ i = .int .i64 k ∧ wr = (w.alloc (.cells Tryd.zeroCells125 125)).alloc (.cells (kB k) 125)) (fun _ i _ => 10 - (intOf i).toNat)
      case atStart => exact ⟨0, by omega, rfl, rfl⟩
      case round =>
        obtain ⟨k, hk, rfl, rfl⟩ := hrel
        by_cases hlt : k < 10
        · obtain ⟨v1, h1⟩ := some_of (kB k) (48 + k) (by rw [kB_size]; omega)
          go_wp2
          go_roundw
          case rel => exact ⟨k + 1, by omega, by go_num, rfl⟩
          case measure => simp [intOf]; omega
        · have hk26 : k = 10 := by omega
          subst hk26
          obtain ⟨v1, h1⟩ := some_of (kB 10) 95 (by rw [kB_size]; omega)
          obtain ⟨v2, h2⟩ := some_of (kB 10) 45 (by rw [kB_size]; omega)
          obtain ⟨v3, h3⟩ := some_of (kB 10) 46 (by rw [kB_size]; omega)
          obtain ⟨v4, h4⟩ := some_of (kB 10) 43 (by rw [kB_size]; omega)
          have HF : Hid (kFin = ((((kB 10).setIfInBounds 95 (.int .u8 4)).setIfInBounds 45 (.int .u8 8)).setIfInBounds 46 (.int .u8 16)).setIfInBounds 43 (.int .u8 16)) := rfl
          have hki := kinfo
          have hone := kFin_one
          have hz : Tryd.zeroCells125.size = kFin.size := by rw [kFin_size]; kernel_rfl
          have Hsz := Lib.hid hz
          clear hz
          rw [HF.out] at hki hone Hsz
          generalize kB 10 = KB at *
          go_wp2_with (first | (refine wpList_load_row rfl 125 _ rfl (w.heap.size + 1) rfl 125 ?cs (0, 0) _ ?hg Tryd.underlying125 rfl ?hi ?_; (case hg => exact heap_alloc2_new w _ _); (case hi => exact hki)) | (refine wpList_store_row rfl 125 _ _ rfl w.heap.size _ rfl rfl 125 Tryd.zeroCells125 ?hg2 ?hi2 ?hold ?h1 ?_; (case hg2 => exact heap_alloc2_old w _ _); (case hi2 => exact hki); (case hold => exact Hsz.out); (case h1 => exact hone)))
          rw [setRow_under, ← HF.out]
          exact bodyPost_ret (v := .agg kFin) (results_cell_row rfl _ _ w.heap.size 125 kFin (0, 0) _ rfl (heap_alloc2_old w _ _) Tryd.underlying125 rfl kinfo) rfl ⟨rfl, rfl⟩

def letB (n : Nat) : Bool := (decide (65 ≤ n) && decide (n ≤ 90)) || (decide (97 ≤ n) && decide (n ≤ 122))
def digB (n : Nat) : Bool := decide (48 ≤ n) && decide (n ≤ 57)
def kindOf (n : Nat) : Int := if letB n then 1 else if digB n then 2 else if n = 95 then 4 else if n = 45 then 8 else if n = 46 then 16 else if n = 43 then 16 else 0
theorem kFin_list : kFin.toList = (List.range 256).map (fun n => Value.int .u8 (kindOf n)) := by kernel_rfl
theorem kFin_at (n : Nat) (h : n < 256) : kFin[n]? = some (.int .u8 (kindOf n)) := by
  rw [← Array.getElem?_toList, kFin_list]
  simp [h]

/-- a function value that name.of has made, in a world -/
def IsOf (w : World) (least most mask : Int) (v : Value) : Prop :=
  ∃ a b c d : Nat, v = .func (.func 79) #[] #[.pointer (some ⟨a, 0, none⟩), .pointer (some ⟨b, 0, none⟩), .pointer (some ⟨c, 0, none⟩), .pointer (some ⟨d, 0, none⟩)] ∧
    w.cell? ⟨a, 0, none⟩ = some (.int .i64 least) ∧ w.cell? ⟨b, 0, none⟩ = some (.int .i64 most) ∧ (∀ n : Nat, n < 256 → w.cell? ⟨c, n, none⟩ = some (.int .u8 (kindOf n))) ∧ w.cell? ⟨d, 0, none⟩ = some (.int .u8 mask)

attribute [irreducible] kFin kA kB
theorem heap_alloc_at {w : World} {o : Obj} {n : Nat} (h : n = w.heap.size) : (w.alloc o).heap[n]? = some o := by rw [h]; exact heap_alloc_new w o
theorem setRow_at {w : World} {a b : Array Value} {t : TypeId} {n : Nat} (h : n = w.heap.size) : (w.alloc (.cells a t)).setRow n b = w.alloc (.cells b t) := by
  subst h
  unfold World.setRow World.alloc
  congr 1
  apply Array.ext_getElem?
  intro k
  simp only [Array.getElem?_modify, Array.getElem?_push]
  by_cases h1 : k = w.heap.size
  · subst h1; simp
  · have h2 : ¬ w.heap.size = k := fun e => h1 e.symm
    simp [h1, h2]
theorem of_any (least most mask : Int) (w : World) :
    Calls Tryd.prog 69 #[.int .i64 least, .int .i64 most, .int .u8 mask] w fun e w' =>
      ∃ v, e = .returned v ∧ IsOf w' least most mask v ∧ Below w.heap.size w w' := by
  have hki := kinfo
  have hone := kFin_one
  have hat := fun n h => kFin_at n h
  have hsz : Tryd.zeroCells125.size = kFin.size := by rw [kFin_size]; kernel_rfl
  have Hsz := Lib.hid hsz
  clear hsz
  have HA := Lib.hid hat
  clear hat
  go_enter Tryd.func69, Tryd.ntmps69
  go_wp2_with (first | (go_at_call 78; refine (kinds_any _).mono ?_; rintro e w' ⟨rfl, rfl⟩) | (refine wpList_store_row rfl 125 _ _ rfl _ _ rfl rfl 125 Tryd.zeroCells125 ?hg2 ?hi2 ?hold ?h1 ?_; (case hg2 => exact heap_alloc_at (by simp)); (case hi2 => exact hki); (case hold => exact Hsz.out); (case h1 => exact hone)))
  rw [setRow_at (by simp)]
  go_ret
  refine ⟨_, rfl, ⟨_, _, _, _, rfl, ?_, ?_, ?_, ?_⟩, ?_⟩
  · go_simp
  · go_simp
  · intro n hn
    rw [World.cell?_alloc_at _ _ _ _ (by simp)]
    exact HA.out n hn
  · go_simp
  · exact ((((((Below.refl _ _).alloc (Nat.le_refl _) _).alloc (by simp) _).alloc (by simp; omega) _).alloc (by simp; omega) _).alloc (by simp; omega) _).alloc (by simp; omega) _

def ofOk (least most : Int) (p : Nat → Bool) (l : List UInt8) : Bool := decide (least ≤ l.length) && decide ((l.length : Int) ≤ most) && l.all (fun c => p c.toNat)

theorem ret_bool {a b : Bool} (h : a = b) : Ending.returned (.bool a) = Ending.returned (.bool b) := by rw [h]
theorem len_eq (s : ByteArray) : s.data.toList.length = s.size := rfl
theorem ofOk_low {least most : Int} {p : Nat → Bool} {s : ByteArray} (h : (s.size : Int) < least) : ofOk least most p s.data.toList = false := by
  unfold ofOk; rw [len_eq, decide_eq_false (by omega)]; rfl
theorem ofOk_high {least most : Int} {p : Nat → Bool} {s : ByteArray} (h : most < (s.size : Int)) : ofOk least most p s.data.toList = false := by
  unfold ofOk; rw [len_eq, decide_eq_false (p := (s.size : Int) ≤ most) (by omega), Bool.and_false, Bool.false_and]
theorem ofOk_bad {least most : Int} {p : Nat → Bool} {s : ByteArray} (k : Nat) (h : k < s.size) (hb : p s[k].toNat = false) : ofOk least most p s.data.toList = false := by
  unfold ofOk
  have : s.data.toList.all (fun c => p c.toNat) = false := by
    rw [List.all_eq_false]
    exact ⟨s[k], by simp [ByteArray.getElem_eq_getElem_data], by simpa using hb⟩
  rw [this, Bool.and_false]
theorem ofOk_good {least most : Int} {p : Nat → Bool} {s : ByteArray} (hl : least ≤ (s.size : Int)) (hm : (s.size : Int) ≤ most) (h : s.data.toList.all (fun c => p c.toNat) = true) : ofOk least most p s.data.toList = true := by
  unfold ofOk; rw [len_eq, decide_eq_true hl, decide_eq_true hm, h]; rfl
theorem take_snoc_all (s : ByteArray) (k : Nat) (h : k < s.size) (p : UInt8 → Bool) : (s.data.toList.take (k + 1)).all p = ((s.data.toList.take k).all p && p s[k]) := by
  rw [List.take_succ_eq_append_getElem (by simpa using h)]
  simp
  rfl
theorem closure_any (least most mask : Int) (p : Nat → Bool) (hp : ∀ n, (bits BinOp.and IntKind.u8 (kindOf n) mask == 0) = !(p n)) (s : ByteArray) (hs : s.size ≤ maxLen)
    (a b c d : Nat) (w : World) (h1 : w.cell? ⟨a, 0, none⟩ = some (.int .i64 least)) (h2 : w.cell? ⟨b, 0, none⟩ = some (.int .i64 most))
    (h3 : ∀ n : Nat, n < 256 → w.cell? ⟨c, n, none⟩ = some (.int .u8 (kindOf n))) (h4 : w.cell? ⟨d, 0, none⟩ = some (.int .u8 mask)) :
    Calls Tryd.prog 79 #[.string s, .pointer (some ⟨a, 0, none⟩), .pointer (some ⟨b, 0, none⟩), .pointer (some ⟨c, 0, none⟩), .pointer (some ⟨d, 0, none⟩)] w fun e w' =>
      e = .returned (.bool (ofOk least most p s.data.toList)) ∧ ∃ n, w.drewN n = w' := by
  unfold maxLen at hs
  have H3 := Lib.hid h3
  have HP := Lib.hid hp
  clear h3 hp
  go_enter Tryd.func79, Tryd.ntmps79
  by_cases hl : (s.size : Int) < least
  · go_wp2
    go_ret
    exact ⟨ret_bool (ofOk_low hl).symm, 0, rfl⟩
  · by_cases hm : most < (s.size : Int)
    · go_wp2
      go_ret
      exact ⟨ret_bool (ofOk_high hm).symm, 0, rfl⟩
    · go_wp2
      go_loopw [7, 20] (fun _ i wr => ∃ k n : Nat, k ≤ s.size ∧ i = .int .i64 k ∧ wr = w.drewN n ∧ (s.data.toList.take k).all (fun c => p c.toNat) = true) (fun _ i _ => s.size - (intOf i).toNat)
      case atStart => exact ⟨0, 0, by omega, rfl, rfl, rfl⟩
      case round =>
        obtain ⟨k, n, hk, rfl, rfl, hall⟩ := hrel
        by_cases hlt : k < s.size
        · have hc : s[k].toNat < 256 := s[k].toNat_lt
          have h3 := H3.out _ hc
          have hki : (k : Int) < (s.size : Int) := by omega
          cases hpk : p s[k].toNat
          · have hb : (bits BinOp.and IntKind.u8 (kindOf s[k].toNat) mask == 0) = true := by rw [HP.out, hpk]; rfl
            have Hpk := Lib.hid hpk
            clear hpk
            go_wp2
            go_quiet (fail)
            go_wp2
            go_ret
            exact ⟨ret_bool (ofOk_bad k hlt Hpk.out).symm, n + nq, by simp⟩
          · have hb : (bits BinOp.and IntKind.u8 (kindOf s[k].toNat) mask == 0) = false := by rw [HP.out, hpk]; rfl
            have Hpk := Lib.hid hpk
            clear hpk
            go_wp2
            go_quiet (fail)
            go_wp2
            go_roundw
            case rel => exact ⟨k + 1, n + nq, by omega, by go_num, by first | rfl | simp, by rw [take_snoc_all s k hlt, hall, Bool.true_and]; exact Hpk.out⟩
            case measure => simp [intOf]; omega
        · go_wp2
          go_ret
          rw [List.take_of_length_le (by rw [len_eq]; omega)] at hall
          exact ⟨ret_bool (ofOk_good (by omega) (by omega) hall).symm, n, rfl⟩
end Go.Proofs.YtnffecoohkanhaaDoor
namespace Go.Proofs.YtnffecoohkanhaaDoor
open Go.RowKit Go.Shelf
attribute [local go_sem] Oper.semAt_some

def Kept3 (bp bs bv : Nat) (W W' : World) : Prop := W'.heap[bp]? = W.heap[bp]? ∧ W'.heap[bs]? = W.heap[bs]? ∧ W'.heap[bv]? = W.heap[bv]?
def StoreAt (bs : Nat) (W W' : World) : Prop := ∃ v : Value, W' = W.setCell ⟨bs, 0, none⟩ v
abbrev Piece := { x : ByteArray // x.size ≤ maxLen }
def lists (xs : List Piece) : List (List UInt8) := xs.map (fun x => x.1.data.toList)

theorem cell_of_heap {w : World} {b : Nat} {v : Value} {t : TypeId} (h : w.heap[b]? = some (.cells #[v] t (0, 0))) : w.cell? ⟨b, 0, none⟩ = some v := by simp [World.cell?, h]
theorem froz_of_heap {w : World} {b : Nat} {v : Value} {t : TypeId} (h : w.heap[b]? = some (.cells #[v] t (0, 0))) : w.frozen? ⟨b, 0, none⟩ = false := by simp [World.frozen?, h]

theorem index1_no (s : ByteArray) (c : UInt8) (w : World) (h : Lib.indexByte s.data.toList c < 0) :
    Calls Tryd.prog 94 #[.string s, .string ⟨#[c]⟩] w fun e w' => e = .returned (.int .i64 (-1)) ∧ w = w' :=
  (Tryd.strings_Index_one s c w).mono fun _ _ ⟨he, hw⟩ => ⟨by rw [he, show Lib.indexByte s.data.toList c = -1 by have := Lib.indexByte_ge s.data.toList c; omega], hw.symm⟩
theorem index1_yes (s : ByteArray) (c : UInt8) (w : World) (i : Nat) (h : Lib.indexByte s.data.toList c = i) :
    Calls Tryd.prog 94 #[.string s, .string ⟨#[c]⟩] w fun e w' => e = .returned (.int .i64 i) ∧ w = w' :=
  (Tryd.strings_Index_one s c w).mono fun _ _ ⟨he, hw⟩ => ⟨by rw [he, h], hw.symm⟩

/-- how long the rest is that lies in the captured variable -/
def leftIn (b : Nat) (w : World) : Nat := match w.cell? ⟨b, 0, none⟩ with
  | some (.string x) => x.size
  | _ => 0
theorem leftIn_eq {b : Nat} {w : World} {x : ByteArray} (h : w.cell? ⟨b, 0, none⟩ = some (.string x)) : leftIn b w = x.size := by unfold leftIn; rw [h]
theorem lists_snoc (pre : List Piece) (x : Piece) : lists (pre ++ [x]) = lists pre ++ [x.1.data.toList] := by simp [lists]
theorem ext_take (r : ByteArray) (i : Nat) : (r.extract 0 i).data.toList = r.data.toList.take i := by simp [ByteArray.data_extract]
theorem ext_drop (r : ByteArray) (i : Nat) : (r.extract i r.size).data.toList = r.data.toList.drop i := by
  rw [ByteArray.data_extract, Array.toList_extract, List.extract_eq_take_drop]
  exact List.take_of_length_le (by rw [List.length_drop, len_eq]; exact Nat.le_refl _)

set_option maxHeartbeats 1000000 in
theorem splitSeq_steps (n : Nat) (hn : 1 ≤ n) (bp bs bv : Nat) (hd1 : bp ≠ bs) (hd2 : bv ≠ bs) (c : UInt8) (s : ByteArray) (hlen : s.size ≤ maxLen) (w : World)
    (hp : w.heap[bp]? = some (.cells #[.string ⟨#[c]⟩] 9)) (hs : w.heap[bs]? = some (.cells #[.string s] 9)) (hv : w.heap[bv]? = some (.cells #[.int .i64 0] 3)) :
    SeqSteps Fence.wide n Tryd.prog 92 #[.pointer (some ⟨bp, 0, none⟩), .pointer (some ⟨bs, 0, none⟩), .pointer (some ⟨bv, 0, none⟩)] (fun x : Piece => #[.string x.1]) (Kept3 bp bs bv) (StoreAt bs)
      (fun xs => lists xs = splitB c s.data.toList) (fun xs => ∃ r, lists xs ++ r = splitB c s.data.toList) (splitB c s.data.toList).length w := by
  intro l J Jx W hW hJ hJx hSJ hSJx hY h0
  have lt : ∀ {b : Nat} {o : Obj}, w.heap[b]? = some o → b < w.heap.size := fun h => (Array.getElem?_eq_some_iff.1 h).1
  have hpW := (hW.block bp (lt hp)).trans hp
  have hsW := (hW.block bs (lt hs)).trans hs
  have hvW := (hW.block bv (lt hv)).trans hv
  clear hp hs hv hW
  have cp := cell_of_heap hpW
  have cs := cell_of_heap hsW
  have cv := cell_of_heap hvW
  unfold maxLen at hlen
  have H := Lib.hid (And.intro hpW (And.intro hsW hvW))
  clear hpW hsW hvW
  refine callsIn_of_wp Tryd.func92 rfl trivial ?_ rfl
  simp only [Tryd.ntmps92, List.size_toArray, List.length_cons, List.length_nil, Nat.reduceAdd, Nat.reduceSub, Array.replicate_succ, Array.replicate_zero, List.push_toArray, List.append_toArray, List.nil_append, List.cons_append]
  gi_wp2
  gi_loopw [7] (fun _ wr => ∃ (pre : List Piece) (r : ByteArray), r.size ≤ 2 ^ 63 - 1 ∧ lists pre ++ splitB c r.data.toList = splitB c s.data.toList ∧ J pre wr ∧
      wr.heap[bp]? = some (.cells #[.string ⟨#[c]⟩] 9) ∧ wr.heap[bs]? = some (.cells #[.string r] 9) ∧ wr.heap[bv]? = some (.cells #[.int .i64 0] 3)) (fun _ wr => leftIn bs wr)
  case atStart => exact ⟨[], s, hlen, rfl, h0, H.out.1, H.out.2.1, H.out.2.2⟩
  case round =>
    obtain ⟨pre, r, hr, hpre, hJp, hp, hs, hv⟩ := hrel
    have cp := cell_of_heap hp
    have cs := cell_of_heap hs
    have cv := cell_of_heap hv
    have fs := froz_of_heap hs
    have hleft := leftIn_eq cs
    have HL := Lib.hid hleft
    have HP := Lib.hid (And.intro hp (And.intro hs hv))
    have HE := Lib.hid hpre
    clear hp hs hv hpre hleft
    by_cases hi : Lib.indexByte r.data.toList c < 0
    · have hsp := splitB_none c _ hi
      have hln : pre.length < (splitB c s.data.toList).length := by rw [← HE.out, hsp]; simp [lists]
      obtain ⟨fn, tmps, assign, body, hy, hR⟩ := hY pre ⟨r, hr⟩ wr hJp hln
      dsimp only at hy
      have HS := Lib.hid hsp
      clear hsp
      gi_wp2_with (refine ⟨trivial, ?_⟩; gi_at_call 94; refine (callsIn_wide.2 (index1_no r c wr hi)).mono ?_; rintro e w' ⟨rfl, rfl⟩)
      refine hR.mono ?_
      rintro e W3 (⟨rfl, hJ3, hk3⟩ | ⟨rfl, hJx3⟩)
      · gi_wp2
        go_end0
        exact ⟨⟨_, rfl⟩, .inl ⟨pre ++ [⟨r, hr⟩], by rw [lists_snoc, ← HE.out, HS.out], hJ3⟩⟩
      · gi_wp2
        go_end0
        exact ⟨⟨_, rfl⟩, .inr ⟨pre ++ [⟨r, hr⟩], ⟨[], by rw [lists_snoc, ← HE.out, HS.out, List.append_nil]⟩, hJx3⟩⟩
    · have hge := Lib.indexByte_ge r.data.toList c
      obtain ⟨i, hi'⟩ : ∃ i : Nat, Lib.indexByte r.data.toList c = i := ⟨(Lib.indexByte r.data.toList c).toNat, by omega⟩
      clear hi hge
      obtain ⟨hil, hsp⟩ := splitB_some c _ i hi'
      rw [len_eq] at hil
      have hln : pre.length < (splitB c s.data.toList).length := by rw [← HE.out, hsp]; simp [lists]
      obtain ⟨fn, tmps, assign, body, hy, hR⟩ := hY pre ⟨r.extract 0 i, by unfold maxLen; simp; omega⟩ wr hJp hln
      dsimp only at hy
      have HS := Lib.hid hsp
      have HI := Lib.hid hi'
      clear hsp hi'
      gi_wp2_with (refine ⟨trivial, ?_⟩; gi_at_call 94; refine (callsIn_wide.2 (index1_yes r c wr i HI.out)).mono ?_; rintro e w' ⟨rfl, rfl⟩)
      refine hR.mono ?_
      rintro e W3 (⟨rfl, hJ3, hk3⟩ | ⟨rfl, hJx3⟩)
      · have hp3 := hk3.1.trans HP.out.1
        have hs3 := hk3.2.1.trans HP.out.2.1
        have hv3 := hk3.2.2.trans HP.out.2.2
        have cp3 := cell_of_heap hp3
        have cs3 := cell_of_heap hs3
        have cv3 := cell_of_heap hv3
        have fs3 := froz_of_heap hs3
        have HP3 := Lib.hid (And.intro hp3 (And.intro hs3 hv3))
        clear hp3 hs3 hv3
        gi_wp2
        go_roundw
        case rel =>
          refine ⟨pre ++ [⟨r.extract 0 i, _⟩], r.extract (i + 1) r.size, by simp; omega, ?_, hSJ _ _ _ hJ3 ⟨_, rfl⟩, ?_, ?_, ?_⟩
          · rw [lists_snoc, ext_take, ext_drop, ← HE.out, HS.out, List.append_assoc]; rfl
          · rw [heap_setCell_other _ _ _ _ (by simpa using hd1)]; exact HP3.out.1
          · exact heap_setCell_same _ _ _ _ _ _ HP3.out.2.1
          · rw [heap_setCell_other _ _ _ _ (by simpa using hd2)]; exact HP3.out.2.2
        case measure =>
          rw [HL.out, leftIn_eq (x := r.extract (i + 1) r.size) (cell_of_heap (heap_setCell_same _ _ _ _ _ _ HP3.out.2.1))]
          simp
          omega
      · gi_wp2
        refine bodyPost_ret (results_none rfl _ _ _) rfl ?_
        exact ⟨⟨_, rfl⟩, .inr ⟨pre ++ [⟨r.extract 0 i, _⟩], ⟨splitB c (r.data.toList.drop (i + 1)), by rw [lists_snoc, ext_take, ← HE.out, HS.out, List.append_assoc]; rfl⟩, hJx3⟩⟩
end Go.Proofs.YtnffecoohkanhaaDoor
