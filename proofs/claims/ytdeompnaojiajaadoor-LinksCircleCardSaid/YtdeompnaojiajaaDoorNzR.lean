/- A range over a function, as steps. -/
import Derived.RangeFuncNested
import Derived.RangeFuncCalls
import Derived.RangeFuncLeaves
import Derived.RangeFuncFrom
import Derived.Shelf.Abstract
import Derived.Shelf.RegionOpen
import Derived.WalkKit
import Derived.OwnWalkIn
import Derived.TacticsInMore
import Derived.LoopNIn
import Derived.LoopIn
import Derived.Test.YtdeompnaojiajaaDoorRows
namespace Go.Proofs.YtdeompnaojiajaaDoor
open Go.RowKit Go.Shelf

/-- A contract of an iterator that, between two rounds, also takes steps `St` of its own on memory that its caller does not look at. -/
def SeqSteps {α : Type} (F : Fence) (n : Nat) (P : Program) (g : Nat) (lb : Array Value) (encs : α → Array Value) (Kp St : World → World → Prop) (S Sp : List α → Prop) (N : Nat) (w : World) : Prop :=
  ∀ (l : Nat) (J Jx : List α → World → Prop) (W : World), Below w.heap.size w W → AbidesFrom W.heap.size J → AbidesFrom W.heap.size Jx →
    (∀ s A B, J s A → St A B → J s B) → (∀ s A B, Jx s A → St A B → Jx s B) →
    (∀ pre x W1, J pre W1 → pre.length < N → YieldAt F (n - 1) P l (encs x) W1 fun e W' =>
      (e = .returned (.bool true) ∧ J (pre ++ [x]) W' ∧ Kp W1 W') ∨ (e = .returned (.bool false) ∧ Jx (pre ++ [x]) W')) →
    J [] W →
    CallsIn F n P g (#[.func (.yield l) #[] #[]] ++ lb) W fun e W' => (∃ v, e = .returned v) ∧ ((∃ xs, S xs ∧ J xs W') ∨ (∃ pre, Sp pre ∧ Jx pre W'))

/-- The range statement over such an iterator: what the caller says of the world must abide the iterator's own steps. -/
theorem rangeFunc_steps {F : Fence} {n : Nat} {P : Program} {α : Type} {g : Operand} {ps : Array Tmp} {assign body : Code} {Q : Exit → Act → World → Prop} {a : Act} {w : World}
    (hro : F.round = none) (h1 : 1 ≤ n) {gf : Nat} {lb : Array Value} (hg : a.eval g = .func (.func gf) #[] lb) (hFg : F.fn gf) (eg : ∀ args w, (callFunc gf args).run P w = .ok (.enter gf args) w)
    {encs : α → Array Value} {Kp St : World → World → Prop} {S Sp : List α → Prop} {N : Nat} {w0 : World} (hseq : SeqSteps F (n - 1) P gf lb encs Kp St S Sp N w0)
    (hSt : ∀ A B k, St A B → w.heap.size ≤ k → B.heap[k]? = A.heap[k]?)
    (hKt : ∀ {A B C : World}, Kp A B → Kp B C → Kp A C) (hKb : ∀ (W : World) (l : Nat) (o o' : Obj), w.heap.size ≤ l → W.heap[l]? = some o → o.isCells = false → o.isWalk = false → Kp W (W.putObj l o')) (hb0 : Below w0.heap.size w0 w) (hps : ∀ x, (encs x).size = ps.size)
    (I : List α → World → Prop) (Ix : Code → List α → World → Prop) (hI : OwnFrom w.heap.size I) (hIx : ∀ c, OwnFrom w.heap.size (Ix c))
    (hIs : ∀ s A B, I s A → St A B → I s B) (hIxs : ∀ c s A B, Ix c s A → St A B → Ix c s B) (h0 : I [] w) (a₁ : α → Act)
    (hassign : ∀ (l : Nat) (x : α) (W : World) (K : Act → World → Prop), K (a₁ x) W →
      assign.wpIn (F.inRound l) (n - 1 - 1) P (Exit.then K (fun _ _ _ => False)) { tmps := (ps.zip (encs x)).foldl (fun t (p, v) => t.setIfInBounds p v) a.tmps, defers := [] } W)
    (hbody : ∀ (l : Nat) (pre : List α) (x : α) (W : World), I pre W → pre.length < N → body.wpIn (F.inRound l) (n - 1 - 1) P (ownPostK Kp I Ix (pre ++ [x]) W) (a₁ x) W)
    (hdone : ∀ (D : Nat) (xs : List α) (W : World), w.heap.size ≤ D → S xs → I xs W → W.heap[D]? = some (.deferred (some [])) → Q .normal { a with defers := { target := .collected D, args := #[] } :: a.defers } W)
    (hstop : ∀ (D : Nat) (c : Code) (pre : List α) (W : World), w.heap.size ≤ D → Sp pre → Ix c pre W → W.heap[D]? = some (.deferred (some [])) → c.wpIn F n P Q { a with defers := { target := .collected D, args := #[] } :: a.defers } W) :
    (Code.rangeFunc g ps assign body).wpIn F n P Q a w := by
  refine wpIn_rangeFunc fun fn hfn => ?_
  rw [hro]
  let R : LoopState → Option Code → Loop := fun st pe => { state := st, pending := pe, fn, tmps := a.tmps, params := ps, assign, body, defers := w.heap.size }
  have hR : ∀ st pe, R st pe = { state := st, pending := pe, fn, tmps := a.tmps, params := ps, assign, body, defers := w.heap.size } := fun _ _ => rfl
  have hRs : ∀ st pe st', { R st pe with state := st' } = R st' pe := fun _ _ _ => rfl
  obtain ⟨W1, hW1⟩ : ∃ W1, (w.alloc (.deferred (some []))).alloc (.loop (R .ready none)) = W1 := ⟨_, rfl⟩
  have hz1 : W1.heap.size = w.heap.size + 2 := by rw [← hW1]; simp
  have hL1 : W1.heap[w.heap.size + 1]? = some (.loop (R .ready none)) := by rw [← hW1]; exact heap_alloc2_new w _ _
  have hK1 : W1.heap[w.heap.size]? = some (.deferred (some [])) := by rw [← hW1]; exact heap_alloc2_old w _ _
  refine ⟨w.heap.size + 1, [{ target := .collected w.heap.size, args := #[] }], W1, { target := .fn (.func gf) lb, args := #[.func (.yield (w.heap.size + 1)) #[] #[]] }, W1, gf,
    #[.func (.yield (w.heap.size + 1)) #[] #[]] ++ lb, W1, by rw [← hW1]; exact run_enterLoop_outer _ _ _ _ _, by simp only [resolve, hg]; simp [go_sem], ?_, by simp [invoke, go_sem, eg], fun _ => h1, ?_⟩
  · intro f' hf'
    simp [Target.leads] at hf'
    subst hf'
    exact hFg
  -- what is kept beside the caller's own word: the loop's record and the block of the deferred calls
  let Jn : List α → World → Prop := fun pre W => I pre W ∧ W.heap[w.heap.size + 1]? = some (.loop (R .ready none)) ∧ W.heap[w.heap.size]? = some (.deferred (some []))
  let Jd : List α → World → Prop := fun pre W => ∃ c, Ix c pre W ∧ W.heap[w.heap.size + 1]? = some (.loop (R .done (some c))) ∧ W.heap[w.heap.size]? = some (.deferred (some []))
  have walks : ∀ {A : World} {row : Option Nat}, (∀ r, row = some r → W1.heap.size ≤ r ∧ ∃ o : Obj, A.heap[r]? = some o ∧ o.isWalk = true) → (∀ r, row = some r → w.heap.size ≤ r ∧ ∃ o : Obj, A.heap[r]? = some o ∧ o.isCells = false) :=
    fun hr r e => by
      obtain ⟨hB, o, ho, hw⟩ := hr r e
      exact ⟨by omega, o, ho, Obj.not_cells_of_walk hw⟩
  have round : ∀ pre x W, Jn pre W → pre.length < N → YieldAt F (n - 1 - 1) P (w.heap.size + 1) (encs x) W fun e W' =>
      (e = .returned (.bool true) ∧ Jn (pre ++ [x]) W' ∧ Kp W W') ∨ (e = .returned (.bool false) ∧ Jd (pre ++ [x]) W') := by
    rintro pre x W ⟨hi, hl, hk⟩ hlen
    have hlt : w.heap.size + 1 < W.heap.size := (Array.getElem?_eq_some_iff.1 hl).1
    have hy := run_yield (P := P) (args := encs x) hl (by rw [hR]; exact hps x)
    rw [hR] at hy
    refine ⟨fn, _, assign, body, hy, roundIn_of_wpIn hfn (hassign _ x W _ ⟨_, run_beginRound hl (by rw [hR]), ?_⟩)⟩
    obtain ⟨V, hV⟩ : ∃ V, W.putObj (w.heap.size + 1) (.loop { R .ready none with state := .busy }) = V := ⟨_, rfl⟩
    have hVl : V.heap[w.heap.size + 1]? = some (.loop (R .busy none)) := by rw [← hV]; exact World.putObj_heap_same hlt
    have hVk : V.heap[w.heap.size]? = some (.deferred (some [])) := by rw [← hV]; exact (World.putObj_heap_other (by omega)).trans hk
    have hVi : I pre V := by rw [← hV]; exact hI.putObj _ hi (by omega) hl rfl
    have hVw : Kp W V := by rw [← hV]; exact hKb _ _ _ _ (by omega) hl rfl rfl
    rw [hV]
    refine wpIn_mono (hbody _ pre x _ hVi hlen) ?_
    have fin : ∀ (jump : Option Code) (X : World), KeepsOthers V X → ∀ (Ij : World → Prop), Ij X → (∀ o', Ij X → Ij (X.putObj (w.heap.size + 1) o')) →
        (Instr.endRound (w.heap.size + 1) jump).run P X = .ok (.bool jump.isNone) (X.putObj (w.heap.size + 1) (.loop (R (if jump.isNone then .ready else .done) jump))) ∧
        X.heap[w.heap.size + 1]? = some (.loop (R .busy none)) ∧ Ij (X.putObj (w.heap.size + 1) (.loop (R (if jump.isNone then .ready else .done) jump))) ∧
        (X.putObj (w.heap.size + 1) (.loop (R (if jump.isNone then .ready else .done) jump))).heap[w.heap.size + 1]? = some (.loop (R (if jump.isNone then .ready else .done) jump)) ∧
        (X.putObj (w.heap.size + 1) (.loop (R (if jump.isNone then .ready else .done) jump))).heap[w.heap.size]? = some (.deferred (some [])) := fun jump X hkX Ij hj hjo => by
      have hXl := hkX.same _ _ hVl rfl
      exact ⟨run_endRound (P := P) jump hXl, hXl, hjo _ hj, World.putObj_heap_same (Array.getElem?_eq_some_iff.1 hXl).1, (World.putObj_heap_other (by omega)).trans (hkX.same _ _ hVk rfl)⟩
    have own : ∀ (c : Code) (X : World), KeepsOthers V X → ∀ o', Ix c (pre ++ [x]) X → Ix c (pre ++ [x]) (X.putObj (w.heap.size + 1) o') :=
      fun c X hkX o' h => (hIx c).putObj _ h (by omega) (hkX.same _ _ hVl rfl) rfl
    rintro e a3 X hp
    cases e with
    | normal =>
      obtain ⟨hkX, hwX, hiX⟩ := hp
      obtain ⟨hr, hXl, hi', hl', hk'⟩ := fin none X hkX (I (pre ++ [x])) hiX (fun o' h => hI.putObj _ h (by omega) (hkX.same _ _ hVl rfl) rfl)
      exact ⟨_, _, hr, .inl ⟨rfl, ⟨hi', hl', hk'⟩, hKt (hKt hVw hwX) (hKb _ _ _ _ (by omega) hXl rfl rfl)⟩⟩
    | ret =>
      obtain ⟨hr, _, hi', hl', hk'⟩ := fin (some .ret) X hp.1 (Ix .ret (pre ++ [x])) hp.2 (fun o' h => own _ X hp.1 o' h)
      exact ⟨_, _, hr, .inr ⟨rfl, .ret, hi', hl', hk'⟩⟩
    | exit id =>
      obtain ⟨hr, _, hi', hl', hk'⟩ := fin (some (.exit id)) X hp.1 (Ix (.exit id) (pre ++ [x])) hp.2 (fun o' h => own _ X hp.1 o' h)
      exact ⟨_, _, hr, .inr ⟨rfl, .exit id, hi', hl', hk'⟩⟩
    | goto t =>
      obtain ⟨hr, _, hi', hl', hk'⟩ := fin (some (.goto t)) X hp.1 (Ix (.goto t) (pre ++ [x])) hp.2 (fun o' h => own _ X hp.1 o' h)
      exact ⟨_, _, hr, .inr ⟨rfl, .goto t, hi', hl', hk'⟩⟩
    | panic ch => exact hp.elim
    | outgrown => exact hp.elim
  have hb1 : Below w0.heap.size w0 W1 := by rw [← hW1]; exact hb0.trans ((((Below.refl _ w).alloc (Nat.le_refl _) _).alloc (by simp) _).mono hb0.size)
  have hI1 : I [] W1 := by rw [← hW1]; exact hI.alloc _ (hI.alloc _ h0)
  refine (hseq (w.heap.size + 1) Jn Jd W1 hb1
    (fun s A B row hs hg' hr => ⟨hI s A B row hs.1 hg' (walks hr), (grownBy_keeps hg' (fun r e => (hr r e).2) hs.2.1 rfl).trans hs.2.1, (grownBy_keeps hg' (fun r e => (hr r e).2) hs.2.2 rfl).trans hs.2.2⟩)
    (fun s A B row hs hg' hr => by
      obtain ⟨c, hc, hl, hk⟩ := hs
      exact ⟨c, hIx c s A B row hc hg' (walks hr), (grownBy_keeps hg' (fun r e => (hr r e).2) hl rfl).trans hl, (grownBy_keeps hg' (fun r e => (hr r e).2) hk rfl).trans hk⟩)
    (fun s A B hs hst => ⟨hIs s A B hs.1 hst, (hSt A B _ hst (by omega)).trans hs.2.1, (hSt A B _ hst (by omega)).trans hs.2.2⟩)
    (fun s A B hs hst => by
      obtain ⟨c, hc, hl, hk⟩ := hs
      exact ⟨c, hIxs c s A B hc hst, (hSt A B _ hst (by omega)).trans hl, (hSt A B _ hst (by omega)).trans hk⟩)
    round ⟨hI1, hL1, hK1⟩).mono ?_
  rintro e X ⟨⟨v, rfl⟩, (⟨xs, hS, hi, hl, hk⟩ | ⟨pre, hSp, c, hi, hl, hk⟩)⟩
  · exact ⟨none, _, run_endLoop (P := P) hl (by rw [hR]; simp), hdone _ xs _ (Nat.le_refl _) hS (hI.putObj _ hi (by omega) hl rfl) ((World.putObj_heap_other (by omega)).trans hk)⟩
  · exact ⟨some c, _, run_endLoop (P := P) hl (by rw [hR]; simp), hstop _ c pre _ (Nat.le_refl _) hSp ((hIx c).putObj _ hi (by omega) hl rfl) ((World.putObj_heap_other (by omega)).trans hk)⟩
end Go.Proofs.YtdeompnaojiajaaDoor
