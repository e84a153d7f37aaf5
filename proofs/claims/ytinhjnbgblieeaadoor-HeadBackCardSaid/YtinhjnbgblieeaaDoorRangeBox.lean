/- A range over an iterator of texts that keeps its own state in a box: the caller's law. -/
import Derived.RangeFuncNested
import Derived.RangeFuncBound
import Derived.RangeFuncCalls
import Derived.RangeFuncLeaves
import Derived.RangeFuncFrom
import Derived.Test.YtinhjnbgblieeaaDoorChecked
namespace Go.Proofs.YtinhjnbgblieeaaDoor
open Go.RowKit
set_option linter.unusedVariables false
set_option linter.unusedSimpArgs false
section
variable {F : Fence} {n : Nat} {P : Program}

/-- The iterator's contract: what the caller says between two rounds abides a store into the iterator's own box B. -/
def BoxSeq (F : Fence) (n : Nat) (P : Program) (g : Nat) (lb : Array Value) (B n₀ : Nat) (S Sp : List ByteArray → Prop) (w : World) : Prop :=
  ∀ (l : Nat) (J Jx : List ByteArray → World → Prop) (W : World), Below w.heap.size w W → AbidesFrom W.heap.size J → AbidesFrom W.heap.size Jx →
    (∀ s W v, J s W → J s (W.setCell ⟨B, 0, none⟩ v)) →
    (∀ pre x W1, J pre W1 → YieldAt F (n - 1) P l #[.string x] W1 fun e W' =>
      (e = .returned (.bool true) ∧ J (pre ++ [x]) W' ∧ Below n₀ W1 W') ∨ (e = .returned (.bool false) ∧ Jx (pre ++ [x]) W')) →
    J [] W →
    CallsIn F n P g (#[.func (.yield l) #[] #[]] ++ lb) W fun e W' => (∃ v, e = .returned v) ∧ ((∃ xs, S xs ∧ J xs W') ∨ (∃ pre, Sp pre ∧ Jx pre W'))

/-- How a round of the caller's body may end. -/
def boxPost (n₀ : Nat) (I : List ByteArray → World → Prop) (Ix : List ByteArray → World → Prop) (xs : List ByteArray) (W : World) : Exit → Act → World → Prop
  | .normal, _, W' => KeepsOthers W W' ∧ Below n₀ W W' ∧ I xs W'
  | .ret, _, W' => KeepsOthers W W' ∧ Ix xs W'
  | _, _, _ => False
theorem wpIn_rangeBox {g : Operand} {ps : Array Tmp} {assign body : Code} {Q : Exit → Act → World → Prop} {a : Act} {w : World}
    (hro : F.round = none) (h1 : 1 ≤ n) {gf : Nat} {lb : Array Value} (hg : a.eval g = .func (.func gf) #[] lb) (hFg : F.fn gf) (eg : ∀ args w, (callFunc gf args).run P w = .ok (.enter gf args) w)
    {B n₀ : Nat} {S Sp : List ByteArray → Prop} (hseq : BoxSeq F (n - 1) P gf lb B n₀ S Sp w) (hn₀ : n₀ ≤ w.heap.size) (hBw : B < w.heap.size) (hps : ps.size = 1)
    (I Ix : List ByteArray → World → Prop) (hI : OwnFrom w.heap.size I) (hIx : OwnFrom w.heap.size Ix) (hIB : ∀ s W v, I s W → I s (W.setCell ⟨B, 0, none⟩ v)) (h0 : I [] w) (a₁ : ByteArray → Act)
    (hassign : ∀ (l : Nat) (x : ByteArray) (W : World) (K : Act → World → Prop), K (a₁ x) W →
      assign.wpIn (F.inRound l) (n - 1 - 1) P (Exit.then K (fun _ _ _ => False)) { tmps := (ps.zip #[.string x]).foldl (fun t (p, v) => t.setIfInBounds p v) a.tmps, defers := [] } W)
    (hbody : ∀ (l : Nat) (pre : List ByteArray) (x : ByteArray) (W : World), I pre W → body.wpIn (F.inRound l) (n - 1 - 1) P (boxPost n₀ I Ix (pre ++ [x]) W) (a₁ x) W)
    (hdone : ∀ (D : Nat) (xs : List ByteArray) (W : World), w.heap.size ≤ D → S xs → I xs W → W.heap[D]? = some (.deferred (some [])) → Q .normal { a with defers := { target := .collected D, args := #[] } :: a.defers } W)
    (hstop : ∀ (D : Nat) (pre : List ByteArray) (W : World), w.heap.size ≤ D → Sp pre → Ix pre W → W.heap[D]? = some (.deferred (some [])) → Code.ret.wpIn F n P Q { a with defers := { target := .collected D, args := #[] } :: a.defers } W) :
    (Code.rangeFunc g ps assign body).wpIn F n P Q a w := by
  refine wpIn_rangeFunc fun fn hfn => ?_
  rw [hro]
  obtain ⟨mk, hmk⟩ : ∃ mk : LoopState → Option Code → Loop, mk = fun st pe => { state := st, pending := pe, fn, tmps := a.tmps, params := ps, assign, body, defers := w.heap.size } := ⟨_, rfl⟩
  obtain ⟨d, hd⟩ : ∃ d, d = w.heap.size := ⟨_, rfl⟩
  obtain ⟨W1, hW1⟩ : ∃ W1, (w.alloc (.deferred (some []))).alloc (.loop (mk .ready none)) = W1 := ⟨_, rfl⟩
  -- the two blocks of book-keeping
  let Bk : Loop → World → Prop := fun r W => W.heap[d + 1]? = some (.loop r) ∧ W.heap[d]? = some (.deferred (some []))
  have hBk1 : Bk (mk .ready none) W1 := by
    refine ⟨?_, ?_⟩
    · rw [← hW1, hd]; have := World.alloc_heap_new (w.alloc (.deferred (some []))) (.loop (mk .ready none)); rwa [World.size_alloc] at this
    · rw [← hW1, hd]; exact (Below.heap_alloc _ _ _ (by simp)).trans (World.alloc_heap_new w _)
  have hsz1 : W1.heap.size = d + 2 := by rw [← hW1, hd]; simp
  have hI1 : I [] W1 := by rw [← hW1]; exact hI.alloc _ (hI.alloc _ h0)
  have hb1 : Below w.heap.size w W1 := by rw [← hW1]; exact ((Below.refl _ w).alloc (Nat.le_refl _) _).alloc (by simp) _
  have keepBk : ∀ (r : Loop) (X Y : World) (row : Option Nat), X.grownBy Y row → (∀ k, row = some k → W1.heap.size ≤ k ∧ ∃ o : Obj, X.heap[k]? = some o ∧ o.isWalk = true) → Bk r X → Bk r Y := fun r X Y row hgr hr hb =>
    ⟨(grownBy_keeps hgr (fun k e => (hr k e).2) hb.1 rfl).trans hb.1, (grownBy_keeps hgr (fun k e => (hr k e).2) hb.2 rfl).trans hb.2⟩
  have low : ∀ {X : World} {row : Option Nat}, (∀ k, row = some k → W1.heap.size ≤ k ∧ ∃ o : Obj, X.heap[k]? = some o ∧ o.isWalk = true) → (∀ k, row = some k → w.heap.size ≤ k ∧ ∃ o : Obj, X.heap[k]? = some o ∧ o.isCells = false) :=
    fun hr k e => by obtain ⟨h1, o, ho, hw⟩ := hr k e; exact ⟨by omega, o, ho, Obj.not_cells_of_walk hw⟩
  refine ⟨d + 1, [{ target := .collected d, args := #[] }], W1, { target := .fn (.func gf) lb, args := #[.func (.yield (d + 1)) #[] #[]] }, W1, gf, #[.func (.yield (d + 1)) #[] #[]] ++ lb, W1, ?_, ?_, ?_, ?_, fun _ => h1, ?_⟩
  · rw [← hW1, hmk, hd]; exact run_enterLoop_outer _ _ _ _ _
  · simp only [resolve, hg]
    simp [go_sem]
  · intro f' hf'; simp [Target.leads] at hf'; subst hf'; exact hFg
  · simp [invoke, go_sem, eg]
  · refine (hseq (d + 1) (fun pre W => I pre W ∧ Bk (mk .ready none) W) (fun pre W => Ix pre W ∧ Bk (mk .done (some .ret)) W) W1 hb1
      (fun s X Y row hs hgr hr => ⟨hI s X Y row hs.1 hgr (low hr), keepBk _ X Y row hgr hr hs.2⟩) (fun s X Y row hs hgr hr => ⟨hIx s X Y row hs.1 hgr (low hr), keepBk _ X Y row hgr hr hs.2⟩)
      (fun s X v hs => ⟨hIB s X v hs.1, (Below.heap_setCell _ _ _ _ (by show d + 1 ≠ B; omega)).trans hs.2.1, (Below.heap_setCell _ _ _ _ (by show d ≠ B; omega)).trans hs.2.2⟩) ?_ ⟨hI1, hBk1⟩).mono ?_
    · -- a round
      rintro pre x W ⟨hi, hl, hk⟩
      have hlt : d + 1 < W.heap.size := (Array.getElem?_eq_some_iff.1 hl).1
      have hy := run_yield (P := P) (args := #[.string x]) hl (by rw [hmk]; simp [hps])
      rw [hmk] at hy
      refine ⟨fn, _, assign, body, hy, roundIn_of_wpIn hfn (hassign _ x W _ ⟨_, run_beginRound hl (by rw [hmk]), ?_⟩)⟩
      obtain ⟨busy, hbusy⟩ : ∃ r : Loop, r = { mk .ready none with state := .busy } := ⟨_, rfl⟩
      rw [← hbusy]
      have b1 : Bk busy (W.putObj (d + 1) (.loop busy)) := ⟨World.putObj_heap_same hlt, (World.putObj_heap_other (by omega)).trans hk⟩
      have kp : ∀ (X : World) (o o' : Obj), X.heap[d + 1]? = some o → o.isCells = false → o.isWalk = false → Below n₀ X (X.putObj (d + 1) o') := fun X o o' h h1 h2 => belowK_b (w := w) hn₀ X (d + 1) o o' (by omega) h h1 h2
      refine wpIn_mono (hbody _ pre x _ (hI.putObj _ hi (by omega) hl rfl)) ?_
      rintro e a3 W3 hp
      have fin : ∀ (jump : Option Code), KeepsOthers (W.putObj (d + 1) (.loop busy)) W3 →
          (Instr.endRound (d + 1) jump).run P W3 = .ok (.bool jump.isNone) (W3.putObj (d + 1) (.loop (mk (if jump.isNone then .ready else .done) jump))) ∧ W3.heap[d + 1]? = some (.loop busy) ∧
          Bk (mk (if jump.isNone then .ready else .done) jump) (W3.putObj (d + 1) (.loop (mk (if jump.isNone then .ready else .done) jump))) := fun jump h3 => by
        have l3 := h3.same _ _ b1.1 rfl
        have hr := run_endRound (P := P) jump l3
        rw [hbusy, hmk] at hr
        rw [hmk]
        exact ⟨hr, l3, World.putObj_heap_same (Array.getElem?_eq_some_iff.1 l3).1, (World.putObj_heap_other (by omega)).trans (h3.same _ _ b1.2 rfl)⟩
      cases e with
      | normal =>
        obtain ⟨h3, k3, i3⟩ := hp
        obtain ⟨hr, l3, bk⟩ := fin none h3
        exact ⟨_, _, hr, .inl ⟨rfl, ⟨hI.putObj _ i3 (by omega) l3 rfl, bk⟩, ((kp W _ _ hl rfl rfl).trans k3).trans (kp W3 _ _ l3 rfl rfl)⟩⟩
      | ret =>
        obtain ⟨h3, i3⟩ := hp
        obtain ⟨hr, l3, bk⟩ := fin (some .ret) h3
        exact ⟨_, _, hr, .inr ⟨rfl, hIx.putObj _ i3 (by omega) l3 rfl, bk⟩⟩
      | exit id => exact hp.elim
      | goto t => exact hp.elim
      | panic ch => exact hp.elim
      | outgrown => exact hp.elim
    · -- behind the iterator
      rintro e W2 ⟨⟨v, rfl⟩, (⟨xs, hS, hi, hl, hk⟩ | ⟨pre, hSp, hi, hl, hk⟩)⟩
      · have hr := run_endLoop (P := P) hl (by rw [hmk]; simp)
        rw [hmk] at hr
        have hq := hdone d xs _ (by omega) hS (hI.putObj (.loop { mk .ready none with state := .exhausted }) hi (by omega) hl rfl) ((World.putObj_heap_other (by omega)).trans hk)
        rw [hmk] at hq
        exact ⟨none, _, hr, hq⟩
      · have hr := run_endLoop (P := P) hl (by rw [hmk]; simp)
        rw [hmk] at hr
        have hq := hstop d pre _ (by omega) hSp (hIx.putObj (.loop { mk .done (some .ret) with state := .exhausted }) hi (by omega) hl rfl) ((World.putObj_heap_other (by omega)).trans hk)
        rw [hmk] at hq
        exact ⟨some .ret, _, hr, hq⟩
end
end Go.Proofs.YtinhjnbgblieeaaDoor
