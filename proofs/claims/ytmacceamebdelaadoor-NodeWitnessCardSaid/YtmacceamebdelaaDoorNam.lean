/- Texts put together: RangeBox Split DiskLaw NamedR Rowk. -/
import Derived.RangeFuncNested
import Derived.RangeFuncBound
import Derived.RangeFuncCalls
import Derived.RangeFuncLeaves
import Derived.RangeFuncFrom
import Derived.Test.YtmacceamebdelaaDoorChecked
import Derived.Lib.Bytealg
import Derived.Laws.Externs
import Derived.Lib.Hide
import Derived.Test.YtmacceamebdelaaDoorBas
import Derived.Shelf.Abstract
import Derived.Shelf.RegionOpen
import Derived.WalkKit
import Derived.OwnWalkIn
import Derived.TacticsInMore
import Derived.LoopNIn
import Derived.LoopIn
import Derived.Laws.CopyRow
import Derived.Laws.AppendOwn
import Derived.Lib.Overlaps
import Derived.Lib.AppendZerosOnto
/-! RangeBox -/
namespace Go.Proofs.YtmacceamebdelaaDoor
open Go.RowKit
set_option linter.unusedVariables false
set_option linter.unusedSimpArgs false
section
variable {F : Fence} {n : Nat} {P : Program}

/-- The iterator's contract: what the caller says between two rounds abides a store into the iterator's own box B. -/
def BoxSeq (F : Fence) (n : Nat) (P : Program) (g : Nat) (lb : Array Value) (B n₀ : Nat) (S Sp : List ByteArray → Prop) (w : World) : Prop :=
  ∀ (l : Nat) (J Jx : List ByteArray → World → Prop) (W : World), Below w.heap.size w W → AbidesFrom W.heap.size J → AbidesFrom W.heap.size Jx →
    (∀ s W v, J s W → J s (W.setCell ⟨B, 0, none⟩ v)) →
    (∀ pre x W1, J pre W1 → YieldAt F (n - 1) P l #[.string x] W1 fun e W' =>
      (e = .returned (.bool true) ∧ J (pre ++ [x]) W' ∧ Below n₀ W1 W') ∨ (e = .returned (.bool false) ∧ Jx (pre ++ [x]) W')) →
    J [] W →
    CallsIn F n P g (#[.func (.yield l) #[] #[]] ++ lb) W fun e W' => (∃ v, e = .returned v) ∧ ((∃ xs, S xs ∧ J xs W') ∨ (∃ pre, Sp pre ∧ Jx pre W'))

/-- How a round of the caller's body may end. -/
def boxPost (n₀ : Nat) (I : List ByteArray → World → Prop) (Ix : List ByteArray → World → Prop) (xs : List ByteArray) (W : World) : Exit → Act → World → Prop
  | .normal, _, W' => KeepsOthers W W' ∧ Below n₀ W W' ∧ I xs W'
  | .ret, _, W' => KeepsOthers W W' ∧ Ix xs W'
  | _, _, _ => False
theorem wpIn_rangeBox {g : Operand} {ps : Array Tmp} {assign body : Code} {Q : Exit → Act → World → Prop} {a : Act} {w : World}
    (hro : F.round = none) (h1 : 1 ≤ n) {gf : Nat} {lb : Array Value} (hg : a.eval g = .func (.func gf) #[] lb) (hFg : F.fn gf) (eg : ∀ args w, (callFunc gf args).run P w = .ok (.enter gf args) w)
    {B n₀ : Nat} {S Sp : List ByteArray → Prop} (hseq : BoxSeq F (n - 1) P gf lb B n₀ S Sp w) (hn₀ : n₀ ≤ w.heap.size) (hBw : B < w.heap.size) (hps : ps.size = 1)
    (I Ix : List ByteArray → World → Prop) (hI : OwnFrom w.heap.size I) (hIx : OwnFrom w.heap.size Ix) (hIB : ∀ s W v, I s W → I s (W.setCell ⟨B, 0, none⟩ v)) (h0 : I [] w) (a₁ : ByteArray → Act)
    (hassign : ∀ (l : Nat) (x : ByteArray) (W : World) (K : Act → World → Prop), K (a₁ x) W →
      assign.wpIn (F.inRound l) (n - 1 - 1) P (Exit.then K (fun _ _ _ => False)) { tmps := (ps.zip #[.string x]).foldl (fun t (p, v) => t.setIfInBounds p v) a.tmps, defers := [] } W)
    (hbody : ∀ (l : Nat) (pre : List ByteArray) (x : ByteArray) (W : World), I pre W → body.wpIn (F.inRound l) (n - 1 - 1) P (boxPost n₀ I Ix (pre ++ [x]) W) (a₁ x) W)
    (hdone : ∀ (D : Nat) (xs : List ByteArray) (W : World), w.heap.size ≤ D → S xs → I xs W → W.heap[D]? = some (.deferred (some [])) → Q .normal { a with defers := { target := .collected D, args := #[] } :: a.defers } W)
    (hstop : ∀ (D : Nat) (pre : List ByteArray) (W : World), w.heap.size ≤ D → Sp pre → Ix pre W → W.heap[D]? = some (.deferred (some [])) → Code.ret.wpIn F n P Q { a with defers := { target := .collected D, args := #[] } :: a.defers } W) :
    (Code.rangeFunc g ps assign body).wpIn F n P Q a w := by
  refine wpIn_rangeFunc fun fn hfn => ?_
  rw [hro]
  obtain ⟨mk, hmk⟩ : ∃ mk : LoopState → Option Code → Loop, mk = fun st pe => { state := st, pending := pe, fn, tmps := a.tmps, params := ps, assign, body, defers := w.heap.size } := ⟨_, rfl⟩
  obtain ⟨d, hd⟩ : ∃ d, d = w.heap.size := ⟨_, rfl⟩
  obtain ⟨W1, hW1⟩ : ∃ W1, (w.alloc (.deferred (some []))).alloc (.loop (mk .ready none)) = W1 := ⟨_, rfl⟩
  -- the two blocks of book-keeping
  let Bk : Loop → World → Prop := fun r W => W.heap[d + 1]? = some (.loop r) ∧ W.heap[d]? = some (.deferred (some []))
  have hBk1 : Bk (mk .ready none) W1 := by
    refine ⟨?_, ?_⟩
    · rw [← hW1, hd]; have := World.alloc_heap_new (w.alloc (.deferred (some []))) (.loop (mk .ready none)); rwa [World.size_alloc] at this
    · rw [← hW1, hd]; exact (Below.heap_alloc _ _ _ (by simp)).trans (World.alloc_heap_new w _)
  have hsz1 : W1.heap.size = d + 2 := by rw [← hW1, hd]; simp
  have hI1 : I [] W1 := by rw [← hW1]; exact hI.alloc _ (hI.alloc _ h0)
  have hb1 : Below w.heap.size w W1 := by rw [← hW1]; exact ((Below.refl _ w).alloc (Nat.le_refl _) _).alloc (by simp) _
  have keepBk : ∀ (r : Loop) (X Y : World) (row : Option Nat), X.grownBy Y row → (∀ k, row = some k → W1.heap.size ≤ k ∧ ∃ o : Obj, X.heap[k]? = some o ∧ o.isWalk = true) → Bk r X → Bk r Y := fun r X Y row hgr hr hb =>
    ⟨(grownBy_keeps hgr (fun k e => (hr k e).2) hb.1 rfl).trans hb.1, (grownBy_keeps hgr (fun k e => (hr k e).2) hb.2 rfl).trans hb.2⟩
  have low : ∀ {X : World} {row : Option Nat}, (∀ k, row = some k → W1.heap.size ≤ k ∧ ∃ o : Obj, X.heap[k]? = some o ∧ o.isWalk = true) → (∀ k, row = some k → w.heap.size ≤ k ∧ ∃ o : Obj, X.heap[k]? = some o ∧ o.isCells = false) :=
    fun hr k e => by obtain ⟨h1, o, ho, hw⟩ := hr k e; exact ⟨by omega, o, ho, Obj.not_cells_of_walk hw⟩
  refine ⟨d + 1, [{ target := .collected d, args := #[] }], W1, { target := .fn (.func gf) lb, args := #[.func (.yield (d + 1)) #[] #[]] }, W1, gf, #[.func (.yield (d + 1)) #[] #[]] ++ lb, W1, ?_, ?_, ?_, ?_, fun _ => h1, ?_⟩
  · rw [← hW1, hmk, hd]; exact run_enterLoop_outer _ _ _ _ _
  · simp only [resolve, hg]
    simp [go_sem]
  · intro f' hf'; simp [Target.leads] at hf'; subst hf'; exact hFg
  · simp [invoke, go_sem, eg]
  · refine (hseq (d + 1) (fun pre W => I pre W ∧ Bk (mk .ready none) W) (fun pre W => Ix pre W ∧ Bk (mk .done (some .ret)) W) W1 hb1
      (fun s X Y row hs hgr hr => ⟨hI s X Y row hs.1 hgr (low hr), keepBk _ X Y row hgr hr hs.2⟩) (fun s X Y row hs hgr hr => ⟨hIx s X Y row hs.1 hgr (low hr), keepBk _ X Y row hgr hr hs.2⟩)
      (fun s X v hs => ⟨hIB s X v hs.1, (Below.heap_setCell _ _ _ _ (by show d + 1 ≠ B; omega)).trans hs.2.1, (Below.heap_setCell _ _ _ _ (by show d ≠ B; omega)).trans hs.2.2⟩) ?_ ⟨hI1, hBk1⟩).mono ?_
    · -- a round
      rintro pre x W ⟨hi, hl, hk⟩
      have hlt : d + 1 < W.heap.size := (Array.getElem?_eq_some_iff.1 hl).1
      have hy := run_yield (P := P) (args := #[.string x]) hl (by rw [hmk]; simp [hps])
      rw [hmk] at hy
      refine ⟨fn, _, assign, body, hy, roundIn_of_wpIn hfn (hassign _ x W _ ⟨_, run_beginRound hl (by rw [hmk]), ?_⟩)⟩
      obtain ⟨busy, hbusy⟩ : ∃ r : Loop, r = { mk .ready none with state := .busy } := ⟨_, rfl⟩
      rw [← hbusy]
      have b1 : Bk busy (W.putObj (d + 1) (.loop busy)) := ⟨World.putObj_heap_same hlt, (World.putObj_heap_other (by omega)).trans hk⟩
      have kp : ∀ (X : World) (o o' : Obj), X.heap[d + 1]? = some o → o.isCells = false → o.isWalk = false → Below n₀ X (X.putObj (d + 1) o') := fun X o o' h h1 h2 => belowK_b (w := w) hn₀ X (d + 1) o o' (by omega) h h1 h2
      refine wpIn_mono (hbody _ pre x _ (hI.putObj _ hi (by omega) hl rfl)) ?_
      rintro e a3 W3 hp
      have fin : ∀ (jump : Option Code), KeepsOthers (W.putObj (d + 1) (.loop busy)) W3 →
          (Instr.endRound (d + 1) jump).run P W3 = .ok (.bool jump.isNone) (W3.putObj (d + 1) (.loop (mk (if jump.isNone then .ready else .done) jump))) ∧ W3.heap[d + 1]? = some (.loop busy) ∧
          Bk (mk (if jump.isNone then .ready else .done) jump) (W3.putObj (d + 1) (.loop (mk (if jump.isNone then .ready else .done) jump))) := fun jump h3 => by
        have l3 := h3.same _ _ b1.1 rfl
        have hr := run_endRound (P := P) jump l3
        rw [hbusy, hmk] at hr
        rw [hmk]
        exact ⟨hr, l3, World.putObj_heap_same (Array.getElem?_eq_some_iff.1 l3).1, (World.putObj_heap_other (by omega)).trans (h3.same _ _ b1.2 rfl)⟩
      cases e with
      | normal =>
        obtain ⟨h3, k3, i3⟩ := hp
        obtain ⟨hr, l3, bk⟩ := fin none h3
        exact ⟨_, _, hr, .inl ⟨rfl, ⟨hI.putObj _ i3 (by omega) l3 rfl, bk⟩, ((kp W _ _ hl rfl rfl).trans k3).trans (kp W3 _ _ l3 rfl rfl)⟩⟩
      | ret =>
        obtain ⟨h3, i3⟩ := hp
        obtain ⟨hr, l3, bk⟩ := fin (some .ret) h3
        exact ⟨_, _, hr, .inr ⟨rfl, hIx.putObj _ i3 (by omega) l3 rfl, bk⟩⟩
      | exit id => exact hp.elim
      | goto t => exact hp.elim
      | panic ch => exact hp.elim
      | outgrown => exact hp.elim
    · -- behind the iterator
      rintro e W2 ⟨⟨v, rfl⟩, (⟨xs, hS, hi, hl, hk⟩ | ⟨pre, hSp, hi, hl, hk⟩)⟩
      · have hr := run_endLoop (P := P) hl (by rw [hmk]; simp)
        rw [hmk] at hr
        have hq := hdone d xs _ (by omega) hS (hI.putObj (.loop { mk .ready none with state := .exhausted }) hi (by omega) hl rfl) ((World.putObj_heap_other (by omega)).trans hk)
        rw [hmk] at hq
        exact ⟨none, _, hr, hq⟩
      · have hr := run_endLoop (P := P) hl (by rw [hmk]; simp)
        rw [hmk] at hr
        have hq := hstop d pre _ (by omega) hSp (hIx.putObj (.loop { mk .done (some .ret) with state := .exhausted }) hi (by omega) hl rfl) ((World.putObj_heap_other (by omega)).trans hk)
        rw [hmk] at hq
        exact ⟨some .ret, _, hr, hq⟩
end
end Go.Proofs.YtmacceamebdelaaDoor
/-! Split -/
namespace Go.Proofs.YtmacceamebdelaaDoor
open Go.RowKit Go.Shelf
attribute [local go_sem] Oper.semAt_some
set_option linter.unusedVariables false
set_option linter.unusedSimpArgs false

def slashAt (s : ByteArray) : Int := Lib.indexByte s.data.toList 47
theorem slash_self : slashAt ⟨#[47]⟩ = 0 := by decide +kernel
/-- The pieces of a text between the slashes. -/
def cutN : Nat → ByteArray → List ByteArray
  | 0, s => [s]
  | n + 1, s => if slashAt s < 0 then [s] else s.extract 0 (slashAt s).toNat :: cutN n (s.extract ((slashAt s).toNat + 1) s.size)
def pieces (s : ByteArray) : List ByteArray := cutN s.size s
theorem index_bound : ∀ (l : List UInt8) (c : UInt8), Lib.indexByte l c < (l.length : Int)
  | [], c => by simp [Lib.indexByte]
  | b :: l, c => by
    have := index_bound l c
    unfold Lib.indexByte
    simp only [List.length_cons]
    split
    · omega
    · split <;> omega
theorem slash_bound (s : ByteArray) : slashAt s < (s.size : Int) := index_bound _ _
theorem slash_ge (s : ByteArray) : -1 ≤ slashAt s := Lib.indexByte_ge _ _
def curOf (B : Nat) (w : World) : Nat := match w.cell? ⟨B, 0, none⟩ with | some (.string s) => s.size | _ => 0
theorem curOf_eq {B : Nat} {w : World} {s : ByteArray} (h : w.cell? ⟨B, 0, none⟩ = some (.string s)) : curOf B w = s.size := by unfold curOf; rw [h]
theorem cell_set_ne {w : World} {b B o : Nat} {u v : Value} (hne : b ≠ B) (h : w.cell? ⟨b, o, none⟩ = some v) : (w.setCell ⟨B, 0, none⟩ u).cell? ⟨b, o, none⟩ = some v := by
  have hb := Below.heap_setCell w ⟨B, 0, none⟩ u b hne
  unfold World.cell? at h ⊢
  rw [hb]
  exact h
end Go.Proofs.YtmacceamebdelaaDoor
/-! DiskLaw -/
namespace Go.Proofs.YtmacceamebdelaaDoor
set_option linter.unusedVariables false
set_option linter.unusedSimpArgs false

/-! The order of texts. -/
theorem bl_irr : ∀ a : List UInt8, Op.bytesLess a a = false
  | [] => rfl
  | x :: a => by simp [Op.bytesLess, bl_irr a]
theorem bl_trans : ∀ a b c : List UInt8, Op.bytesLess a b = true → Op.bytesLess b c = true → Op.bytesLess a c = true
  | _, _, [], _, h => by simp [Op.bytesLess] at h
  | _, [], _ :: _, h, _ => by simp [Op.bytesLess] at h
  | [], _ :: _, _ :: _, _, _ => rfl
  | x :: a, y :: b, z :: c, h, k => by
    simp only [Op.bytesLess, Bool.or_eq_true, decide_eq_true_eq, Bool.and_eq_true, beq_iff_eq] at h k ⊢
    rcases h with h | ⟨rfl, h⟩
    · rcases k with k | ⟨rfl, k⟩
      · exact .inl (UInt8.lt_trans h k)
      · exact .inl h
    · rcases k with k | ⟨rfl, k⟩
      · exact .inl k
      · exact .inr ⟨rfl, bl_trans a b c h k⟩
theorem bl_tri : ∀ a b : List UInt8, Op.bytesLess a b = true ∨ a = b ∨ Op.bytesLess b a = true
  | [], [] => .inr (.inl rfl)
  | [], _ :: _ => .inl rfl
  | _ :: _, [] => .inr (.inr rfl)
  | x :: a, y :: b => by
    simp only [Op.bytesLess, Bool.or_eq_true, decide_eq_true_eq, Bool.and_eq_true, beq_iff_eq, List.cons.injEq]
    by_cases h : x = y
    · subst h
      rcases bl_tri a b with h | h | h
      · exact .inl (.inr ⟨rfl, h⟩)
      · exact .inr (.inl ⟨rfl, h⟩)
      · exact .inr (.inr (.inr ⟨rfl, h⟩))
    · rcases UInt8.lt_or_lt_of_ne h with h' | h'
      · exact .inl (.inl h')
      · exact .inr (.inr (.inl h'))
theorem cmp_bl : ∀ a b : List UInt8, Lib.compareBytes a b = if Op.bytesLess a b = true then -1 else if a = b then 0 else 1
  | [], [] => rfl
  | [], _ :: _ => rfl
  | _ :: _, [] => rfl
  | x :: a, y :: b => by
    simp only [Op.bytesLess, Lib.compareBytes, Bool.or_eq_true, decide_eq_true_eq, Bool.and_eq_true, beq_iff_eq, List.cons.injEq]
    by_cases h : x = y
    · subst h
      simp [UInt8.lt_irrefl, cmp_bl a b]
    · rcases UInt8.lt_or_lt_of_ne h with h' | h'
      · simp [h']
      · have : ¬ x < y := fun k => absurd (UInt8.lt_trans k h') (UInt8.lt_irrefl _)
        simp [h, h', this]
/-- The order of names. -/
def lt (a b : ByteArray) : Prop := Op.bytesLess a.toList b.toList = true
instance (a b : ByteArray) : Decidable (lt a b) := inferInstanceAs (Decidable (_ = true))
theorem toList_inj {s t : ByteArray} (h : s.toList = t.toList) : s = t := by
  rw [ByteArray.toList_eq, ByteArray.toList_eq] at h
  exact bs_ext h
theorem lt_irr (a : ByteArray) : ¬ lt a a := by simp [lt, bl_irr]
theorem lt_trans {a b c : ByteArray} (h : lt a b) (k : lt b c) : lt a c := bl_trans _ _ _ h k
theorem lt_tri (a b : ByteArray) : lt a b ∨ a = b ∨ lt b a := (bl_tri a.toList b.toList).imp id (Or.imp toList_inj id)
theorem lt_asym {a b : ByteArray} (h : lt a b) : ¬ lt b a := fun k => lt_irr a (lt_trans h k)
theorem lt_ne {a b : ByteArray} (h : lt a b) : a ≠ b := fun e => lt_irr b (e ▸ h)
theorem not_lt {a b : ByteArray} (h : ¬ lt a b) : a = b ∨ lt b a := (lt_tri a b).resolve_left h
theorem cmp_lt (a b : ByteArray) : Lib.compareBytes a.data.toList b.data.toList = if lt a b then -1 else if a = b then 0 else 1 := by
  rw [cmp_bl, ← ByteArray.toList_eq, ← ByteArray.toList_eq]
  unfold lt
  by_cases h : a = b
  · subst h; simp
  · have : ¬ a.toList = b.toList := fun e => h (toList_inj e)
    simp [h, this]

/-! Lists that are sorted by a name. -/
section
variable {α : Type} (nm : α → ByteArray)
def Srt (l : List α) : Prop := l.Pairwise (fun f g => lt (nm f) (nm g))
def getL (n : ByteArray) (l : List α) : Option α := l.find? (fun f => decide (nm f = n))
def putL (f : α) : List α → List α
  | [] => [f]
  | x :: l => if nm x = nm f then f :: l else if lt (nm x) (nm f) then x :: putL f l else f :: x :: l
def delL (n : ByteArray) (l : List α) : List α := l.filter (fun f => decide (nm f ≠ n))
def idxL (n : ByteArray) (l : List α) : Nat := (l.takeWhile (fun f => decide (lt (nm f) n))).length
theorem getL_put (m : ByteArray) (f : α) : ∀ l : List α, getL nm m (putL nm f l) = if m = nm f then some f else getL nm m l
  | [] => by by_cases h : m = nm f <;> simp [getL, putL, h, eq_comm]
  | x :: l => by
    have ih := getL_put m f l
    unfold putL
    split
    · rename_i h
      by_cases hm : m = nm f
      · simp [getL, hm]
      · have h1 : ¬ nm f = m := fun e => hm e.symm
        simp [getL, hm, h1, h]
    · rename_i h
      split
      · by_cases hm : m = nm f
        · rw [if_pos hm] at ih ⊢
          have h1 : ¬ nm x = m := fun e => h (e.trans hm)
          unfold getL at ih ⊢
          rw [List.find?_cons, ih]
          simp [h1]
        · rw [if_neg hm] at ih ⊢
          unfold getL at ih ⊢
          rw [List.find?_cons, List.find?_cons, ih]
      · by_cases hm : m = nm f
        · simp [getL, hm]
        · have h1 : ¬ nm f = m := fun e => hm e.symm
          simp [getL, hm, h1]
theorem getL_del (n m : ByteArray) : ∀ l : List α, getL nm n (delL nm m l) = if n = m then none else getL nm n l
  | [] => by simp [getL, delL]
  | x :: l => by
    have ih := getL_del n m l
    unfold getL delL at ih ⊢
    by_cases hx : nm x = m
    · rw [List.filter_cons_of_neg (by simpa using hx), ih]
      by_cases h : n = m
      · simp [h]
      · have h1 : ¬ nm x = n := fun e => h (e.symm.trans hx)
        simp [h, h1]
    · rw [List.filter_cons_of_pos (by simpa using hx), List.find?_cons, List.find?_cons, ih]
      by_cases h : n = m
      · have h1 : ¬ nm x = n := fun e => hx (e.trans h)
        simp [h, hx]
      · simp [h]
theorem getL_some {n : ByteArray} {l : List α} {f : α} (h : getL nm n l = some f) : f ∈ l ∧ nm f = n := ⟨List.mem_of_find?_eq_some h, by simpa using List.find?_some h⟩
theorem getL_none {n : ByteArray} {l : List α} (h : getL nm n l = none) : ∀ f ∈ l, nm f ≠ n := fun f hf => by simpa using List.find?_eq_none.1 h f hf
/-- A sorted list is parted by a name. -/
theorem parted (n : ByteArray) : ∀ l : List α, Srt nm l → ∃ a b, (∀ x ∈ a, lt (nm x) n) ∧ (∀ x ∈ b, lt n (nm x)) ∧ ((l = a ++ b ∧ getL nm n l = none) ∨ ∃ f, nm f = n ∧ l = a ++ f :: b ∧ getL nm n l = some f)
  | [], _ => ⟨[], [], by simp, by simp, .inl ⟨rfl, rfl⟩⟩
  | x :: l, h => by
    have hx := (List.pairwise_cons.1 h).1
    rcases lt_tri (nm x) n with h1 | h1 | h1
    · obtain ⟨a, b, ha, hb, hab⟩ := parted n l (List.pairwise_cons.1 h).2
      have hne := lt_ne h1
      refine ⟨x :: a, b, ?_, hb, ?_⟩
      · intro y hy
        rcases List.mem_cons.1 hy with rfl | hy
        · exact h1
        · exact ha y hy
      · rcases hab with ⟨rfl, hg⟩ | ⟨f, hf, rfl, hg⟩
        · exact .inl ⟨rfl, by simpa [getL, hne] using hg⟩
        · exact .inr ⟨f, hf, rfl, by simpa [getL, hne] using hg⟩
    · exact ⟨[], l, by simp, fun y hy => h1 ▸ hx y hy, .inr ⟨x, h1, rfl, by simp [getL, h1]⟩⟩
    · refine ⟨[], x :: l, by simp, ?_, .inl ⟨rfl, ?_⟩⟩
      · intro y hy
        rcases List.mem_cons.1 hy with rfl | hy
        · exact h1
        · exact lt_trans h1 (hx y hy)
      · refine List.find?_eq_none.2 ?_
        intro y hy
        rcases List.mem_cons.1 hy with rfl | hy
        · simpa using (lt_ne h1).symm
        · simpa using (lt_ne (lt_trans h1 (hx y hy))).symm
theorem put_parted {f : α} {n : ByteArray} (hf : nm f = n) : ∀ (a b : List α), (∀ x ∈ a, lt (nm x) n) → (∀ x ∈ b, lt n (nm x)) → putL nm f (a ++ b) = a ++ f :: b
  | [], [], _, _ => rfl
  | [], y :: b, _, hb => by
    have h1 := hb y (by simp)
    have h2 : ¬ nm y = nm f := fun e => lt_ne h1 (hf.symm.trans e.symm)
    have h3 : ¬ lt (nm y) (nm f) := hf ▸ lt_asym h1
    simp [putL, h2, h3]
  | x :: a, b, ha, hb => by
    have h1 : lt (nm x) (nm f) := hf ▸ ha x (by simp)
    have ih := put_parted hf a b (fun y hy => ha y (by simp [hy])) hb
    simp [putL, h1, lt_ne h1, ih]
theorem put_parted' {f g : α} {n : ByteArray} (hf : nm f = n) (hg : nm g = n) : ∀ (a b : List α), (∀ x ∈ a, lt (nm x) n) → (∀ x ∈ b, lt n (nm x)) → putL nm f (a ++ g :: b) = a ++ f :: b
  | [], b, _, hb => by simp [putL, hf, hg]
  | x :: a, b, ha, hb => by
    have h1 : lt (nm x) (nm f) := hf ▸ ha x (by simp)
    have ih := put_parted' hf hg a b (fun y hy => ha y (by simp [hy])) hb
    simp [putL, h1, lt_ne h1, ih]
theorem filter_all {n : ByteArray} {a : List α} (h : ∀ x ∈ a, nm x ≠ n) : delL nm n a = a := List.filter_eq_self.2 (fun x hx => by simpa using h x hx)
theorem del_parted {g : α} {n : ByteArray} (hg : nm g = n) (a b : List α) (ha : ∀ x ∈ a, lt (nm x) n) (hb : ∀ x ∈ b, lt n (nm x)) : delL nm n (a ++ g :: b) = a ++ b := by
  have h1 := filter_all nm (fun x hx => lt_ne (ha x hx))
  have h2 := filter_all nm (fun x hx => (lt_ne (hb x hx)).symm)
  unfold delL at h1 h2 ⊢
  rw [List.filter_append, List.filter_cons_of_neg (by simpa using hg), h1, h2]
theorem idx_parted {n : ByteArray} {a b : List α} (ha : ∀ x ∈ a, lt (nm x) n) (hb : ∀ x, b.head? = some x → ¬ lt (nm x) n) : idxL nm n (a ++ b) = a.length := by
  unfold idxL
  induction a with
  | nil =>
    cases b with
    | nil => rfl
    | cons y b => simp [hb y rfl]
  | cons x a ih => simpa [ha x (by simp)] using ih (fun y hy => ha y (by simp [hy]))
/-- All that the code does at a found place. -/
theorem at_none {n : ByteArray} {l : List α} (hs : Srt nm l) (hg : getL nm n l = none) : idxL nm n l ≤ l.length ∧ (∀ f, nm f = n → l.take (idxL nm n l) ++ f :: l.drop (idxL nm n l) = putL nm f l) := by
  obtain ⟨a, b, ha, hb, ⟨rfl, _⟩ | ⟨f, _, _, h⟩⟩ := parted nm n l hs
  · have hi : idxL nm n (a ++ b) = a.length := idx_parted nm ha (fun x hx => lt_asym (hb x (List.mem_of_mem_head? (by simp [hx]))))
    refine ⟨by simp [hi], fun f hf => ?_⟩
    rw [hi, put_parted nm hf a b ha hb]; simp
  · rw [hg] at h; cases h
theorem at_some {n : ByteArray} {l : List α} {f : α} (hs : Srt nm l) (hg : getL nm n l = some f) : idxL nm n l < l.length ∧ l[idxL nm n l]? = some f ∧
    (∀ g, nm g = n → l.take (idxL nm n l) ++ g :: l.drop (idxL nm n l + 1) = putL nm g l) ∧ l.take (idxL nm n l) ++ l.drop (idxL nm n l + 1) = delL nm n l := by
  obtain ⟨a, b, ha, hb, ⟨_, h⟩ | ⟨f', hf', rfl, h⟩⟩ := parted nm n l hs
  · rw [hg] at h; cases h
  · rw [hg] at h
    obtain rfl := Option.some.inj h
    have hi : idxL nm n (a ++ f :: b) = a.length := idx_parted nm ha (fun x hx => by obtain rfl : f = x := by simpa using hx
                                                                                     rw [hf']; exact lt_irr n)
    rw [hi]
    refine ⟨by simp, by simp, fun g hg' => ?_, ?_⟩
    · rw [put_parted' nm hg' hf' a b ha hb]; simp
    · rw [del_parted nm hf' a b ha hb]; simp
theorem srt_put {f : α} {l : List α} (hs : Srt nm l) : Srt nm (putL nm f l) := by
  obtain ⟨a, b, ha, hb, ⟨rfl, _⟩ | ⟨g, hg, rfl, _⟩⟩ := parted nm (nm f) l hs
  · rw [put_parted nm rfl a b ha hb]
    unfold Srt at hs ⊢
    rw [List.pairwise_append] at hs ⊢
    refine ⟨hs.1, List.pairwise_cons.2 ⟨hb, hs.2.1⟩, fun x hx y hy => ?_⟩
    rcases List.mem_cons.1 hy with rfl | hy
    · exact ha x hx
    · exact hs.2.2 x hx y hy
  · rw [put_parted' nm rfl hg a b ha hb]
    unfold Srt at hs ⊢
    rw [List.pairwise_append] at hs ⊢
    refine ⟨hs.1, List.pairwise_cons.2 ⟨hb, (List.pairwise_cons.1 hs.2.1).2⟩, fun x hx y hy => ?_⟩
    rcases List.mem_cons.1 hy with rfl | hy
    · exact ha x hx
    · exact hs.2.2 x hx y (List.mem_cons_of_mem _ hy)
theorem srt_del {n : ByteArray} {l : List α} (hs : Srt nm l) : Srt nm (delL nm n l) := List.Pairwise.sublist List.filter_sublist hs
theorem mem_put {f x : α} : ∀ {l : List α}, x ∈ putL nm f l → x = f ∨ x ∈ l
  | [], h => .inl (by simpa [putL] using h)
  | y :: l, h => by
    unfold putL at h
    split at h
    · rcases List.mem_cons.1 h with h | h
      · exact .inl h
      · exact .inr (by simp [h])
    · split at h
      · rcases List.mem_cons.1 h with h | h
        · exact .inr (by simp [h])
        · exact (mem_put h).imp id (fun h => by simp [h])
      · rcases List.mem_cons.1 h with h | h
        · exact .inl h
        · exact .inr h
theorem mem_del {n : ByteArray} {x : α} {l : List α} (h : x ∈ delL nm n l) : x ∈ l := (List.mem_filter.1 h).1
theorem len_put_none {f : α} {l : List α} (hs : Srt nm l) (hg : getL nm (nm f) l = none) : (putL nm f l).length = l.length + 1 := by
  have h := at_none nm hs hg
  rw [← h.2 f rfl]
  simp
  omega
theorem len_put_some {f g : α} {l : List α} (hs : Srt nm l) (hg : getL nm (nm f) l = some g) : (putL nm f l).length = l.length := by
  have h := at_some nm hs hg
  rw [← h.2.2.1 f rfl]
  simp
  omega
theorem len_del_some {n : ByteArray} {g : α} {l : List α} (hs : Srt nm l) (hg : getL nm n l = some g) : (delL nm n l).length + 1 = l.length := by
  have h := at_some nm hs hg
  rw [← h.2.2.2]
  simp
  omega
/-- Two sorted lists that answer alike are one. -/
theorem srt_ext : ∀ {l m : List α}, Srt nm l → Srt nm m → (∀ n, getL nm n l = getL nm n m) → l = m
  | [], [], _, _, _ => rfl
  | [], y :: m, _, _, h => by have := h (nm y); simp [getL] at this
  | x :: l, [], _, _, h => by have := h (nm x); simp [getL] at this
  | x :: l, y :: m, hl, hm, h => by
    have h1 := (List.pairwise_cons.1 hl).1
    have h2 := (List.pairwise_cons.1 hm).1
    have hxy : x = y := by
      have hx := h (nm x)
      have hy := h (nm y)
      by_cases e : nm x = nm y
      · simpa [getL, e] using hx
      · rcases lt_tri (nm x) (nm y) with k | k | k
        · exfalso
          rw [show getL nm (nm x) (x :: l) = some x by simp [getL]] at hx
          obtain ⟨hin, _⟩ := getL_some nm hx.symm
          rcases List.mem_cons.1 hin with rfl | hin
          · exact e rfl
          · exact lt_asym k (h2 x hin)
        · exact absurd k e
        · exfalso
          rw [show getL nm (nm y) (y :: m) = some y by simp [getL]] at hy
          obtain ⟨hin, _⟩ := getL_some nm hy
          rcases List.mem_cons.1 hin with rfl | hin
          · exact e rfl
          · exact lt_asym k (h1 y hin)
    subst hxy
    have : l = m := srt_ext (List.pairwise_cons.1 hl).2 (List.pairwise_cons.1 hm).2 (fun n => by
      have hn := h n
      by_cases e : nm x = n
      · subst e
        have e1 : getL nm (nm x) l = none := List.find?_eq_none.2 (fun y hy => by simpa using (lt_ne (h1 y hy)).symm)
        have e2 : getL nm (nm x) m = none := List.find?_eq_none.2 (fun y hy => by simpa using (lt_ne (h2 y hy)).symm)
        rw [e1, e2]
      · simpa [getL, e] using hn)
    rw [this]
end

/-! Disks. -/
structure Fil where
  name : ByteArray
  safe : ByteArray
  tail : ByteArray
structure Dsk where
  files : List Fil
  fuse : Int
def nilB : ByteArray := ⟨#[]⟩
abbrev fget := getL Fil.name
abbrev fput := putL Fil.name
abbrev fdel := delL Fil.name
abbrev fidx := idxL Fil.name
abbrev FSrt := Srt Fil.name
section
variable (nm : ByteArray → Bool)
structure GoodL (l : List Fil) : Prop where
  len : l.length ≤ 400
  srt : FSrt l
  name : ∀ f ∈ l, nm f.name = true
  size : ∀ f ∈ l, f.safe.size + f.tail.size ≤ 1048576
open Classical in
noncomputable def stepD (d : Dsk) (op : List Fil → List Fil × Int) : Dsk × Int :=
  if ¬ GoodL nm d.files then (d, 3) else if d.fuse = 0 then (d, 12) else if (op d.files).2 ≠ 0 then (d, (op d.files).2) else (⟨(op d.files).1, if 0 < d.fuse then d.fuse - 1 else d.fuse⟩, 0)
def writeO (name s : ByteArray) (l : List Fil) : List Fil × Int :=
  if nm name = false then (l, 2) else
  match fget name l with
  | none => if 400 ≤ l.length then (l, 6) else if 1048576 < s.size then (l, 1) else (fput ⟨name, nilB, s⟩ l, 0)
  | some f => if 1048576 < s.size + f.safe.size + f.tail.size then (l, 1) else (fput ⟨name, f.safe, f.tail ++ s⟩ l, 0)
def syncO (name : ByteArray) (l : List Fil) : List Fil × Int :=
  match fget name l with
  | none => (l, 7)
  | some f => (fput ⟨name, f.safe ++ f.tail, nilB⟩ l, 0)
def removeO (name : ByteArray) (l : List Fil) : List Fil × Int :=
  match fget name l with
  | none => (l, 7)
  | some f => (fdel name l, 0)
def renameO (frm to : ByteArray) (l : List Fil) : List Fil × Int :=
  if nm to = false then (l, 2) else
  match fget frm l with
  | none => (l, 7)
  | some f => (fput ⟨to, f.safe, f.tail⟩ (fdel frm l), 0)
noncomputable def writeD (d : Dsk) (name s : ByteArray) := stepD nm d (writeO nm name s)
noncomputable def syncD (d : Dsk) (name : ByteArray) := stepD nm d (syncO name)
noncomputable def removeD (d : Dsk) (name : ByteArray) := stepD nm d (removeO name)
noncomputable def renameD (d : Dsk) (frm to : ByteArray) := stepD nm d (renameO nm frm to)
open Classical in
noncomputable def readD (d : Dsk) (name : ByteArray) : ByteArray × Int :=
  if ¬ GoodL nm d.files then (nilB, 3) else match fget name d.files with
  | none => (nilB, 7)
  | some f => (f.safe ++ f.tail, 0)
def crashFil (keep : Nat) (f : Fil) : Fil := ⟨f.name, f.safe ++ f.tail.extract 0 (min keep f.tail.size), nilB⟩
open Classical in
noncomputable def crashD (d : Dsk) (keep : Int) : Dsk × Int :=
  if ¬ GoodL nm d.files ∨ keep < 0 then (d, 3) else (⟨d.files.map (crashFil keep.toNat), -1⟩, 0)
def dotNew : ByteArray := ⟨#[46, 110, 101, 119]⟩
open Classical in
noncomputable def saveD (d : Dsk) (name s : ByteArray) : Dsk × Int :=
  if ¬ GoodL nm d.files then (d, 3) else
  if nm name = false ∨ nm (name ++ dotNew) = false then (d, 2) else
  let r := if fget (name ++ dotNew) d.files = none then (d, 0) else removeD nm d (name ++ dotNew)
  if r.2 ≠ 0 then r else
  if (writeD nm r.1 (name ++ dotNew) s).2 ≠ 0 then writeD nm r.1 (name ++ dotNew) s else
  if (syncD nm (writeD nm r.1 (name ++ dotNew) s).1 (name ++ dotNew)).2 ≠ 0 then syncD nm (writeD nm r.1 (name ++ dotNew) s).1 (name ++ dotNew) else
  renameD nm (syncD nm (writeD nm r.1 (name ++ dotNew) s).1 (name ++ dotNew)).1 (name ++ dotNew) name
variable {nm}
theorem fput_inv {l : List Fil} {f : Fil} (h : GoodL nm l) (hn : nm f.name = true) (hs : f.safe.size + f.tail.size ≤ 1048576) (hl : fget f.name l ≠ none ∨ l.length < 400) : GoodL nm (fput f l) := by
  refine ⟨?_, srt_put _ h.srt, fun x hx => ?_, fun x hx => ?_⟩
  · cases hg : fget f.name l with
    | none => have := len_put_none Fil.name h.srt hg; have := hl.resolve_left (fun k => k hg); unfold fput; omega
    | some g => have := len_put_some Fil.name h.srt hg; have := h.len; unfold fput; omega
  · rcases mem_put _ hx with rfl | hx
    · exact hn
    · exact h.name x hx
  · rcases mem_put _ hx with rfl | hx
    · exact hs
    · exact h.size x hx
theorem fdel_inv {l : List Fil} {n : ByteArray} (h : GoodL nm l) : GoodL nm (fdel n l) :=
  ⟨Nat.le_trans (List.length_filter_le _ _) h.len, srt_del _ h.srt, fun x hx => h.name x (mem_del _ hx), fun x hx => h.size x (mem_del _ hx)⟩
theorem size_nil : nilB.size = 0 := rfl
theorem write_inv {l : List Fil} {name s : ByteArray} (h : GoodL nm l) (he : (writeO nm name s l).2 = 0) : GoodL nm (writeO nm name s l).1 := by
  unfold writeO at he ⊢
  split
  · rename_i h1; rw [if_pos h1] at he; exact absurd he (by simp)
  · rename_i h1
    rw [if_neg h1] at he
    cases hg : fget name l with
    | none =>
      rw [hg] at he
      simp only at he ⊢
      split
      · rename_i h2; rw [if_pos h2] at he; exact absurd he (by simp)
      · rename_i h2
        rw [if_neg h2] at he
        split
        · rename_i h3; rw [if_pos h3] at he; exact absurd he (by simp)
        · rename_i h3
          exact fput_inv h (by simpa using h1) (by simp [size_nil]; omega) (.inr (by omega))
    | some f =>
      rw [hg] at he
      simp only at he ⊢
      split
      · rename_i h2; rw [if_pos h2] at he; exact absurd he (by simp)
      · rename_i h2
        exact fput_inv h (by simpa using h1) (by simp [ByteArray.size_append]; omega) (.inl (by simp [hg]))
theorem sync_inv {l : List Fil} {name : ByteArray} (h : GoodL nm l) (he : (syncO name l).2 = 0) : GoodL nm (syncO name l).1 := by
  unfold syncO at he ⊢
  cases hg : fget name l with
  | none => rw [hg] at he; exact absurd he (by simp)
  | some f =>
    obtain ⟨h1, rfl⟩ := getL_some _ hg
    have := h.size f h1
    exact fput_inv h (h.name f h1) (by simp [ByteArray.size_append, size_nil]; omega) (.inl (by simp [hg]))
theorem remove_inv {l : List Fil} {name : ByteArray} (h : GoodL nm l) (he : (removeO name l).2 = 0) : GoodL nm (removeO name l).1 := by
  unfold removeO at he ⊢
  cases hg : fget name l with
  | none => rw [hg] at he; exact absurd he (by simp)
  | some f => exact fdel_inv h
theorem rename_inv {l : List Fil} {a b : ByteArray} (h : GoodL nm l) (he : (renameO nm a b l).2 = 0) : GoodL nm (renameO nm a b l).1 := by
  unfold renameO at he ⊢
  split
  · rename_i h1; rw [if_pos h1] at he; exact absurd he (by simp)
  · rename_i h1
    rw [if_neg h1] at he
    cases hg : fget a l with
    | none => rw [hg] at he; exact absurd he (by simp)
    | some f =>
      obtain ⟨h2, rfl⟩ := getL_some _ hg
      have hsz := h.size f h2
      have hlen := len_del_some Fil.name h.srt hg
      have := h.len
      exact fput_inv (fdel_inv h) (by simpa using h1) hsz (.inr (by unfold fdel; omega))
theorem step_inv {d : Dsk} {op : List Fil → List Fil × Int} (hop : ∀ l, GoodL nm l → (op l).2 = 0 → GoodL nm (op l).1) (h : GoodL nm d.files) : GoodL nm (stepD nm d op).1.files := by
  unfold stepD
  rw [if_neg (by simpa using h)]
  split
  · exact h
  · split
    · exact h
    · rename_i h1 h2; exact hop _ h (by simpa using h2)
/-- What a step leaves: the disk as it was, or a step less and the operation done. -/
theorem step_cases (nm : ByteArray → Bool) (d : Dsk) (op : List Fil → List Fil × Int) : ((stepD nm d op).1 = d ∧ (stepD nm d op).2 ≠ 0) ∨
    (GoodL nm d.files ∧ d.fuse ≠ 0 ∧ (op d.files).2 = 0 ∧ stepD nm d op = (⟨(op d.files).1, if 0 < d.fuse then d.fuse - 1 else d.fuse⟩, 0)) := by
  unfold stepD
  by_cases h : GoodL nm d.files
  · rw [if_neg (by simpa using h)]
    by_cases h1 : d.fuse = 0
    · rw [if_pos h1]; exact .inl ⟨rfl, by simp⟩
    · rw [if_neg h1]
      by_cases h2 : (op d.files).2 = 0
      · rw [if_neg (by simpa using h2)]; exact .inr ⟨h, h1, h2, rfl⟩
      · rw [if_pos h2]; exact .inl ⟨rfl, h2⟩
  · rw [if_pos h]; exact .inl ⟨rfl, by simp⟩
theorem write_other {l : List Fil} {name s m : ByteArray} (hm : m ≠ name) : fget m (writeO nm name s l).1 = fget m l := by
  unfold writeO
  split
  · rfl
  · cases hg : fget name l with
    | none =>
      simp only
      split
      · rfl
      · split
        · rfl
        · simp [getL_put, hm]
    | some f =>
      simp only
      split
      · rfl
      · simp [getL_put, hm]
theorem sync_other {l : List Fil} {name m : ByteArray} (hm : m ≠ name) : fget m (syncO name l).1 = fget m l := by
  unfold syncO
  cases hg : fget name l with
  | none => rfl
  | some f => simp [getL_put, hm]
theorem remove_other {l : List Fil} {name m : ByteArray} (hm : m ≠ name) : fget m (removeO name l).1 = fget m l := by
  unfold removeO
  cases hg : fget name l with
  | none => rfl
  | some f => simp [getL_del, hm]
theorem rename_other {l : List Fil} {a b m : ByteArray} (ha : m ≠ a) (hb : m ≠ b) : fget m (renameO nm a b l).1 = fget m l := by
  unfold renameO
  split
  · rfl
  · cases hg : fget a l with
    | none => rfl
    | some f => simp [getL_put, getL_del, ha, hb]
theorem step_other {d : Dsk} {op : List Fil → List Fil × Int} {m : ByteArray} (hop : ∀ l, fget m (op l).1 = fget m l) : fget m (stepD nm d op).1.files = fget m d.files := by
  rcases step_cases nm d op with ⟨h, _⟩ | ⟨_, _, _, h⟩
  · rw [h]
  · rw [h]; exact hop _
theorem new_ne (name : ByteArray) : name ++ dotNew ≠ name := fun h => by
  have := congrArg ByteArray.size h
  rw [ByteArray.size_append] at this
  have h4 : dotNew.size = 4 := rfl
  omega
/-- Save leaves a disk, and of other files what they were. -/
theorem save_inv {d : Dsk} {name s : ByteArray} (h : GoodL nm d.files) : GoodL nm (saveD nm d name s).1.files := by
  unfold saveD
  rw [if_neg (by simpa using h)]
  split
  · exact h
  · have h1 : GoodL nm (if fget (name ++ dotNew) d.files = none then (d, (0 : Int)) else removeD nm d (name ++ dotNew)).1.files := by
      split
      · exact h
      · exact step_inv (fun l => remove_inv) h
    simp only
    generalize (if fget (name ++ dotNew) d.files = none then (d, (0 : Int)) else removeD nm d (name ++ dotNew)) = r at h1 ⊢
    have h2 : GoodL nm (writeD nm r.1 (name ++ dotNew) s).1.files := step_inv (fun l => write_inv) h1
    have h3 : GoodL nm (syncD nm (writeD nm r.1 (name ++ dotNew) s).1 (name ++ dotNew)).1.files := step_inv (fun l => sync_inv) h2
    split
    · exact h1
    · split
      · exact h2
      · split
        · exact h3
        · exact step_inv (fun l => rename_inv) h3
theorem save_other {d : Dsk} {name s m : ByteArray} (h1 : m ≠ name) (h2 : m ≠ name ++ dotNew) : fget m (saveD nm d name s).1.files = fget m d.files := by
  unfold saveD
  split
  · rfl
  · split
    · rfl
    · have e1 : fget m (if fget (name ++ dotNew) d.files = none then (d, (0 : Int)) else removeD nm d (name ++ dotNew)).1.files = fget m d.files := by
        split
        · rfl
        · exact step_other (fun l => remove_other h2)
      simp only
      generalize (if fget (name ++ dotNew) d.files = none then (d, (0 : Int)) else removeD nm d (name ++ dotNew)) = r at e1 ⊢
      have e2 : fget m (writeD nm r.1 (name ++ dotNew) s).1.files = fget m d.files := (step_other (fun l => write_other h2)).trans e1
      have e3 : fget m (syncD nm (writeD nm r.1 (name ++ dotNew) s).1 (name ++ dotNew)).1.files = fget m d.files := (step_other (fun l => sync_other h2)).trans e2
      split
      · exact e1
      · split
        · exact e2
        · split
          · exact e3
          · exact (step_other (fun l => rename_other h2 h1)).trans e3
end
end Go.Proofs.YtmacceamebdelaaDoor
/-! NamedR -/
namespace Go.Proofs.YtmacceamebdelaaDoor
open Go.RowKit Go.Shelf
attribute [local go_sem] Oper.semAt_some
set_option linter.unusedVariables false
set_option linter.unusedSimpArgs false

def badR (c : Nat) : Bool := (decide (c < 97) || decide (122 < c)) && ((decide (c < 48) || decide (57 < c)) && (decide (c ≠ 45) && decide (c ≠ 95)))
def pieceOk (p : ByteArray) : Bool := decide (p ≠ nilB) && !hasP badR p
def namedR (s : ByteArray) : Bool := decide (s.size ≤ 60) && (pieces s).all pieceOk
theorem keeps_below {W W' : World} (h : Below W.heap.size W W') : KeepsOthers W W' := ⟨h.size, fun k o hk _ => (h.block k (Array.getElem?_eq_some_iff.1 hk).1).trans hk⟩
theorem isEmptyR (s : ByteArray) : s.toList.isEmpty = decide (s = nilB) := by
  rw [Bool.eq_iff_iff, decide_eq_true_eq, List.isEmpty_iff]
  constructor
  · intro h; exact toList_inj (h.trans (by rw [ByteArray.toList_eq]; rfl))
  · intro h; rw [h, ByteArray.toList_eq]; rfl
end Go.Proofs.YtmacceamebdelaaDoor
/-! Rowk -/
namespace Go.Proofs.YtmacceamebdelaaDoor
open Go.RowKit
set_option linter.unusedVariables false
set_option linter.unusedSimpArgs false
section
variable {P : Program}

theorem run_copy_rowK (w : World) (dT sT ty elem : TypeId) (size g o dLen dCap : Nat) (a : Addr) (sLen sCap : Nat) (cur : Array Value) (t : TypeId) (cs : List Value)
    (hu : P.underlying dT = some (.slice elem)) (hs : (P.info? elem).map (·.size) = some size)
    (hg : w.heap[g]? = some (.cells cur t (0, 0))) (hn : cs.length = Nat.min sLen dLen * size)
    (hsrc : ∀ j v, cs[j]? = some v → w.cell? (a.add j) = some v) (hfit : o + cs.length ≤ cur.size) (h1 : ∀ v ∈ cs, v.oneCell' = true) :
    (Builtin.copy_ #[dT, sT] ty #[.slice (some ⟨g, o, none⟩) dLen dCap, .slice (some a) sLen sCap]).run P w =
      .ok (goInt (Nat.min sLen dLen)) (w.setRow g (cur.toList.take o ++ cs ++ cur.toList.drop (o + cs.length)).toArray) := by
  have hl := run_loadCells_list (P := P) w a cs hsrc
  have hst := run_storeCells_at P g o t cs 0 cur w hg (by simpa using hfit) h1
  cases hq : P.info? elem with
  | none => simp [hq] at hs
  | some i =>
    have hi : i.size = size := by simpa [hq] using hs
    simp only [Nat.add_zero] at hst
    simp [Builtin.copy_, run_underlying hu, Builtin.lenOf, Builtin.firstCells, sizeOf, typeInfo, hq, hi, ← hn, hl, hst]
theorem wp_copyK {w : World} {o : Oper} {a : Act} {K : Act → World → Prop} {Q : Exit → Act → World → Prop} (d s : Operand) (dT sT : TypeId)
    (ho : o.op = .call { callee := .builtin .copy, args := #[d, s], argTypes := #[dT, sT] }) (elem : TypeId) (size : Nat) (hu : P.underlying dT = some (.slice elem)) (hsz : (P.info? elem).map (·.size) = some size)
    (g off dLen dCap : Nat) (ad : Addr) (sLen sCap : Nat) (hd : a.eval d = .slice (some ⟨g, off, none⟩) dLen dCap) (hs : a.eval s = .slice (some ad) sLen sCap)
    (cur : Array Value) (t : TypeId) (hg : w.heap[g]? = some (.cells cur t (0, 0))) (cs : List Value) (hn : cs.length = Nat.min sLen dLen * size)
    (hsrc : ∀ j v, cs[j]? = some v → w.cell? (ad.add j) = some v) (hfit : off + cs.length ≤ cur.size) (h1 : ∀ v ∈ cs, v.oneCell' = true)
    (h : ∀ w', w'.heap[g]? = some (.cells (cur.toList.take off ++ cs ++ cur.toList.drop (off + cs.length)).toArray t (0, 0)) → Upd (· = g) w w' → K (a.put o.dst (goInt (Nat.min sLen dLen))) w') : o.wp P a w K Q := by
  have hrun := run_copy_rowK (P := P) w dT sT o.type elem size g off dLen dCap ad sLen sCap cur t cs hu hsz hg hn hsrc hfit h1
  unfold Oper.wp execOp
  simp only [ho, resolve, invoke, builtin, Sem.run_bind, Sem.run_pure, Result.andThen_ok, List.map_toArray, List.map_cons, List.map_nil, hd, hs, hrun]
  exact h _ (setRow_heap w g _ _ t _ hg) (upd_setRow _)
theorem wpList_copyK {w : World} {ops : Array Oper} {rest : List Oper} {o : Oper} {a : Act} {Q : Exit → Act → World → Prop} (hw : Region.wanted o (yielded ops a.tmps) = true) (d s : Operand) (dT sT : TypeId)
    (ho : o.op = .call { callee := .builtin .copy, args := #[d, s], argTypes := #[dT, sT] }) (elem : TypeId) (size : Nat) (hu : P.underlying dT = some (.slice elem)) (hsz : (P.info? elem).map (·.size) = some size)
    (g off dLen dCap : Nat) (ad : Addr) (sLen sCap : Nat) (hd : a.eval d = .slice (some ⟨g, off, none⟩) dLen dCap) (hs : a.eval s = .slice (some ad) sLen sCap)
    (cur : Array Value) (t : TypeId) (hg : w.heap[g]? = some (.cells cur t (0, 0))) (cs : List Value) (hn : cs.length = Nat.min sLen dLen * size)
    (hsrc : ∀ j v, cs[j]? = some v → w.cell? (ad.add j) = some v) (hfit : off + cs.length ≤ cur.size) (h1 : ∀ v ∈ cs, v.oneCell' = true)
    (h : ∀ w', w'.heap[g]? = some (.cells (cur.toList.take off ++ cs ++ cur.toList.drop (off + cs.length)).toArray t (0, 0)) → Upd (· = g) w w' → wpList P ops Q rest (a.put o.dst (goInt (Nat.min sLen dLen))) w') : wpList P ops Q (o :: rest) a w :=
  wpList_yes hw fun K hK => wp_copyK d s dT sT ho elem size hu hsz g off dLen dCap ad sLen sCap hd hs cur t hg cs hn hsrc hfit h1 (fun w' h1 h2 => hK _ _ (h w' h1 h2))

theorem run_clear_rowK (w : World) (t elem ty : TypeId) (z : Value) (hu : P.underlying t = some (.slice elem)) (hv : ∀ w, (zeroValue elem).run P w = .ok z w) (h1 : ∀ u ∈ z.cells.toList, u.oneCell' = true)
    (g o n c : Nat) (hn : 0 < n) (cur : Array Value) (te : TypeId) (hg : w.heap[g]? = some (.cells cur te (0, 0))) (hfit : o + n * z.cells.size ≤ cur.size) :
    (Builtin.clear_ #[t] ty #[.slice (some ⟨g, o, none⟩) n c]).run P w = .ok (.tuple #[]) (w.setRow g (cur.toList.take o ++ (Builtin.zeroCells z.cells n).toList ++ cur.toList.drop (o + n * z.cells.size)).toArray) := by
  have hsize : (Builtin.zeroCells z.cells n).toList.length = n * z.cells.size := by simp [size_zeroCells]
  have hz1 : ∀ u ∈ (Builtin.zeroCells z.cells n).toList, u.oneCell' = true := by
    intro u hu
    simp only [Builtin.zeroCells, Array.toList_map, List.mem_map, Array.toList_range, List.mem_range] at hu
    obtain ⟨i, hi, rfl⟩ := hu
    have hpos : 0 < z.cells.size := by
      rcases Nat.eq_zero_or_pos z.cells.size with h | h
      · rw [h, Nat.mul_zero] at hi; omega
      · exact h
    have hm : i % z.cells.size < z.cells.size := Nat.mod_lt _ hpos
    rw [getElem!_pos z.cells _ hm]
    exact h1 _ (Array.getElem_mem_toList hm)
  have hst := run_storeCells_at P g o te (Builtin.zeroCells z.cells n).toList 0 cur w hg (by rw [hsize]; simpa using hfit) hz1
  rw [hsize] at hst
  simp only [Nat.add_zero] at hst
  obtain ⟨m, rfl⟩ : ∃ m, n = m + 1 := ⟨n - 1, by omega⟩
  simp [Builtin.clear_, run_underlying hu, hv, hst]
theorem wpList_clearK {w : World} {ops : Array Oper} {rest : List Oper} {o : Oper} {a : Act} {Q : Exit → Act → World → Prop} (hw : Region.wanted o (yielded ops a.tmps) = true) (d : Operand) (t : TypeId)
    (ho : o.op = .call { callee := .builtin .clear, args := #[d], argTypes := #[t] }) (elem : TypeId) (z : Value) (hu : P.underlying t = some (.slice elem)) (hv : ∀ w, (zeroValue elem).run P w = .ok z w) (h1 : ∀ u ∈ z.cells.toList, u.oneCell' = true)
    (g off n c : Nat) (hn : 0 < n) (hd : a.eval d = .slice (some ⟨g, off, none⟩) n c) (cur : Array Value) (te : TypeId) (hg : w.heap[g]? = some (.cells cur te (0, 0))) (hfit : off + n * z.cells.size ≤ cur.size)
    (h : ∀ w', w'.heap[g]? = some (.cells (cur.toList.take off ++ (Builtin.zeroCells z.cells n).toList ++ cur.toList.drop (off + n * z.cells.size)).toArray te (0, 0)) → Upd (· = g) w w' → wpList P ops Q rest (a.put o.dst (.tuple #[])) w') : wpList P ops Q (o :: rest) a w := by
  refine wpList_yes hw fun K hK => ?_
  have hrun := run_clear_rowK (P := P) w t elem o.type z hu hv h1 g off n c hn cur te hg hfit
  unfold Oper.wp execOp
  simp only [ho, resolve, invoke, builtin, Sem.run_bind, Sem.run_pure, Result.andThen_ok, List.map_toArray, List.map_cons, List.map_nil, hd, hrun]
  exact hK _ _ (h _ (setRow_heap w g _ _ te _ hg) (upd_setRow _))
theorem wp_append_roomK {w : World} {o : Oper} {a : Act} {K : Act → World → Prop} {Q : Exit → Act → World → Prop} (s x : Operand) (t : TypeId)
    (ho : o.op = .call { callee := .builtin .append, args := #[s, x], argTypes := #[t, t] }) (e : TypeId) (size : Nat) (hu : P.underlying t = some (.slice e)) (hsz : (P.info? e).map (·.size) = some size)
    (g n cap : Nat) (hs : a.eval s = .slice (some ⟨g, 0, none⟩) n cap) (ad : Addr) (m c : Nat) (hx : a.eval x = .slice (some ad) m c)
    (cur : Array Value) (hg : w.heap[g]? = some (.cells cur e (0, 0))) (news : List Value) (hl : news.length = m * size) (hnews : ∀ j u, news[j]? = some u → w.cell? (ad.add j) = some u) (h1 : ∀ u ∈ news, u.oneCell' = true)
    (hroom : n + m ≤ cap) (hfit : n * size + news.length ≤ cur.size)
    (h : ∀ w', w'.heap[g]? = some (.cells (cur.toList.take (n * size) ++ news ++ cur.toList.drop (n * size + news.length)).toArray e (0, 0)) → Upd (· = g) w w' → K (a.put o.dst (.slice (some ⟨g, 0, none⟩) (n + m) cap)) w') : o.wp P a w K Q := by
  obtain ⟨i, hi, hsi⟩ := Option.map_eq_some_iff.1 hsz
  subst hsi
  have hrun := run_append_room (P := P) w t o.type e i hu hi g n cap cur hg ad m c news hl hnews h1 hroom hfit
  unfold Oper.wp execOp
  simp only [ho, resolve, invoke, builtin, Sem.run_bind, Sem.run_pure, Result.andThen_ok, List.map_toArray, List.map_cons, List.map_nil, hs, hx, hrun]
  exact h _ (setRow_heap w g _ _ e _ hg) (upd_setRow _)
/-- append(s[:i], make(S, k)...) that goes beyond the capacity: a new row. -/
theorem wpList_append_zerosK {w : World} {ops : Array Oper} {rest : List Oper} {o : Oper} {a : Act} {Q : Exit → Act → World → Prop} (hw : Region.wanted o (yielded ops a.tmps) = true) (s x : Operand) (t tn : TypeId)
    (ho : o.op = .call { callee := .builtin .append, args := #[s, x], argTypes := #[t, tn] }) {e : TypeId} {z : Value} {size bytes : Nat} (hinf : infoIs P e z size bytes) (hu : P.underlying t = some (.slice e)) (hun : P.underlying tn = some (.int .i64)) (hzs : z.cells.size = size) (hsz : 0 < size)
    (g n cap k r : Nat) (hr : r = n + k) (kx : Int) (hkx : kx = (k : Int)) (hs : a.eval s = .slice (some ⟨g, 0, none⟩) n cap) (hx : a.eval x = .int .i64 kx)
    (olds : List Value) (hol : olds.length = n * size) (holds : ∀ j u, olds[j]? = some u → w.cell? ⟨g, j, none⟩ = some u) (hk : 0 < k) (hroom : cap < n + k) (hbytes : (n + k) * bytes ≤ 140737488355328) (h63 : n + k ≤ maxLen)
    (h : ∀ w' cap' cur, r ≤ cap' → cap' ≤ maxLen → cur.size = cap' * size → cur.toList.take (n * size) = olds → w'.heap[w.heap.size]? = some (.cells cur e (0, 0)) → Upd (fun _ => False) w w' → w'.heap.size = w.heap.size + 1 → wpList P ops Q rest (a.put o.dst (.slice (some ⟨w.heap.size, 0, none⟩) r cap')) w') : wpList P ops Q (o :: rest) a w := by
  obtain ⟨i, hi, hz, hsize, hbt⟩ := info_parts hinf
  subst hsize
  subst hbt
  subst hr
  subst hkx
  refine wpList_yes hw fun K hK => ?_
  have hf := run_firstCells_some (P := P) w.drew i.size n ⟨g, 0, none⟩ n cap olds hol (fun j u hj => by rw [addr_add, Nat.zero_add]; exact holds j u hj)
  have hk2 : k * i.bytes ≤ (n + k) * i.bytes := Nat.mul_le_mul_right _ (by omega)
  have hrun := Lib.run_append_grow_zeros (P := P) w t tn o.type e i z .i64 .i64 hu hun hi hz (some ⟨g, 0, none⟩) n cap olds hf k hk hsz hroom (by unfold maxLen at h63; omega) (by omega) (growslice_fits hroom hbytes)
  unfold Oper.wp execOp
  simp only [ho, resolve, invoke, builtin, Sem.run_bind, Sem.run_pure, Result.andThen_ok, List.map_toArray, List.map_cons, List.map_nil, hs, hx, hrun]
  refine hK _ _ (h _ _ _ (grownCap_ge w (n + k) cap e) (grownCap_le_maxLen w (n + k) cap e h63) ?_ ?_ (heap_alloc_new w.drew _) ⟨rfl, rfl, rfl, by simp, fun k hk _ => Below.heap_alloc _ _ _ hk⟩ (by simp))
  · have := grownCap_ge w (n + k) cap e
    simp only [Array.size_append, List.size_toArray, size_zeroCells, hzs, hol, ← Nat.add_mul]
    congr 1
    omega
  · simp only [Array.toList_append, List.append_assoc]
    rw [← hol]
    exact List.take_left
theorem len_splice3 {α : Type} (L M : List α) (o : Nat) (h : o + M.length ≤ L.length) : (L.take o ++ M ++ L.drop (o + M.length)).length = L.length := by simp; omega
theorem take_splice3 {α : Type} (L M : List α) (o : Nat) (h : o + M.length ≤ L.length) : (L.take o ++ M ++ L.drop (o + M.length)).take (o + M.length) = L.take o ++ M := by
  have : (L.take o ++ M).length = o + M.length := by simp; omega
  rw [← this, List.take_left]
theorem take_splice3' {α : Type} (L M : List α) (o : Nat) (h : o + M.length ≤ L.length) : (L.take o ++ M ++ L.drop (o + M.length)).take o = L.take o := by
  have h1 : (L.take o).length = o := by simp; omega
  rw [List.append_assoc]
  conv => lhs; arg 1; rw [← h1]
  exact List.take_left
/-- The row behind append(s[:k], s[k+1:]...). -/
theorem del_list {α : Type} (cur xs : List α) (K k m c : Nat) (hlen : cur.length = (k + 1 + m + c) * K) (ht : cur.take ((k + 1 + m) * K) = xs) :
    (xs.drop ((k + 1) * K)).length = m * K ∧ (cur.take (k * K) ++ xs.drop ((k + 1) * K) ++ cur.drop (k * K + (xs.drop ((k + 1) * K)).length)).length = cur.length ∧
    (cur.take (k * K) ++ xs.drop ((k + 1) * K) ++ cur.drop (k * K + (xs.drop ((k + 1) * K)).length)).take ((k + m) * K) = xs.take (k * K) ++ xs.drop ((k + 1) * K) := by
  have e1 : (k + 1 + m + c) * K = k * K + K + m * K + c * K := by simp only [Nat.add_mul, Nat.one_mul]
  have e2 : (k + 1 + m) * K = k * K + K + m * K := by simp only [Nat.add_mul, Nat.one_mul]
  have e3 : (k + 1) * K = k * K + K := by simp only [Nat.add_mul, Nat.one_mul]
  have e4 : (k + m) * K = k * K + m * K := by simp only [Nat.add_mul]
  have hx : xs.length = k * K + K + m * K := by rw [← ht, List.length_take]; omega
  have hd : (xs.drop ((k + 1) * K)).length = m * K := by rw [List.length_drop]; omega
  refine ⟨hd, ?_, ?_⟩
  · exact len_splice3 _ _ _ (by omega)
  · rw [e4, ← hd, take_splice3 _ _ _ (by omega), ← ht, List.take_take, Nat.min_eq_left (by omega)]
theorem del_list' {α : Type} (cur xs : List α) (K k n cap : Nat) (hk : k < n) (hn : n ≤ cap) (hlen : cur.length = cap * K) (ht : cur.take (n * K) = xs) :
    (xs.drop ((k + 1) * K)).length = (n - (k + 1)) * K ∧ k * K + (n - (k + 1)) * K ≤ cap * K ∧ (n - 1) * K + K ≤ cap * K ∧ (cur.take (k * K) ++ xs.drop ((k + 1) * K) ++ cur.drop (k * K + (xs.drop ((k + 1) * K)).length)).length = cap * K ∧
    (cur.take (k * K) ++ xs.drop ((k + 1) * K) ++ cur.drop (k * K + (xs.drop ((k + 1) * K)).length)).take ((n - 1) * K) = xs.take (k * K) ++ xs.drop ((k + 1) * K) := by
  obtain ⟨m, rfl⟩ : ∃ m, n = k + 1 + m := ⟨n - (k + 1), by omega⟩
  obtain ⟨c, rfl⟩ : ∃ c, cap = k + 1 + m + c := ⟨cap - (k + 1 + m), by omega⟩
  obtain ⟨h1, h2, h3⟩ := del_list cur xs K k m c hlen ht
  have e1 : (k + 1 + m + c) * K = k * K + K + m * K + c * K := by simp only [Nat.add_mul, Nat.one_mul]
  have e4 : (k + m) * K = k * K + m * K := by simp only [Nat.add_mul]
  rw [show k + 1 + m - (k + 1) = m by omega, show k + 1 + m - 1 = k + m by omega]
  exact ⟨h1, by omega, by omega, h2.trans hlen, h3⟩
theorem ins_list {α : Type} (cur xs V : List α) (K k n cap : Nat) (hk : k ≤ n) (hn : n + 1 ≤ cap) (hlen : cur.length = cap * K) (ht : cur.take (n * K) = xs) (hV : V.length = K) (cur2 : List α) (h2 : cur2 = cur.take ((k + 1) * K) ++ xs.drop (k * K) ++ cur.drop ((k + 1) * K + (xs.drop (k * K)).length)) :
    (xs.drop (k * K)).length = (n - k) * K ∧ (k + 1) * K + (n - k) * K ≤ cap * K ∧ cur2.length = cap * K ∧ k * K + V.length ≤ cap * K ∧ (cur2.take (k * K) ++ V ++ cur2.drop (k * K + V.length)).length = cap * K ∧
    (cur2.take (k * K) ++ V ++ cur2.drop (k * K + V.length)).take ((n + 1) * K) = xs.take (k * K) ++ V ++ xs.drop (k * K) := by
  obtain ⟨m, rfl⟩ : ∃ m, n = k + m := ⟨n - k, by omega⟩
  obtain ⟨c, rfl⟩ : ∃ c, cap = k + m + 1 + c := ⟨cap - (k + m + 1), by omega⟩
  have e1 : (k + m + 1 + c) * K = k * K + m * K + K + c * K := by simp only [Nat.add_mul, Nat.one_mul]
  have e2 : (k + m) * K = k * K + m * K := by simp only [Nat.add_mul]
  have e3 : (k + 1) * K = k * K + K := by simp only [Nat.add_mul, Nat.one_mul]
  have e4 : (k + m + 1) * K = k * K + m * K + K := by simp only [Nat.add_mul, Nat.one_mul]
  have hx : xs.length = k * K + m * K := by rw [← ht, List.length_take]; omega
  have hd : (xs.drop (k * K)).length = m * K := by rw [List.length_drop]; omega
  have l2 : cur2.length = cur.length := by rw [h2]; exact len_splice3 _ _ _ (by omega)
  have l3 : (cur2.take (k * K) ++ V ++ cur2.drop (k * K + V.length)).length = cur2.length := len_splice3 _ _ _ (by omega)
  have t2 : cur2.take (k * K) = xs.take (k * K) := by
    have h := take_splice3' cur (xs.drop (k * K)) ((k + 1) * K) (by omega)
    rw [← h2] at h
    have h' := congrArg (List.take (k * K)) h
    rw [List.take_take, List.take_take, Nat.min_eq_left (by omega)] at h'
    rw [h', ← ht, List.take_take, Nat.min_eq_left (by omega)]
  have d2 : cur2.drop (k * K + V.length) = xs.drop (k * K) ++ cur.drop ((k + 1) * K + (xs.drop (k * K)).length) := by
    have hl : (cur.take ((k + 1) * K)).length = k * K + V.length := by rw [List.length_take]; omega
    rw [h2, List.append_assoc, ← hl, List.drop_left]
  rw [show k + m - k = m by omega]
  refine ⟨hd, by omega, by omega, by omega, by omega, ?_⟩
  rw [t2, d2, ← List.append_assoc]
  have hl : (xs.take (k * K) ++ V ++ xs.drop (k * K)).length = (k + m + 1) * K := by simp only [List.length_append, List.length_take, hd]; omega
  rw [← hl]
  exact List.take_left
theorem ins_list' {α : Type} (cur xs V : List α) (K k n cap : Nat) (hk : k ≤ n) (hn : n + 1 ≤ cap) (hlen : cur.length = cap * K) (hx : xs.length = n * K) (ht : cur.take (k * K) = xs.take (k * K)) (hV : V.length = K) (cur2 : List α) (h2 : cur2 = cur.take (k * K) ++ V ++ cur.drop (k * K + V.length)) :
    (xs.drop (k * K)).length = (n - k) * K ∧ k * K + V.length ≤ cap * K ∧ cur2.length = cap * K ∧ (k + 1) * K + (n - k) * K ≤ cap * K ∧ (cur2.take ((k + 1) * K) ++ xs.drop (k * K) ++ cur2.drop ((k + 1) * K + (xs.drop (k * K)).length)).length = cap * K ∧
    (cur2.take ((k + 1) * K) ++ xs.drop (k * K) ++ cur2.drop ((k + 1) * K + (xs.drop (k * K)).length)).take ((n + 1) * K) = xs.take (k * K) ++ V ++ xs.drop (k * K) := by
  obtain ⟨m, rfl⟩ : ∃ m, n = k + m := ⟨n - k, by omega⟩
  obtain ⟨c, rfl⟩ : ∃ c, cap = k + m + 1 + c := ⟨cap - (k + m + 1), by omega⟩
  have e1 : (k + m + 1 + c) * K = k * K + m * K + K + c * K := by simp only [Nat.add_mul, Nat.one_mul]
  have e2 : (k + m) * K = k * K + m * K := by simp only [Nat.add_mul]
  have e3 : (k + 1) * K = k * K + K := by simp only [Nat.add_mul, Nat.one_mul]
  have e4 : (k + m + 1) * K = k * K + m * K + K := by simp only [Nat.add_mul, Nat.one_mul]
  have hd : (xs.drop (k * K)).length = m * K := by rw [List.length_drop]; omega
  have l2 : cur2.length = cur.length := by rw [h2]; exact len_splice3 _ _ _ (by omega)
  have t2 : cur2.take ((k + 1) * K) = xs.take (k * K) ++ V := by
    have h := take_splice3 cur V (k * K) (by omega)
    rw [← h2, hV, ← e3, ht] at h
    exact h
  have l3 : (cur2.take ((k + 1) * K) ++ xs.drop (k * K) ++ cur2.drop ((k + 1) * K + (xs.drop (k * K)).length)).length = cur2.length := len_splice3 _ _ _ (by omega)
  rw [show k + m - k = m by omega]
  refine ⟨hd, by omega, by omega, by omega, by omega, ?_⟩
  have h := take_splice3 cur2 (xs.drop (k * K)) ((k + 1) * K) (by omega)
  have hn' : (k + m + 1) * K = (k + 1) * K + (xs.drop (k * K)).length := by omega
  rw [hn', h, t2]
theorem wpList_appendX {w : World} {ops : Array Oper} {rest : List Oper} {o : Oper} {a : Act} {Q : Exit → Act → World → Prop} (hw : Region.wanted o (yielded ops a.tmps) = true) (s x : Operand) (t : TypeId)
    (ho : o.op = .call { callee := .builtin .append, args := #[s, x], argTypes := #[t, t] })
    {base : Nat} {e : TypeId} {z : Value} {size bytes : Nat} (hinf : infoIs P e z size bytes) (ht : P.underlying t = some (.slice e)) (hzs : z.cells.size = size) (hsz : 0 < size) (hby : 0 < bytes)
    {v : Value} {n : Nat} {xs : List Value} (hown : w.ownsRow base e size v n xs) (hb : base ≤ w.heap.size)
    {vb : Nat} {te : TypeId} {fr : Nat × Nat} {cs : Array Value} (hvb : w.heap[vb]? = some (.cells cs te fr)) (hcs : cs.size = size) (h1 : ∀ u ∈ cs.toList, u.oneCell' = true) (hbytes : (n + 1) * bytes ≤ 140737488355328)
    (hs : a.eval s = v) (hx : a.eval x = .slice (some ⟨vb, 0, none⟩) 1 1)
    (h : ∀ v' w', w'.ownsRow base e size v' (n + 1) (xs ++ cs.toList) → Upd (fun k => v.ownBlock = some k) w w' → wpList P ops Q rest (a.put o.dst v') w') : wpList P ops Q (o :: rest) a w := by
  obtain ⟨i, hi, hz, hsize, hbt⟩ := info_parts hinf
  have hle : n + 1 ≤ (n + 1) * bytes := Nat.le_mul_of_pos_right _ hby
  refine wpList_yes hw fun K hK => ?_
  refine wp_append_own _ s x t ho base e i z size bytes ht hi hz hsize hbt hzs hsz v n xs hs hown ⟨vb, 0, none⟩ 1 1 cs.toList hx (by simp [hcs]) ?_ h1 (by unfold maxLen; omega) hbytes hb ?_
  · intro j u hu
    rw [addr_add, Nat.zero_add]
    simp only [World.cell?, hvb]
    simpa using hu
  · intro v' w' hown' hgrow _
    exact hK _ _ (h v' w' hown' ((Upd.refl _ w).grown hgrow (fun k hk => .inl hk)))
theorem cells_of_blk {w : World} {g : Nat} {cur : Array Value} {e : TypeId} {fr : Nat × Nat} (hg : w.heap[g]? = some (.cells cur e fr)) (i : Nat) (u : Value) (h : cur.toList[i]? = some u) : w.cell? ((⟨g, 0, none⟩ : Addr).add i) = some u := by
  rw [addr_add, Nat.zero_add]
  simp only [World.cell?, hg]
  simpa using h
theorem cells_of_row {w : World} {g : Nat} {cur : Array Value} {e : TypeId} (hg : w.heap[g]? = some (.cells cur e (0, 0))) {n : Nat} {xs : List Value} (ht : cur.toList.take n = xs) (i : Nat) (u : Value) (h : xs[i]? = some u) : w.cell? ⟨g, i, none⟩ = some u := by
  subst ht
  have hi := (List.getElem?_eq_some_iff.1 h).1
  rw [List.length_take] at hi
  rw [List.getElem?_take, if_pos (by omega)] at h
  simp only [World.cell?, hg]
  simpa using h
end
end Go.Proofs.YtmacceamebdelaaDoor
