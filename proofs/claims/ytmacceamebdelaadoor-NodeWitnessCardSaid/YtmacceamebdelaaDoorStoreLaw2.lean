/- An object's file name is a good one; a Put on the empty disk goes well. -/
import Derived.Test.YtmacceamebdelaaDoorStoreLaw
import Derived.Test.YtmacceamebdelaaDoorSumUnhexLaw
import Derived.Test.YtmacceamebdelaaDoorObB
import Derived.Laws.RangeString
namespace Go.Proofs.YtmacceamebdelaaDoor
set_option linter.unusedVariables false
set_option linter.unusedSimpArgs false

def okC (c : UInt8) : Prop := c.toNat < 128 ∧ badN c.toNat = false
theorem idx_none {s : ByteArray} (h : ∀ c ∈ s.data.toList, okC c) : ∀ f pos, Lib.idxFuncFrom badN true s f pos = -1
  | 0, _ => rfl
  | f + 1, pos => by
    unfold Lib.idxFuncFrom
    by_cases hp : pos < s.size
    · have hm : okC s[pos] := h _ (by rw [show s[pos] = s.data.toList[pos]'(by rw [toList_length]; exact hp) from rfl]; exact List.getElem_mem _)
      rw [if_pos hp, decode_ascii s pos hp hm.1, if_neg (by simp only; rw [hm.2]; decide)]
      exact idx_none h f _
    · rw [if_neg hp]
theorem named_of {s : ByteArray} (h : ∀ c ∈ s.data.toList, okC c) (h0 : s ≠ nilB) (h1 : s.size ≤ 80) : namedD s = true := by
  have : hasP badN s = false := by
    unfold hasP Lib.idxFunc
    rw [idx_none h]; rfl
  unfold namedD
  rw [this, decide_eq_true h0, decide_eq_true h1]; rfl
theorem dg_ok : ∀ n, n < 16 → okC (dg n) := by
  have : ∀ n, n < 16 → (decide ((dg n).toNat < 128) && !badN (dg n).toNat) = true := by decide +kernel
  intro n hn
  have := this n hn
  simp only [Bool.and_eq_true, decide_eq_true_eq, Bool.not_eq_true'] at this
  exact this
theorem hex_ok (b : ByteArray) : ∀ c ∈ (hexF b).data.toList, okC c := by
  intro c hc
  have hc : c ∈ hexL b.data.toList := hc
  obtain ⟨x, _, hx⟩ := List.mem_flatMap.1 hc
  have := UInt8.toNat_lt x
  simp only [List.mem_cons, List.not_mem_nil, or_false] at hx
  rcases hx with rfl | rfl
  · exact dg_ok _ (by omega)
  · exact dg_ok _ (by omega)
theorem file_size (id : ByteArray) : (fileF id).size = 1 + 2 * id.size := by
  unfold fileF; rw [ByteArray.size_append, hexF_size]; rfl
theorem file_ok (id : ByteArray) : ∀ c ∈ (fileF id).data.toList, okC c := by
  intro c hc
  unfold fileF at hc
  rw [toList_append, List.mem_append] at hc
  rcases hc with hc | hc
  · have : c = 111 := by simpa using hc
    subst this; exact ⟨by decide, by decide⟩
  · exact hex_ok id c hc
theorem ne_nilB {s : ByteArray} (h : 0 < s.size) : s ≠ nilB := fun e => by rw [e] at h; exact absurd h (by decide)
theorem named_file {id : ByteArray} (h : id.size = 32) : namedD (fileF id) = true ∧ namedD (fileF id ++ dotNew) = true := by
  have hz := file_size id
  have hd : dotNew.size = 4 := rfl
  refine ⟨named_of (file_ok id) (ne_nilB (by omega)) (by omega), named_of (fun c hc => ?_) (ne_nilB (by rw [ByteArray.size_append]; omega)) (by rw [ByteArray.size_append]; omega)⟩
  rw [toList_append, List.mem_append] at hc
  rcases hc with hc | hc
  · exact file_ok id c hc
  · have : c = 46 ∨ c = 110 ∨ c = 101 ∨ c = 119 := by simpa [dotNew] using hc
    rcases this with rfl | rfl | rfl | rfl <;> exact ⟨by decide, by decide⟩
/-- A Save with power, room, good names and nothing of either name. -/
theorem save_new {d : Dsk} {n s : ByteArray} (hg : GoodL namedD d.files) (h1 : namedD n = true) (h2 : namedD (n ++ dotNew) = true) (hf : d.fuse < 0) (hn : fget (n ++ dotNew) d.files = none) (hl : d.files.length < 400) (hs : s.size ≤ 1048576) : (saveD namedD d n s).2 = 0 := by
  obtain ⟨l, f⟩ := d
  simp only at hg hf hn hl
  have hnf : ¬ (0 : Int) < f := by omega
  rw [save_3 hg (by rw [h1, h2]; simp) hn]
  have w1 : writeO namedD (n ++ dotNew) s l = (fput ⟨n ++ dotNew, nilB, s⟩ l, 0) := writeO_4 h2 hn (by omega) (by omega)
  have q1 : writeD namedD ⟨l, f⟩ (n ++ dotNew) s = (⟨fput ⟨n ++ dotNew, nilB, s⟩ l, f⟩, 0) := by
    unfold writeD
    rw [step_4 hg (by show f ≠ 0; omega) (by show (writeO namedD (n ++ dotNew) s l).2 = 0; rw [w1])]
    show ((⟨(writeO namedD (n ++ dotNew) s l).1, if 0 < f then f - 1 else f⟩, 0) : Dsk × Int) = _
    rw [w1, if_neg hnf]
  have g1 : GoodL namedD (fput ⟨n ++ dotNew, nilB, s⟩ l) := by
    have := write_inv (name := n ++ dotNew) (s := s) hg (by rw [w1])
    rwa [w1] at this
  have k1 : fget (n ++ dotNew) (fput ⟨n ++ dotNew, nilB, s⟩ l) = some ⟨n ++ dotNew, nilB, s⟩ := by
    show getL Fil.name _ (putL Fil.name _ _) = _
    rw [getL_put]; exact if_pos rfl
  obtain ⟨l1, hl1⟩ : ∃ l1, l1 = fput ⟨n ++ dotNew, nilB, s⟩ l := ⟨_, rfl⟩
  rw [← hl1] at q1 g1 k1
  have w2 := syncO_2 k1
  have q2 : syncD namedD ⟨l1, f⟩ (n ++ dotNew) = (⟨fput ⟨n ++ dotNew, nilB ++ s, nilB⟩ l1, f⟩, 0) := by
    unfold syncD
    rw [step_4 g1 (by show f ≠ 0; omega) (by show (syncO (n ++ dotNew) l1).2 = 0; rw [w2])]
    show ((⟨(syncO (n ++ dotNew) l1).1, if 0 < f then f - 1 else f⟩, 0) : Dsk × Int) = _
    rw [w2, if_neg hnf]
  have g2 : GoodL namedD (fput ⟨n ++ dotNew, nilB ++ s, nilB⟩ l1) := by
    have := sync_inv (name := n ++ dotNew) g1 (by rw [w2])
    rwa [w2] at this
  have k2 : fget (n ++ dotNew) (fput ⟨n ++ dotNew, nilB ++ s, nilB⟩ l1) = some ⟨n ++ dotNew, nilB ++ s, nilB⟩ := by
    show getL Fil.name _ (putL Fil.name _ _) = _
    rw [getL_put]; exact if_pos rfl
  obtain ⟨l2, hl2⟩ : ∃ l2, l2 = fput ⟨n ++ dotNew, nilB ++ s, nilB⟩ l1 := ⟨_, rfl⟩
  rw [← hl2] at q2 g2 k2
  rw [tail_3 q1.symm rfl q2.symm rfl]
  have w3 := renameO_3 (n := n) h1 k2
  unfold renameD
  show (stepD namedD ⟨l2, f⟩ (renameO namedD (n ++ dotNew) n)).2 = 0
  rw [step_4 g2 (by show f ≠ 0; omega) (by show (renameO namedD (n ++ dotNew) n l2).2 = 0; rw [w3])]
/-- What a fuse may be behind a step: itself, or one less, if it was above 0. -/
structure Fz (f g : Int) : Prop where
  low : f < 0 → g = f
  pos : 0 ≤ f → 0 ≤ g ∧ g ≤ f
theorem Fz.refl (f : Int) : Fz f f := ⟨fun _ => rfl, fun h => ⟨h, Int.le_refl _⟩⟩
theorem Fz.trans {f g h : Int} (a : Fz f g) (b : Fz g h) : Fz f h := by
  refine ⟨fun k => ?_, fun k => ?_⟩
  · have := a.low k; rw [b.low (by omega), this]
  · have := a.pos k; have := b.pos this.1; omega
theorem Fz.in {f g : Int} (a : Fz f g) (h : -9223372036854775808 ≤ f ∧ f ≤ 9223372036854775807) : -9223372036854775808 ≤ g ∧ g ≤ 9223372036854775807 := by
  by_cases k : f < 0
  · rw [a.low k]; exact h
  · have := a.pos (by omega); omega
theorem step_fz (d : Dsk) (op : List Fil → List Fil × Int) : Fz d.fuse (stepD namedD d op).1.fuse := by
  rcases step_cases namedD d op with ⟨h1, _⟩ | ⟨_, _, _, h1⟩
  · rw [h1]; exact Fz.refl _
  · rw [h1]
    show Fz d.fuse (if 0 < d.fuse then d.fuse - 1 else d.fuse)
    split
    · exact ⟨fun k => by omega, fun k => by omega⟩
    · exact Fz.refl _
theorem save_fz (d : Dsk) (n s : ByteArray) : Fz d.fuse (saveD namedD d n s).1.fuse := by
  unfold saveD
  split
  · exact Fz.refl _
  · split
    · exact Fz.refl _
    · obtain ⟨r, hr⟩ : ∃ r : Dsk × Int, r = if fget (n ++ dotNew) d.files = none then (d, 0) else removeD namedD d (n ++ dotNew) := ⟨_, rfl⟩
      have h0 : Fz d.fuse r.1.fuse := by
        rw [hr]
        split
        · exact Fz.refl _
        · exact step_fz _ _
      simp only [← hr]
      have h1 : Fz d.fuse (writeD namedD r.1 (n ++ dotNew) s).1.fuse := h0.trans (step_fz _ _)
      have h2 : Fz d.fuse (syncD namedD (writeD namedD r.1 (n ++ dotNew) s).1 (n ++ dotNew)).1.fuse := h1.trans (step_fz _ _)
      split
      · exact h0
      · split
        · exact h1
        · split
          · exact h2
          · exact h2.trans (step_fz _ _)
theorem put_fz (d : Dsk) (s : ByteArray) : Fz d.fuse (putF d s).1.fuse := by
  unfold putF
  split
  · exact Fz.refl _
  · split
    · exact Fz.refl _
    · split <;> exact save_fz _ _ _
theorem oA_size : (decodeF ⟨#[1, 1, 97]⟩).2 = 0 := by
  have := decode_encode good_oA (by rw [encO_oA]; decide)
  rw [encO_oA] at this
  show (decodeF ⟨[1, 1, 97].toArray⟩).2 = 0
  rw [this]
theorem goodL_nil : GoodL namedD [] := ⟨Nat.zero_le _, List.Pairwise.nil, fun f h => (by cases h), fun f h => (by cases h)⟩
theorem put_oA : ∃ a, putF ⟨[], -1⟩ ⟨#[1, 1, 97]⟩ = (a, sumF ⟨#[1, 1, 97]⟩, 0) ∧ getF a (sumF ⟨#[1, 1, 97]⟩) = (⟨#[1, 1, 97]⟩, 0) ∧ -9223372036854775808 ≤ a.fuse ∧ a.fuse ≤ 9223372036854775807 := by
  obtain ⟨s, hs⟩ : ∃ s : ByteArray, s = ⟨#[1, 1, 97]⟩ := ⟨_, rfl⟩
  have hd : (decodeF s).2 = 0 := by rw [hs]; exact oA_size
  have hz : s.size ≤ 1048576 := by rw [hs]; decide
  rw [← hs]
  have h32 : (sumF s).size = 32 := sumF_size s
  have hno : (getF ⟨[], -1⟩ (sumF s)).2 ≠ 0 := by
    rw [getF_2 (by simpa using h32) (readD_2 goodL_nil rfl) (by decide)]; decide
  have hsv := save_new (d := ⟨[], -1⟩) (n := fileF (sumF s)) (s := s) goodL_nil (named_file h32).1 (named_file h32).2 (by decide) rfl (by decide) hz
  obtain ⟨⟨a, e⟩, hq⟩ : ∃ q, q = saveD namedD ⟨[], -1⟩ (fileF (sumF s)) s := ⟨_, rfl⟩
  rw [← hq] at hsv
  obtain rfl : e = 0 := hsv
  have hp := putF_4 hd hno hq.symm
  obtain ⟨g1, g2, g3⟩ := save_good hq.symm
  refine ⟨a, hp, ?_, ?_⟩
  · rw [get_of_file g2 g3 h32 (by show sumF (s ++ nilB) = _; rw [app_nil])]
    show (s ++ nilB, (0 : Int)) = _; rw [app_nil]
  · have := (save_fz ⟨[], -1⟩ (fileF (sumF s)) s).in (by decide)
    rw [← hq] at this; exact this
end Go.Proofs.YtmacceamebdelaaDoor
