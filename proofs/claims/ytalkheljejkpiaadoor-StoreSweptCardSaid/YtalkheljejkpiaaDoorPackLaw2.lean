/- Packs in plain Lean: a pack that was written is read; how long it is. -/
import Derived.Test.YtalkheljejkpiaaDoorPackLaw
namespace Go.Proofs.YtalkheljejkpiaaDoor
set_option linter.unusedVariables false
set_option linter.unusedSimpArgs false

section
variable (sm : ByteArray → ByteArray)
/-- What is told of n objects from place k on. -/
def restP (out l : List ByteArray) : Nat → Nat → List UInt8
  | 0, _ => []
  | n + 1, k => encCh sm out (l.getD k noB) (chF sm out l k) ++ restP out l n (k + 1)
theorem packG_rest (out l : List ByteArray) : ∀ n k, (packG sm out l (k + n)).1 = (packG sm out l k).1 ++ restP sm out l n k
  | 0, k => by simp [restP]
  | n + 1, k => by
    have := packG_rest out l n (k + 1)
    rw [show k + (n + 1) = k + 1 + n by omega, this, packG_succ]
    simp [restP]
theorem rowWr_zero {l : List ByteArray} (h : checkWr l = 0) {k : Nat} (hk : k < l.length) : (decodeF (l.getD k noB)).2 = 0 ∧ hasB (l.take k) (l.getD k noB) ≠ true := by
  have := firstE_zero h k (Nat.zero_le _) (by omega)
  unfold rowWr at this
  by_cases c : (decodeF (l.getD k noB)).2 ≠ 0
  · rw [if_pos c] at this; exact absurd this c
  · rw [if_neg c] at this
    by_cases d : hasB (l.take k) (l.getD k noB) = true
    · rw [if_pos d] at this; cases this
    · exact ⟨by simpa using c, d⟩
theorem take_snocD {l : List ByteArray} {k : Nat} (hk : k < l.length) : l.take k ++ [l.getD k noB] = l.take (k + 1) := by
  rw [List.take_succ_eq_append_getElem hk, List.getD, List.getElem?_eq_getElem hk]; rfl
theorem readG_told (hsm : ∀ b, (sm b).size = 32) {l out : List ByteArray} {by_ : ByteArray → Option ByteArray} (hw : checkWr l = 0) (hl : l.length ≤ 400)
    (hb : ∀ i, i < l.length → (chF sm out l i).1 = 2 → by_ (sm (out.getD (chF sm out l i).2.1 noB)) = some (out.getD (chF sm out l i).2.1 noB) ∨ by_ (sm (out.getD (chF sm out l i).2.1 noB)) = none) :
    ∀ (n k : Nat) (r : ByteArray), k + n = l.length → r.data.toList = restP sm out l n k →
      readG by_ n (r, 0) (l.take k) (packG sm out l k).2 = (l, 0) ∨ (readG by_ n (r, 0) (l.take k) (packG sm out l k).2 = ([], 11) ∧ ∃ i, i < l.length ∧ (chF sm out l i).1 = 2 ∧ by_ (sm (out.getD (chF sm out l i).2.1 noB)) = none)
  | 0, k, r, hk, hr => by
    left
    have hz : r.size = 0 := by rw [← toList_length, hr]; rfl
    rw [readG, endP, if_neg (by show ¬ 0 < r.size; omega), List.take_of_length_le (by omega)]
  | n + 1, k, r, hk, hr => by
    have hkl : k < l.length := by omega
    obtain ⟨hd, hn⟩ := rowWr_zero hw hkl
    have hc : ChOk (l.getD k noB) (l.take k) (packG sm out l k).2 out (chF sm out l k) := bestF_ok _ _ _ _
    obtain ⟨h1, h2⟩ := one_told sm (by_ := by_) (r := r) (y := restP sm out l n (k + 1)) hsm hc (decode_size hd) (by rw [List.length_take]; omega) hr
    by_cases hx : (chF sm out l k).1 = 2 ∧ by_ (sm (out.getD (chF sm out l k).2.1 noB)) = none
    · right
      refine ⟨?_, k, hkl, hx.1, hx.2⟩
      have e := h2 hx.1 hx.2
      rw [readG, if_pos (by rw [e]; decide), e]
    · have ho : (chF sm out l k).1 ≠ 2 ∨ by_ (sm (out.getD (chF sm out l k).2.1 noB)) = some (out.getD (chF sm out l k).2.1 noB) := by
        by_cases h : (chF sm out l k).1 = 2
        · rcases hb k hkl h with g | g
          · exact .inr g
          · exact absurd ⟨h, g⟩ hx
        · exact .inl h
      obtain ⟨r', e1, e2⟩ := h1 ho
      have ih := readG_told hsm hw hl hb n (k + 1) r' (by omega) e2
      have es : readG by_ (n + 1) (r, 0) (l.take k) (packG sm out l k).2 = readG by_ n (r', 0) (l.take (k + 1)) (packG sm out l (k + 1)).2 := by
        rw [readG, e1]
        simp only
        rw [if_neg (by simp), if_neg (fun c => c hd), if_neg hn, take_snocD hkl, packG_succ]
      rw [es]; exact ih
theorem packB_bytes (out l : List ByteArray) : (packB sm out l).data.toList = [80] ++ (enc l.length ++ restP sm out l l.length 0) := by
  have := packG_rest sm out l l.length 0
  rw [Nat.zero_add] at this
  show (packG sm out l l.length).1 = _
  rw [this]
  simp [packG]
theorem writeF_ok {l out : List ByteArray} {s : ByteArray} (h : writeF sm l out = (s, 0)) : l.length ≤ 400 ∧ out.length ≤ 400 ∧ checkWr l = 0 ∧ s = packB sm out l ++ sm (packB sm out l) := by
  unfold writeF at h
  by_cases c : 400 < l.length ∨ 400 < out.length
  · rw [if_pos c] at h; injection h with _ h; cases h
  · rw [if_neg c] at h
    by_cases d : checkWr l ≠ 0
    · rw [if_pos d] at h; injection h with _ h; exact absurd h d
    · rw [if_neg d] at h
      injection h with h _
      exact ⟨by omega, by omega, by simpa using d, h.symm⟩
theorem writeF_bad {l out : List ByteArray} (h : (writeF sm l out).2 ≠ 0) : (writeF sm l out).1 = noB := by
  unfold writeF at h ⊢
  by_cases c : 400 < l.length ∨ 400 < out.length
  · rw [if_pos c]
  · rw [if_neg c] at h ⊢
    by_cases d : checkWr l ≠ 0
    · rw [if_pos d]
    · rw [if_neg d] at h; exact absurd rfl h
theorem packB_size (out l : List ByteArray) : 2 ≤ (packB sm out l).size := by
  rw [← toList_length, packB_bytes]
  have := enc_pos l.length
  simp only [List.length_append, List.length_cons, List.length_nil]
  omega
theorem read_told (hsm : ∀ b, (sm b).size = 32) {l out outs : List ByteArray} {s : ByteArray} (h : writeF sm l out = (s, 0)) :
    readF sm s outs = readG (byF sm outs) l.length (⟨(restP sm out l l.length 0).toArray⟩, 0) [] [] := by
  obtain ⟨h1, h2, h3, rfl⟩ := writeF_ok sm h
  have hz := packB_size sm out l
  obtain ⟨B, hB⟩ : ∃ B, B = packB sm out l := ⟨_, rfl⟩
  have hb := packB_bytes sm out l
  rw [← hB] at hz hb ⊢
  have hs : (B ++ sm B).size = B.size + 32 := by rw [ByteArray.size_append, hsm]
  have e1 : (B ++ sm B).extract 0 ((B ++ sm B).size - 32) = B := by rw [hs, Nat.add_sub_cancel]; exact extract_append_left _ _
  have e2 : (B ++ sm B).extract ((B ++ sm B).size - 32) (B ++ sm B).size = sm B := by
    have : (B ++ sm B).size - 32 = B.size := by omega
    rw [this]; exact extract_append_right _ _
  have e3 : (bodyP (B ++ sm B)).1.data.toList = enc l.length ++ restP sm out l l.length 0 := by
    show ((B ++ sm B).extract 1 ((B ++ sm B).size - 32)).data.toList = _
    rw [toList_extract, toList_append, hs, hb]
    have : B.size + 32 - 32 - 1 = (enc l.length ++ restP sm out l l.length 0).length := by
      have := toList_length B
      rw [hb] at this
      simp only [List.length_append, List.length_cons, List.length_nil] at this ⊢
      omega
    rw [this]
    simp only [List.cons_append, List.nil_append, List.drop_succ_cons, List.drop_zero]
    exact List.take_left' rfl
  obtain ⟨r, e4, e5⟩ := rNum_fwd (n := l.length) (s := (bodyP (B ++ sm B)).1) (y := restP sm out l l.length 0) (by omega) e3
  have e6 : r = ⟨(restP sm out l l.length 0).toArray⟩ := bs_ext (by rw [e5])
  have e7 : rNum (bodyP (B ++ sm B)) = (l.length, (r, 0)) := e4
  unfold readF
  rw [if_neg, e1, e2, if_neg (by simp), e7]
  · simp only
    rw [if_neg (by simp), if_neg (by omega), e6]
  · rintro (c | c)
    · omega
    · apply c
      rw [toList_append, hb]; rfl
theorem read_back (hsm : ∀ b, (sm b).size = 32) {l out outs : List ByteArray} {s : ByteArray} (h : writeF sm l out = (s, 0)) (hb : ∀ x ∈ out, byF sm outs (sm x) = some x) : readF sm s outs = (l, 0) := by
  obtain ⟨h1, h2, h3, _⟩ := writeF_ok sm h
  have hat : ∀ i, i < l.length → (chF sm out l i).1 = 2 → out.getD (chF sm out l i).2.1 noB ∈ out := by
    intro i hi h2
    have hc : ChOk (l.getD i noB) (l.take i) (packG sm out l i).2 out (chF sm out l i) := bestF_ok _ _ _ _
    have := (hc.two h2).1
    rw [List.getD, List.getElem?_eq_getElem this]; exact List.getElem_mem this
  rw [read_told sm hsm h]
  rcases readG_told sm hsm h3 h1 (by_ := byF sm outs) (fun i hi h2 => .inl (hb _ (hat i hi h2))) l.length 0 ⟨(restP sm out l l.length 0).toArray⟩ (by omega) rfl with g | ⟨_, i, hi, g2, g3⟩
  · exact g
  · rw [hb _ (hat i hi g2)] at g3; cases g3
theorem read_thin (hsm : ∀ b, (sm b).size = 32) {l out : List ByteArray} {s : ByteArray} (h : writeF sm l out = (s, 0)) : readF sm s [] = (l, 0) ∨ (readF sm s [] = ([], 11) ∧ 0 < out.length) := by
  obtain ⟨h1, h2, h3, _⟩ := writeF_ok sm h
  rw [read_told sm hsm h]
  rcases readG_told sm hsm h3 h1 (by_ := byF sm []) (fun i hi h2 => .inr rfl) l.length 0 ⟨(restP sm out l l.length 0).toArray⟩ (by omega) rfl with g | ⟨g, i, hi, g2, _⟩
  · exact .inl g
  · have hc : ChOk (l.getD i noB) (l.take i) (packG sm out l i).2 out (chF sm out l i) := bestF_ok _ _ _ _
    have := (hc.two g2).1
    exact .inr ⟨g, by omega⟩
def sizeP (l : List ByteArray) : Nat := (l.map fun s => s.size + 3).sum
theorem sizeP_take {l : List ByteArray} {k : Nat} (h : k < l.length) : sizeP (l.take (k + 1)) = sizeP (l.take k) + (l.getD k noB).size + 3 := by
  rw [← take_snocD h]; simp [sizeP]; omega
theorem encT_len {s : ByteArray} (h : s.size ≤ 4096) : (encT s).length ≤ s.size + 2 := by
  have := enc2 (n := s.size) (by omega)
  simp only [encT, List.length_append, toList_length]; omega
theorem encCh_len (hsm : ∀ b, (sm b).size = 32) {l out : List ByteArray} {deep : List Nat} {s : ByteArray} {c : Ch} (hc : ChOk s l deep out c) (hs8 : s.size ≤ 8192) (hl : l.length ≤ 400) : (encCh sm out s c).length ≤ s.size + 3 := by
  unfold encCh
  rcases hc.kind with k | k | k
  · rw [if_pos k]
    have := enc2 (n := s.size) hs8
    have := enc_len 0 0 (by omega)
    simp only [List.length_append, toList_length]; omega
  · obtain ⟨h1, h2, h3, h4, _⟩ := hc.one k
    rw [if_neg (by rw [k]; decide), if_pos k]
    have := enc2 (n := c.2.1) (by omega)
    have := enc_len 1 0 (by omega)
    have := encT_len h4
    simp only [List.length_append]; omega
  · obtain ⟨h1, h2, h3, _⟩ := hc.two k
    rw [if_neg (by rw [k]; decide), if_neg (by rw [k]; decide)]
    have := enc_len 2 0 (by omega)
    have := encT_len h3
    simp only [List.length_append, toList_length, hsm]; omega
theorem packG_size (hsm : ∀ b, (sm b).size = 32) {l out : List ByteArray} (hw : checkWr l = 0) (hl : l.length ≤ 400) : ∀ k, k ≤ l.length → (packG sm out l k).1.length ≤ 3 + sizeP (l.take k)
  | 0, _ => by
    have := enc2 (n := l.length) (by omega)
    simp only [packG, List.length_append, List.length_cons, List.length_nil]; omega
  | k + 1, hk => by
    have ih := packG_size hsm hw hl (out := out) k (by omega)
    have hkl : k < l.length := by omega
    have hc : ChOk (l.getD k noB) (l.take k) (packG sm out l k).2 out (chF sm out l k) := bestF_ok _ _ _ _
    have := encCh_len sm hsm hc (decode_size (rowWr_zero hw hkl).1) (by rw [List.length_take]; omega)
    rw [packG_succ, sizeP_take hkl]
    simp only [List.length_append]
    omega
theorem write_size (hsm : ∀ b, (sm b).size = 32) {l out : List ByteArray} {s : ByteArray} (h : writeF sm l out = (s, 0)) : s.size ≤ sizeP l + 40 := by
  obtain ⟨h1, h2, h3, rfl⟩ := writeF_ok sm h
  rw [ByteArray.size_append, hsm]
  have := packG_size sm hsm (out := out) h3 h1 l.length (Nat.le_refl _)
  rw [List.take_length] at this
  have e : (packB sm out l).size = (packG sm out l l.length).1.length := by rw [← toList_length]; rfl
  omega
theorem sizeP_bound {l : List ByteArray} (hw : checkWr l = 0) : ∀ k, k ≤ l.length → sizeP (l.take k) ≤ k * 8195
  | 0, _ => by simp [sizeP]
  | k + 1, hk => by
    have ih := sizeP_bound hw k (by omega)
    have := decode_size (rowWr_zero hw (show k < l.length by omega)).1
    rw [sizeP_take (by omega)]
    omega
theorem read_turned {t : ByteArray} {out : List ByteArray} (h : ¬ t.size < 33) : (readF sm t out).2 = 5 ∨ ((readF sm t out).2 = 2 ∧ t.data.toList.getD 0 0 ≠ 80) ∨ sm (t.extract 0 (t.size - 32)) = t.extract (t.size - 32) t.size := by
  unfold readF
  by_cases c : t.data.toList.getD 0 0 ≠ 80
  · rw [if_pos (.inr c)]; exact .inr (.inl ⟨rfl, c⟩)
  · rw [if_neg (by rintro (a | a); exact h a; exact c a)]
    by_cases d : sm (t.extract 0 (t.size - 32)) ≠ t.extract (t.size - 32) t.size
    · rw [if_pos d]; exact .inl rfl
    · exact .inr (.inr (by simpa using d))
end
end Go.Proofs.YtalkheljejkpiaaDoor
