/- The walks of the reader's methods. -/
import Derived.Test.YtinhjnbgblieeaaDoorWireText
namespace Go.Proofs.YtinhjnbgblieeaaDoor
open Go.RowKit
set_option linter.unusedVariables false

/-- Block g is a reader: what is left, and the error. -/
structure RdSt (w : World) (g : Nat) (st : ByteArray × Int) : Prop where
  blk : w.heap[g]? = some (.cells #[.string st.1, .int .i64 st.2] 112 (0, 0))

theorem RdSt.upd {w w' : World} {g : Nat} {st : ByteArray × Int} (h : RdSt w g st) {S : Nat → Prop} (hu : Upd S w w') (h1 : ¬ S g) : RdSt w' g st :=
  ⟨by rw [hu.block g (lt_of_block h.blk) h1]; exact h.blk⟩
theorem RdSt.below {w w' : World} {g : Nat} {st : ByteArray × Int} (h : RdSt w g st) (hu : Below w.heap.size w w') : RdSt w' g st :=
  h.upd (S := fun _ => False) (Upd.of_below hu) (fun h => h)

/-- What a method leaves. -/
def RdTo (w : World) (g : Nat) (v : Value) (st' : ByteArray × Int) (e : Ending) (w' : World) : Prop :=
  e = .returned v ∧ RdSt w' g st' ∧ Upd (fun k => k = g) w w'

theorem RdTo.same {w : World} {g : Nat} {v : Value} {st : ByteArray × Int} (h : RdSt w g st) : RdTo w g v st (.returned v) w := ⟨rfl, h, Upd.refl _ _⟩
theorem RdTo.mk {w : World} {g : Nat} {v : Value} {st : ByteArray × Int} (h : RdSt w g st) (r : ByteArray) (e : Int) :
    RdTo w g v (r, e) (.returned v) ((w.setCell ⟨g, 0, none⟩ (.string r)).setCell ⟨g, 1, none⟩ (.int .i64 e)) :=
  ⟨rfl, ⟨two_setCell1 (two_setCell0 h.blk)⟩, ((Upd.refl (fun k => k = g) w).setCell (a := ⟨g, 0, none⟩) (.inl rfl) _).setCell (a := ⟨g, 1, none⟩) (.inl rfl) _⟩
theorem RdTo.mk1 {w : World} {g : Nat} {v : Value} {r : ByteArray} {e0 : Int} (h : RdSt w g (r, e0)) (e : Int) :
    RdTo w g v (r, e) (.returned v) (w.setCell ⟨g, 1, none⟩ (.int .i64 e)) :=
  ⟨rfl, ⟨two_setCell1 h.blk⟩, (Upd.refl (fun k => k = g) w).setCell (a := ⟨g, 1, none⟩) (.inl rfl) _⟩
theorem RdTo.mk0 {w : World} {g : Nat} {v : Value} {r0 : ByteArray} {e : Int} (h : RdSt w g (r0, e)) (r : ByteArray) :
    RdTo w g v (r, e) (.returned v) (w.setCell ⟨g, 0, none⟩ (.string r)) :=
  ⟨rfl, ⟨two_setCell0 h.blk⟩, (Upd.refl (fun k => k = g) w).setCell (a := ⟨g, 0, none⟩) (.inl rfl) _⟩

/-- What the methods do: the answer, and the state behind it. -/
def rNum (st : ByteArray × Int) : Nat × (ByteArray × Int) :=
  if st.2 ≠ 0 then (0, st) else match get st.1.data.toList with
    | none => (0, (st.1, 2))
    | some (n, k) => (n, (st.1.extract k st.1.size, 0))
def rTxt (st : ByteArray × Int) : ByteArray × (ByteArray × Int) :=
  if st.2 ≠ 0 then (⟨#[]⟩, st) else ((getText st.1).1, (st.1.extract (getText st.1).2.1 st.1.size, ((getText st.1).2.2 : Int)))
def rByt (st : ByteArray × Int) (n : Int) : ByteArray × (ByteArray × Int) :=
  if st.2 ≠ 0 then (⟨#[]⟩, st) else if n < 0 ∨ st.1.size < n then (⟨#[]⟩, (st.1, 2)) else (st.1.extract 0 n.toNat, (st.1.extract n.toNat st.1.size, 0))

theorem getText_le (s : ByteArray) : (getText s).2.1 ≤ s.size := by
  unfold getText
  cases hg : get s.data.toList with
  | none => simp
  | some nk =>
    obtain ⟨n, k⟩ := nk
    simp only
    split
    · simp
    · split
      · simp
      · simp only; omega

theorem extract_allR (s : ByteArray) : s.extract 0 s.size = s := by
  apply bs_ext; rw [toList_take, List.take_of_length_le (by rw [toList_length]; omega)]

set_option maxRecDepth 100000 in
set_option maxHeartbeats 400000 in
theorem rNumber_any {w : World} {g : Nat} {st : ByteArray × Int} (hst : RdSt w g st) (hs : st.1.size ≤ maxLen) :
    Calls Tryd.prog 44 #[.pointer (some ⟨g, 0, none⟩)] w (RdTo w g (.int .i64 (rNum st).1) (rNum st).2) := by
  obtain ⟨s, er⟩ := st
  obtain ⟨c0, c1, f0, f1⟩ := cell_of_two hst.blk
  simp only at hs c0 c1
  unfold rNum
  by_cases he : er = 0
  · subst he
    rw [if_neg (by simp)]
    cases hg : get s.data.toList with
    | none =>
      have HG := Lib.hid hg; clear hg
      have hx := extract_allR s
      simp only
      go_enter Tryd.func44, Tryd.ntmps44
      go_wp2_with fail
      refine (get_any _ _ hs).mono ?_
      rintro e w1 ⟨rfl, rfl⟩
      rw [HG.out, getV]
      go_wp2_with fail
      go_ret
      exact RdTo.mk hst _ _
    | some nk =>
      obtain ⟨n, k⟩ := nk
      obtain ⟨hn, hkk, htt, hk1, hk9, hkl⟩ := get_some hg
      clear hkk htt
      rw [toList_length] at hkl
      have HG := Lib.hid hg; clear hg
      simp only
      go_enter Tryd.func44, Tryd.ntmps44
      go_wp2_with fail
      refine (get_any _ _ hs).mono ?_
      rintro e w1 ⟨rfl, rfl⟩
      rw [HG.out, getV]
      go_wp2_with fail
      go_ret
      exact RdTo.mk hst _ _
  · rw [if_pos he]
    have he' : (er == 0) = false := by simpa using he
    have he2 : (er != 0) = true := by simpa using he
    clear he
    go_enter Tryd.func44, Tryd.ntmps44
    go_wp2_with fail
    go_ret
    exact RdTo.same hst

set_option maxRecDepth 100000 in
set_option maxHeartbeats 400000 in
theorem rText_any {w : World} {g : Nat} {st : ByteArray × Int} (hst : RdSt w g st) (hs : st.1.size ≤ 4611686018427387904) :
    Calls Tryd.prog 48 #[.pointer (some ⟨g, 0, none⟩)] w (RdTo w g (.string (rTxt st).1) (rTxt st).2) := by
  obtain ⟨s, er⟩ := st
  obtain ⟨c0, c1, f0, f1⟩ := cell_of_two hst.blk
  simp only at hs c0 c1
  unfold rTxt
  by_cases he : er = 0
  · subst he
    rw [if_neg (by simp)]
    have hk := getText_le s
    generalize hr : getText s = r at *
    obtain ⟨t, k, e'⟩ := r
    have HR := Lib.hid hr; clear hr
    simp only at hk ⊢
    go_enter Tryd.func48, Tryd.ntmps48
    go_wp2_with fail
    refine (getText_any _ _ hs).mono ?_
    rintro e w1 ⟨rfl, rfl⟩
    rw [HR.out, textV]
    go_wp2_with fail
    go_ret
    exact RdTo.mk hst _ _
  · rw [if_pos he]
    have he' : (er == 0) = false := by simpa using he
    have he2 : (er != 0) = true := by simpa using he
    clear he
    go_enter Tryd.func48, Tryd.ntmps48
    go_wp2_with fail
    go_ret
    exact RdTo.same hst

set_option maxRecDepth 100000 in
set_option maxHeartbeats 400000 in
theorem rBytes_any {w : World} {g : Nat} {st : ByteArray × Int} (hst : RdSt w g st) (hs : st.1.size ≤ 4611686018427387904) (n : Int) :
    Calls Tryd.prog 45 #[.pointer (some ⟨g, 0, none⟩), .int .i64 n] w (RdTo w g (.string (rByt st n).1) (rByt st n).2) := by
  obtain ⟨s, er⟩ := st
  obtain ⟨c0, c1, f0, f1⟩ := cell_of_two hst.blk
  simp only at hs c0 c1
  unfold rByt
  by_cases he : er = 0
  · subst he
    rw [if_neg (by simp)]
    simp only
    by_cases h0 : n < 0
    · rw [if_pos (.inl h0)]
      go_enter Tryd.func45, Tryd.ntmps45
      go_wp2_with fail
      go_ret
      exact RdTo.mk1 hst _
    · by_cases h1 : s.size < n
      · rw [if_pos (.inr h1)]
        go_enter Tryd.func45, Tryd.ntmps45
        go_wp2_with fail
        go_ret
        exact RdTo.mk1 hst _
      · rw [if_neg (by omega)]
        obtain ⟨k, rfl⟩ := Int.eq_ofNat_of_zero_le (show 0 ≤ n by omega)
        rw [Int.toNat_natCast]
        go_enter Tryd.func45, Tryd.ntmps45
        go_wp2_with fail
        go_ret
        exact RdTo.mk0 hst _
  · rw [if_pos he]
    have he' : (er == 0) = false := by simpa using he
    have he2 : (er != 0) = true := by simpa using he
    clear he
    go_enter Tryd.func45, Tryd.ntmps45
    go_wp2_with fail
    go_ret
    exact RdTo.same hst

set_option maxRecDepth 100000 in
set_option maxHeartbeats 400000 in
theorem rLeft_any {w : World} {g : Nat} {st : ByteArray × Int} (hst : RdSt w g st) :
    Calls Tryd.prog 47 #[.pointer (some ⟨g, 0, none⟩)] w fun e w' => e = .returned (.int .i64 st.1.size) ∧ w = w' := by
  obtain ⟨c0, c1, f0, f1⟩ := cell_of_two hst.blk
  go_enter Tryd.func47, Tryd.ntmps47
  go_wp2_with fail
  go_ret
  exact ⟨rfl, rfl⟩

set_option maxRecDepth 100000 in
set_option maxHeartbeats 400000 in
theorem rBad_any {w : World} {g : Nat} {st : ByteArray × Int} (hst : RdSt w g st) :
    Calls Tryd.prog 46 #[.pointer (some ⟨g, 0, none⟩)] w fun e w' => e = .returned (.int .i64 st.2) ∧ w = w' := by
  obtain ⟨c0, c1, f0, f1⟩ := cell_of_two hst.blk
  go_enter Tryd.func46, Tryd.ntmps46
  go_wp2_with fail
  go_ret
  exact ⟨rfl, rfl⟩

set_option maxRecDepth 100000 in
set_option maxHeartbeats 400000 in
theorem read_any (s : ByteArray) (w : World) :
    Calls Tryd.prog 43 #[.string s] w fun e w' => e = .returned (.pointer (some ⟨w.heap.size, 0, none⟩)) ∧ RdSt w' w.heap.size (s, 0) ∧ Below w.heap.size w w' ∧ w'.heap.size = w.heap.size + 1 := by
  go_enter Tryd.func43, Tryd.ntmps43
  go_wp2_with fail
  go_ret
  exact ⟨rfl, ⟨heap_alloc_new _ _⟩, (Below.refl _ _).alloc (Nat.le_refl _) _, by simp⟩

end Go.Proofs.YtinhjnbgblieeaaDoor
