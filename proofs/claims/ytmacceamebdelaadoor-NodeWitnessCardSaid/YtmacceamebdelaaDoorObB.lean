/- Texts put together: ObjectKeep Object6 Object6b Object6d. -/
import Derived.Test.YtmacceamebdelaaDoorObA
import Derived.Test.YtmacceamebdelaaDoorObject5
import Derived.Test.YtmacceamebdelaaDoorBas
/-! ObjectKeep -/
namespace Go.Proofs.YtmacceamebdelaaDoor
open Go.RowKit
set_option linter.unusedVariables false
set_option linter.unusedSimpArgs false

theorem enc_ok {o : ObjS} (h : (encodeF o).2 = 0) : goodF o = 0 ∧ (encodeF o).1 = ⟨(encO o).toArray⟩ ∧ (encO o).length ≤ 8192 := by
  by_cases h1 : goodF o = 0
  · by_cases h2 : 8192 < (encO o).length
    · rw [encodeF_2 h1 h2] at h; cases h
    · rw [encodeF_3 h1 h2]; exact ⟨h1, rfl, by omega⟩
  · rw [encodeF_1 h1] at h; exact absurd h h1
theorem enc_bad {o : ObjS} (h : (encodeF o).2 ≠ 0) : (encodeF o).1 = noB := by
  by_cases h1 : goodF o = 0
  · by_cases h2 : 8192 < (encO o).length
    · rw [encodeF_2 h1 h2]
    · rw [encodeF_3 h1 h2] at h; exact absurd rfl h
  · rw [encodeF_1 h1]
def oA : ObjS := ⟨1, ⟨#[97]⟩, [], noB, [], noB, noB, 0, noB⟩
theorem line_no : lineF noB = true := by
  have : hasP badLine noB = false := by rfl
  unfold lineF; rw [this]; rfl
theorem good_oA : goodF oA = 0 := by
  refine (goodF_8 (o := oA) (by decide) ⟨.inl rfl, .inr rfl, .inr ⟨rfl, rfl, rfl⟩, .inr rfl, .inr (.inr ⟨rfl, rfl⟩)⟩ (by decide) (by decide) rfl rfl ?_).trans (if_neg (by decide))
  intro h
  rcases h with h | h | h | h
  · exact absurd h.1 (by decide)
  · exact absurd h.1 (by decide)
  · have : lineF noB = false := h
    rw [line_no] at this; cases this
  · have : lineF noB = false := h
    rw [line_no] at this; cases this
theorem encO_oA : encO oA = [1, 1, 97] := by
  have h1 : enc (1 : Int).toNat = [1] := enc_small 1 (by omega)
  have h2 : enc (⟨#[97]⟩ : ByteArray).size = [1] := enc_small 1 (by omega)
  show enc (1 : Int).toNat ++ bodyO oA = _
  rw [h1, bodyO, if_pos (show oA.kind = 1 from rfl), encT]
  show [1] ++ (enc (⟨#[97]⟩ : ByteArray).size ++ (⟨#[97]⟩ : ByteArray).data.toList) = _
  rw [h2]; rfl
theorem encode_oA : encodeF oA = (⟨#[1, 1, 97]⟩, 0) := by
  rw [encodeF_3 good_oA (by rw [encO_oA]; decide), encO_oA]
theorem rdE_nil (w : World) : rdE w (.slice none 0 0) [] := ⟨rfl, none, 0, rfl, Nat.le_refl _, by decide, fun _ => rfl, fun _ h => by cases h⟩
theorem rdS_nil (w : World) : rdS w (.slice none 0 0) [] := ⟨rfl, none, 0, rfl, Nat.le_refl _, by decide, fun _ => rfl, fun _ h => by cases h⟩
end Go.Proofs.YtmacceamebdelaaDoor
/-! Object6 -/
namespace Go.Proofs.YtmacceamebdelaaDoor
open Go.RowKit
set_option linter.unusedVariables false
set_option linter.unusedSimpArgs false

theorem set9 {w0 w : World} {B R : Nat} (h : Below B w0 w) (hB : B ≤ R) (v0 v1 v2 v3 v4 v5 v6 v7 v8 : Value) :
    Below B w0 (((((((((w.setCell ⟨R, 0, none⟩ v0).setCell ⟨R, 1, none⟩ v1).setCell ⟨R, 2, none⟩ v2).setCell ⟨R, 3, none⟩ v3).setCell ⟨R, 4, none⟩ v4).setCell ⟨R, 5, none⟩ v5).setCell ⟨R, 6, none⟩ v6).setCell ⟨R, 7, none⟩ v7).setCell ⟨R, 8, none⟩ v8) := by
  have s : ∀ {w : World} (i : Nat) (v : Value), Below B w0 w → Below B w0 (w.setCell ⟨R, i, none⟩ v) := fun i v h => h.setCell hB v
  exact s 8 _ (s 7 _ (s 6 _ (s 5 _ (s 4 _ (s 3 _ (s 2 _ (s 1 _ (s 0 _ h))))))))
theorem decodeF_none {s : ByteArray} (h : ¬ 8192 < s.size) (hr : rawF s = none) : decodeF s = (zeroO, 2) := by unfold decodeF; rw [if_neg h, hr]
theorem decodeF_some {s : ByteArray} {r : ObjS × (ByteArray × Int)} (h : ¬ 8192 < s.size) (hr : rawF s = some r) : decodeF s = endF2 r.1 r.2 := by unfold decodeF; rw [if_neg h, hr]
theorem raw_1 {s : ByteArray} {st : ByteArray × Int} (h : rNum (s, 0) = (1, st)) : rawF s = some (rawB st) := by unfold rawF; rw [h]; simp
theorem raw_2 {s : ByteArray} {st : ByteArray × Int} (h : rNum (s, 0) = (2, st)) : rawF s = rawT st := by unfold rawF; rw [h]; simp
theorem raw_3 {s : ByteArray} {st : ByteArray × Int} (h : rNum (s, 0) = (3, st)) : rawF s = some (rawC st) := by unfold rawF; rw [h]; simp
theorem raw_4 {s : ByteArray} {st : ByteArray × Int} (h : rNum (s, 0) = (4, st)) : rawF s = some (rawG st) := by unfold rawF; rw [h]; simp
theorem raw_0 {s : ByteArray} {st : ByteArray × Int} {K : Nat} (h : rNum (s, 0) = (K, st)) (h1 : K ≠ 1) (h2 : K ≠ 2) (h3 : K ≠ 3) (h4 : K ≠ 4) : rawF s = some ({ zeroO with kind := (K : Int) }, st) := by
  unfold rawF; rw [h]; simp only; rw [if_neg h1, if_neg h2, if_neg h3, if_neg h4]
theorem endF2_bad {o : ObjS} {r : ByteArray} {e : Int} (h : e ≠ 0) : endF2 o (r, e) = (zeroO, 2) := by unfold endF2; rw [if_pos (.inl h)]
theorem endF2_left {o : ObjS} {r : ByteArray} (hk : 1 ≤ o.kind ∧ o.kind ≤ 4) (h : 0 < r.size) : endF2 o (r, 0) = (zeroO, 2) := by unfold endF2; rw [if_pos (.inr ⟨hk.1, hk.2, h⟩)]
theorem endF2_good {o : ObjS} {r : ByteArray} (h : (¬ (1 ≤ o.kind ∧ o.kind ≤ 4)) ∨ r.size = 0) : endF2 o (r, 0) = if goodF o ≠ 0 then (zeroO, goodF o) else (o, 0) := by
  unfold endF2
  rw [if_neg]
  rintro (h1 | ⟨h1, h2, h3⟩)
  · exact h1 rfl
  · rcases h with h | h
    · exact h ⟨h1, h2⟩
    · simp only at h3; omega
def DecR (w : World) (r : ObjS × Int) (e : Ending) (w' : World) : Prop :=
  ∃ ve vp, e = .returned (.tuple #[.agg (objC r.1 ve vp).toArray, .int .i64 r.2]) ∧ rdE w' ve r.1.ents ∧ rdS w' vp r.1.pars ∧ Below w.heap.size w w'
end Go.Proofs.YtmacceamebdelaaDoor
/-! Object6b -/
namespace Go.Proofs.YtmacceamebdelaaDoor
open Go.RowKit
set_option linter.unusedVariables false
set_option linter.unusedSimpArgs false

noncomputable def restT (n : Nat) (st : ByteArray × Int) (l : List Ent) : ObjS × Int := match entsL n st l with | none => (zeroO, 2) | some r => endF2 ⟨2, noB, r.1, noB, [], noB, noB, 0, noB⟩ r.2
theorem restT_end {n : Nat} {r : ByteArray} {e : Int} {l : List Ent} (h : n = 0 ∨ e ≠ 0) : restT n (r, e) l = endF2 ⟨2, noB, l, noB, [], noB, noB, 0, noB⟩ (r, e) := by
  unfold restT
  rcases h with rfl | h
  · rfl
  · cases n with
    | zero => rfl
    | succ n => rw [entsL, if_pos h]
theorem restT_wide {n d : Nat} {r nm : ByteArray} {l : List Ent} {s2 s3 : ByteArray × Int} (hn : 0 < n) (h1 : rTxt (r, 0) = (nm, s2)) (h2 : rNum s2 = (d, s3)) (h3 : 1 < d) : restT n (r, 0) l = (zeroO, 2) := by
  obtain ⟨m, rfl⟩ : ∃ m, n = m + 1 := ⟨n - 1, by omega⟩
  unfold restT
  rw [entsL, if_neg (by simp), h1]
  simp only [h2]
  rw [if_pos h3]
theorem restT_step {n d : Nat} {r nm id : ByteArray} {l : List Ent} {s2 s3 s4 : ByteArray × Int} (hn : 0 < n) (h1 : rTxt (r, 0) = (nm, s2)) (h2 : rNum s2 = (d, s3)) (h3 : ¬ 1 < d) (h4 : rByt s3 32 = (id, s4)) : restT n (r, 0) l = restT (n - 1) s4 (l ++ [⟨nm, decide (d = 1), id⟩]) := by
  obtain ⟨m, rfl⟩ : ∃ m, n = m + 1 := ⟨n - 1, by omega⟩
  unfold restT
  rw [entsL, if_neg (by simp), h1]
  simp only [h2, h4]
  rw [if_neg h3]
  rfl
theorem decodeF_T {s : ByteArray} {st1 st2 : ByteArray × Int} {cn : Nat} (h : ¬ 8192 < s.size) (h1 : rNum (s, 0) = (2, st1)) (h2 : rNum st1 = (cn, st2)) : decodeF s = restT cn st2 [] := by
  unfold decodeF restT
  rw [if_neg h, raw_2 h1]
  unfold rawT
  rw [h2]
  cases hE : entsL cn st2 [] with
  | none => rfl
  | some r => rfl
noncomputable def restC (tr : ByteArray) (n : Nat) (st : ByteArray × Int) (l : List ByteArray) : ObjS × Int :=
  endF2 ⟨3, noB, [], tr, (parsL n st l).1, (rTxt (parsL n st l).2).1, (rTxt (rNum (rTxt (parsL n st l).2).2).2).1, ((rNum (rTxt (parsL n st l).2).2).1 : Int), noB⟩ (rTxt (rNum (rTxt (parsL n st l).2).2).2).2
theorem restC_end {n tt : Nat} {tr tw tn r : ByteArray} {e : Int} {l : List ByteArray} {s2 s3 s4 : ByteArray × Int} (h : n = 0 ∨ e ≠ 0) (h1 : rTxt (r, e) = (tw, s2)) (h2 : rNum s2 = (tt, s3)) (h3 : rTxt s3 = (tn, s4)) :
    restC tr n (r, e) l = endF2 ⟨3, noB, [], tr, l, tw, tn, (tt : Int), noB⟩ s4 := by
  have hp : parsL n (r, e) l = (l, (r, e)) := by
    rcases h with rfl | h
    · rfl
    · cases n with
      | zero => rfl
      | succ n => rw [parsL, if_pos h]
  unfold restC
  simp only [hp, h1, h2, h3]
theorem restC_step {n : Nat} {tr r id : ByteArray} {l : List ByteArray} {s2 : ByteArray × Int} (hn : 0 < n) (h1 : rByt (r, 0) 32 = (id, s2)) : restC tr n (r, 0) l = restC tr (n - 1) s2 (l ++ [id]) := by
  obtain ⟨m, rfl⟩ : ∃ m, n = m + 1 := ⟨n - 1, by omega⟩
  have hp : parsL (m + 1) (r, 0) l = parsL (m + 1 - 1) s2 (l ++ [id]) := by rw [parsL, if_neg (by simp), h1]; rfl
  unfold restC
  rw [hp]
theorem decodeF_C {s tr : ByteArray} {st1 st2 st3 : ByteArray × Int} {cn : Nat} (h : ¬ 8192 < s.size) (h1 : rNum (s, 0) = (3, st1)) (h2 : rByt st1 32 = (tr, st2)) (h3 : rNum st2 = (cn, st3)) : decodeF s = restC tr cn st3 [] := by
  rw [decodeF_some h (raw_3 h1)]
  unfold rawC restC
  simp only [h2, h3]
  rfl
theorem evs_append (a b : List Ent) : evs (a ++ b) = evs a ++ evs b := by simp [evs]
end Go.Proofs.YtmacceamebdelaaDoor
/-! Object6d -/
namespace Go.Proofs.YtmacceamebdelaaDoor
open Go.RowKit
set_option linter.unusedVariables false
set_option linter.unusedSimpArgs false

end Go.Proofs.YtmacceamebdelaaDoor
