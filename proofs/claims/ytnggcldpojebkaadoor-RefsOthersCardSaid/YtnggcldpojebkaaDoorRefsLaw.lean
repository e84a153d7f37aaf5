/- Refs in plain Lean: what is got, what a setting comes to, and the two laws. -/
import Derived.Test.YtnggcldpojebkaaDoorDiskLaw
namespace Go.Proofs.YtnggcldpojebkaaDoor
set_option linter.unusedVariables false
set_option linter.unusedSimpArgs false

structure Rf where
  name : ByteArray
  id : ByteArray
abbrev rget := getL Rf.name
abbrev rput := putL Rf.name
abbrev rdel := delL Rf.name
abbrev ridx := idxL Rf.name
abbrev RSrt := Srt Rf.name
section
variable (nm : ByteArray → Bool)
structure GoodR (l : List Rf) : Prop where
  len : l.length ≤ 32
  srt : RSrt l
  name : ∀ f ∈ l, nm f.name = true
  size : ∀ f ∈ l, f.id.size = 32
def getR (l : List Rf) (n : ByteArray) : ByteArray := match rget n l with
  | none => nilB
  | some f => f.id
def setO (l : List Rf) (name id : ByteArray) : List Rf × Int := match rget name l with
  | some _ => if id = nilB then (rdel name l, 0) else (rput ⟨name, id⟩ l, 0)
  | none => if id = nilB then (l, 0) else if 32 ≤ l.length then ([], 6) else (rput ⟨name, id⟩ l, 0)
/-- A setting whose name and ids have the form. -/
def formR (name old id : ByteArray) : Bool := nm name && ((decide (old.size = 0) || decide (old.size = 32)) && (decide (id.size = 0) || decide (id.size = 32)))
open Classical in
noncomputable def setR (l : List Rf) (name old id : ByteArray) : List Rf × Int :=
  if ¬ GoodR nm l then ([], 3) else if formR nm name old id = false then ([], 2) else if getR l name ≠ old then ([], 9) else setO l name id
variable {nm}
theorem nil_of_size {s : ByteArray} (h : s.size = 0) : s = nilB := by
  apply toList_inj
  have : s.toList.length = 0 := by rw [ByteArray.toList_eq]; simpa using h
  rw [List.eq_nil_of_length_eq_zero this, ByteArray.toList_eq]; rfl
theorem rget_of {l : List Rf} (h : GoodR nm l) (n : ByteArray) : rget n l = if getR l n = nilB then none else some ⟨n, getR l n⟩ := by
  unfold getR
  cases hg : rget n l with
  | none => simp
  | some f =>
    have h1 := getL_some Rf.name hg
    have h2 := h.size f h1.1
    have h3 : f.id ≠ nilB := fun e => by rw [e] at h2; exact absurd h2 (by decide)
    simp only [h3, if_false]
    rw [← h1.2]
theorem getR_size {l : List Rf} (h : GoodR nm l) (n : ByteArray) : getR l n = nilB ∨ (getR l n).size = 32 := by
  unfold getR
  cases hg : rget n l with
  | none => exact .inl rfl
  | some f => exact .inr (h.size f (getL_some Rf.name hg).1)
theorem rput_inv {l : List Rf} {f : Rf} (h : GoodR nm l) (hn : nm f.name = true) (hs : f.id.size = 32) (hl : rget f.name l ≠ none ∨ l.length < 32) : GoodR nm (rput f l) := by
  refine ⟨?_, srt_put _ h.srt, fun x hx => ?_, fun x hx => ?_⟩
  · cases hg : rget f.name l with
    | none => have := len_put_none Rf.name h.srt hg; have := hl.resolve_left (fun k => k hg); unfold rput; omega
    | some g => have := len_put_some Rf.name h.srt hg; have := h.len; unfold rput; omega
  · rcases mem_put _ hx with rfl | hx
    · exact hn
    · exact h.name x hx
  · rcases mem_put _ hx with rfl | hx
    · exact hs
    · exact h.size x hx
theorem rdel_inv {l : List Rf} {n : ByteArray} (h : GoodR nm l) : GoodR nm (rdel n l) :=
  ⟨Nat.le_trans (List.length_filter_le _ _) h.len, srt_del _ h.srt, fun x hx => h.name x (mem_del _ hx), fun x hx => h.size x (mem_del _ hx)⟩
theorem getR_put {l : List Rf} {f : Rf} (n : ByteArray) : getR (rput f l) n = if n = f.name then f.id else getR l n := by
  unfold getR rput rget
  rw [getL_put]
  by_cases h : n = f.name <;> simp [h]
theorem getR_del {l : List Rf} {m : ByteArray} (n : ByteArray) : getR (rdel m l) n = if n = m then nilB else getR l n := by
  unfold getR rdel rget
  rw [getL_del]
  by_cases h : n = m <;> simp [h]
theorem formR_iff {name old id : ByteArray} : formR nm name old id = true ↔ nm name = true ∧ (old.size = 0 ∨ old.size = 32) ∧ (id.size = 0 ∨ id.size = 32) := by
  simp [formR]
theorem setO_ok {l : List Rf} {name id : ByteArray} (h : GoodR nm l) (hn : nm name = true) (hi : id.size = 0 ∨ id.size = 32) (he : (setO l name id).2 = 0) :
    GoodR nm (setO l name id).1 ∧ ∀ n, getR (setO l name id).1 n = if n = name then id else getR l n := by
  unfold setO at he ⊢
  cases hg : rget name l with
  | some f =>
    simp only
    by_cases e : id = nilB
    · rw [if_pos e]
      exact ⟨rdel_inv h, fun n => by rw [getR_del, e]⟩
    · rw [if_neg e]
      have hs := hi.resolve_left (fun k => e (nil_of_size k))
      exact ⟨rput_inv h hn hs (.inl (by rw [hg]; simp)), fun n => by rw [getR_put]⟩
  | none =>
    rw [hg] at he
    simp only at he ⊢
    by_cases e : id = nilB
    · rw [if_pos e]
      refine ⟨h, fun n => ?_⟩
      by_cases en : n = name
      · simp only [en, if_true, e, getR, hg]
      · rw [if_neg en]
    · rw [if_neg e] at he ⊢
      have hs := hi.resolve_left (fun k => e (nil_of_size k))
      by_cases e2 : 32 ≤ l.length
      · rw [if_pos e2] at he; exact absurd he (by simp)
      · rw [if_neg e2]
        exact ⟨rput_inv h hn hs (.inr (by omega)), fun n => by rw [getR_put]⟩
theorem setR_ok {l : List Rf} {name old id : ByteArray} (he : (setR nm l name old id).2 = 0) :
    GoodR nm l ∧ formR nm name old id = true ∧ getR l name = old ∧ setR nm l name old id = setO l name id ∧ GoodR nm (setR nm l name old id).1 ∧ ∀ n, getR (setR nm l name old id).1 n = if n = name then id else getR l n := by
  unfold setR at he ⊢
  by_cases h1 : GoodR nm l
  · rw [if_neg (fun k => k h1)] at he ⊢
    by_cases h2 : formR nm name old id = false
    · rw [if_pos h2] at he; exact absurd he (by simp)
    · rw [if_neg h2] at he ⊢
      by_cases h3 : getR l name ≠ old
      · rw [if_pos h3] at he; exact absurd he (by simp)
      · rw [if_neg h3] at he ⊢
        have h2' : formR nm name old id = true := by simpa using h2
        have f := formR_iff.1 h2'
        have := setO_ok h1 f.1 f.2.2 he
        exact ⟨h1, h2', Classical.not_not.1 h3, rfl, this.1, this.2⟩
  · rw [if_pos h1] at he; exact absurd he (by simp)
theorem setR_eq {l : List Rf} {name old id : ByteArray} (h1 : GoodR nm l) (h2 : formR nm name old id = true) (h3 : getR l name = old) : setR nm l name old id = setO l name id := by
  unfold setR
  rw [if_neg (fun k => k h1), if_neg (by simp [h2]), if_neg (fun k => k h3)]
theorem setR_bad {l : List Rf} {name old id : ByteArray} (he : (setR nm l name old id).2 ≠ 0) : (setR nm l name old id).1 = [] := by
  unfold setR setO at he ⊢
  repeat' split
  all_goals first | rfl | skip
  all_goals simp_all
theorem ext_R {l m : List Rf} (hl : GoodR nm l) (hm : GoodR nm m) (h : ∀ n, getR l n = getR m n) : l = m :=
  srt_ext Rf.name hl.srt hm.srt fun n => by
    have a := rget_of hl n
    have b := rget_of hm n
    rw [h n] at a
    exact a.trans b.symm
theorem refs_back {l : List Rf} {name id : ByteArray} (hl : GoodR nm l) (he : (setR nm l name (getR l name) id).2 = 0) :
    setR nm (setR nm l name (getR l name) id).1 name id (getR l name) = (l, 0) ∧ getR (setR nm l name (getR l name) id).1 name = id ∧ GoodR nm (setR nm l name (getR l name) id).1 := by
  obtain ⟨_, hf, _, heq, hg, hget⟩ := setR_ok he
  have hid := hget name
  rw [if_pos rfl] at hid
  have f := formR_iff.1 hf
  have hf' : formR nm name id (getR l name) = true := formR_iff.2 ⟨f.1, f.2.2, f.2.1⟩
  refine ⟨?_, hid, hg⟩
  rw [setR_eq hg hf' hid]
  have hz : (setO (setR nm l name (getR l name) id).1 name (getR l name)).2 = 0 := by
    unfold setO
    cases h1 : rget name (setR nm l name (getR l name) id).1 with
    | some x => simp only; split <;> rfl
    | none =>
      simp only
      split
      · rfl
      · rename_i h2
        have hidn : id = nilB := by
          have h9 : getR (setR nm l name (getR l name) id).1 name = nilB := by rw [getR, h1]
          exact hid.symm.trans h9
        cases h3 : rget name l with
        | none => exact absurd (show getR l name = nilB by simp [getR, h3]) h2
        | some x =>
          have hlen := len_del_some Rf.name hl.srt h3
          have h4 : (setR nm l name (getR l name) id).1 = rdel name l := by
            rw [heq]
            simp [setO, h3, hidn]
          have h5 : ¬ 32 ≤ (setR nm l name (getR l name) id).1.length := by
            rw [h4]
            have := hl.len
            unfold rdel
            omega
          rw [if_neg h5]
  have hk := setO_ok hg f.1 f.2.1 hz
  have : (setO (setR nm l name (getR l name) id).1 name (getR l name)).1 = l := ext_R hk.1 hl fun n => by
    rw [hk.2 n, hget n]
    by_cases e : n = name
    · rw [if_pos e, e]
    · rw [if_neg e, if_neg e]
  rw [← hz]
  exact Prod.ext this rfl
theorem refs_others {l : List Rf} {name old id : ByteArray} (he : (setR nm l name old id).2 = 0) :
    (∀ other, name = other ∨ getR (setR nm l name old id).1 other = getR l other) ∧ ((setR nm (setR nm l name old id).1 name old id).2 = 0 ↔ old = id) ∧ GoodR nm (setR nm l name old id).1 := by
  obtain ⟨hl, hf, hold, heq, hg, hget⟩ := setR_ok he
  have hid := hget name
  rw [if_pos rfl] at hid
  refine ⟨fun other => ?_, ⟨fun h => ?_, fun h => ?_⟩, hg⟩
  · by_cases e : name = other
    · exact .inl e
    · rw [hget other, if_neg (fun k => e k.symm)]
      exact .inr rfl
  · have := (setR_ok h).2.2.1
    rw [hid] at this
    exact this.symm
  · rw [setR_eq hg hf (hid.trans h.symm)]
    have := refs_back hl (name := name) (id := id) (by rw [hold]; exact he)
    rw [hold] at this
    have h2 := (setR_ok (nm := nm) (l := (setR nm l name old id).1) (name := name) (old := id) (id := old) (by rw [this.1])).2.2.2.1
    rw [h] at h2 ⊢
    have h3 := this.1
    rw [h] at h3
    rw [← h2, h3]
end
end Go.Proofs.YtnggcldpojebkaaDoor
