/- Texts put together: RefsLaw Cmp Refs1 Refs2 Refs3 Own Refs4. -/
import Derived.Test.YtinhjnbgblieeaaDoorNam
import Derived.Test.YtinhjnbgblieeaaDoorBas
import Derived.Laws.Externs
import Derived.BigRegion
import Derived.Deep.RegionWith
/-! RefsLaw -/
namespace Go.Proofs.YtinhjnbgblieeaaDoor
set_option linter.unusedVariables false
set_option linter.unusedSimpArgs false

structure Rf where
  name : ByteArray
  id : ByteArray
abbrev rget := getL Rf.name
abbrev rput := putL Rf.name
abbrev rdel := delL Rf.name
abbrev ridx := idxL Rf.name
abbrev RSrt := Srt Rf.name
section
variable (nm : ByteArray → Bool)
structure GoodR (l : List Rf) : Prop where
  len : l.length ≤ 32
  srt : RSrt l
  name : ∀ f ∈ l, nm f.name = true
  size : ∀ f ∈ l, f.id.size = 32
def getR (l : List Rf) (n : ByteArray) : ByteArray := match rget n l with
  | none => nilB
  | some f => f.id
def setO (l : List Rf) (name id : ByteArray) : List Rf × Int := match rget name l with
  | some _ => if id = nilB then (rdel name l, 0) else (rput ⟨name, id⟩ l, 0)
  | none => if id = nilB then (l, 0) else if 32 ≤ l.length then ([], 6) else (rput ⟨name, id⟩ l, 0)
/-- A setting whose name and ids have the form. -/
def formR (name old id : ByteArray) : Bool := nm name && ((decide (old.size = 0) || decide (old.size = 32)) && (decide (id.size = 0) || decide (id.size = 32)))
open Classical in
noncomputable def setR (l : List Rf) (name old id : ByteArray) : List Rf × Int :=
  if ¬ GoodR nm l then ([], 3) else if formR nm name old id = false then ([], 2) else if getR l name ≠ old then ([], 9) else setO l name id
variable {nm}
theorem nil_of_size {s : ByteArray} (h : s.size = 0) : s = nilB := by
  apply toList_inj
  have : s.toList.length = 0 := by rw [ByteArray.toList_eq]; simpa using h
  rw [List.eq_nil_of_length_eq_zero this, ByteArray.toList_eq]; rfl
theorem rget_of {l : List Rf} (h : GoodR nm l) (n : ByteArray) : rget n l = if getR l n = nilB then none else some ⟨n, getR l n⟩ := by
  unfold getR
  cases hg : rget n l with
  | none => simp
  | some f =>
    have h1 := getL_some Rf.name hg
    have h2 := h.size f h1.1
    have h3 : f.id ≠ nilB := fun e => by rw [e] at h2; exact absurd h2 (by decide)
    simp only [h3, if_false]
    rw [← h1.2]
theorem getR_size {l : List Rf} (h : GoodR nm l) (n : ByteArray) : getR l n = nilB ∨ (getR l n).size = 32 := by
  unfold getR
  cases hg : rget n l with
  | none => exact .inl rfl
  | some f => exact .inr (h.size f (getL_some Rf.name hg).1)
theorem rput_inv {l : List Rf} {f : Rf} (h : GoodR nm l) (hn : nm f.name = true) (hs : f.id.size = 32) (hl : rget f.name l ≠ none ∨ l.length < 32) : GoodR nm (rput f l) := by
  refine ⟨?_, srt_put _ h.srt, fun x hx => ?_, fun x hx => ?_⟩
  · cases hg : rget f.name l with
    | none => have := len_put_none Rf.name h.srt hg; have := hl.resolve_left (fun k => k hg); unfold rput; omega
    | some g => have := len_put_some Rf.name h.srt hg; have := h.len; unfold rput; omega
  · rcases mem_put _ hx with rfl | hx
    · exact hn
    · exact h.name x hx
  · rcases mem_put _ hx with rfl | hx
    · exact hs
    · exact h.size x hx
theorem rdel_inv {l : List Rf} {n : ByteArray} (h : GoodR nm l) : GoodR nm (rdel n l) :=
  ⟨Nat.le_trans (List.length_filter_le _ _) h.len, srt_del _ h.srt, fun x hx => h.name x (mem_del _ hx), fun x hx => h.size x (mem_del _ hx)⟩
theorem getR_put {l : List Rf} {f : Rf} (n : ByteArray) : getR (rput f l) n = if n = f.name then f.id else getR l n := by
  unfold getR rput rget
  rw [getL_put]
  by_cases h : n = f.name <;> simp [h]
theorem getR_del {l : List Rf} {m : ByteArray} (n : ByteArray) : getR (rdel m l) n = if n = m then nilB else getR l n := by
  unfold getR rdel rget
  rw [getL_del]
  by_cases h : n = m <;> simp [h]
theorem formR_iff {name old id : ByteArray} : formR nm name old id = true ↔ nm name = true ∧ (old.size = 0 ∨ old.size = 32) ∧ (id.size = 0 ∨ id.size = 32) := by
  simp [formR]
theorem setO_ok {l : List Rf} {name id : ByteArray} (h : GoodR nm l) (hn : nm name = true) (hi : id.size = 0 ∨ id.size = 32) (he : (setO l name id).2 = 0) :
    GoodR nm (setO l name id).1 ∧ ∀ n, getR (setO l name id).1 n = if n = name then id else getR l n := by
  unfold setO at he ⊢
  cases hg : rget name l with
  | some f =>
    simp only
    by_cases e : id = nilB
    · rw [if_pos e]
      exact ⟨rdel_inv h, fun n => by rw [getR_del, e]⟩
    · rw [if_neg e]
      have hs := hi.resolve_left (fun k => e (nil_of_size k))
      exact ⟨rput_inv h hn hs (.inl (by rw [hg]; simp)), fun n => by rw [getR_put]⟩
  | none =>
    rw [hg] at he
    simp only at he ⊢
    by_cases e : id = nilB
    · rw [if_pos e]
      refine ⟨h, fun n => ?_⟩
      by_cases en : n = name
      · simp only [en, if_true, e, getR, hg]
      · rw [if_neg en]
    · rw [if_neg e] at he ⊢
      have hs := hi.resolve_left (fun k => e (nil_of_size k))
      by_cases e2 : 32 ≤ l.length
      · rw [if_pos e2] at he; exact absurd he (by simp)
      · rw [if_neg e2]
        exact ⟨rput_inv h hn hs (.inr (by omega)), fun n => by rw [getR_put]⟩
theorem setR_ok {l : List Rf} {name old id : ByteArray} (he : (setR nm l name old id).2 = 0) :
    GoodR nm l ∧ formR nm name old id = true ∧ getR l name = old ∧ setR nm l name old id = setO l name id ∧ GoodR nm (setR nm l name old id).1 ∧ ∀ n, getR (setR nm l name old id).1 n = if n = name then id else getR l n := by
  unfold setR at he ⊢
  by_cases h1 : GoodR nm l
  · rw [if_neg (fun k => k h1)] at he ⊢
    by_cases h2 : formR nm name old id = false
    · rw [if_pos h2] at he; exact absurd he (by simp)
    · rw [if_neg h2] at he ⊢
      by_cases h3 : getR l name ≠ old
      · rw [if_pos h3] at he; exact absurd he (by simp)
      · rw [if_neg h3] at he ⊢
        have h2' : formR nm name old id = true := by simpa using h2
        have f := formR_iff.1 h2'
        have := setO_ok h1 f.1 f.2.2 he
        exact ⟨h1, h2', Classical.not_not.1 h3, rfl, this.1, this.2⟩
  · rw [if_pos h1] at he; exact absurd he (by simp)
theorem setR_eq {l : List Rf} {name old id : ByteArray} (h1 : GoodR nm l) (h2 : formR nm name old id = true) (h3 : getR l name = old) : setR nm l name old id = setO l name id := by
  unfold setR
  rw [if_neg (fun k => k h1), if_neg (by simp [h2]), if_neg (fun k => k h3)]
theorem setR_bad {l : List Rf} {name old id : ByteArray} (he : (setR nm l name old id).2 ≠ 0) : (setR nm l name old id).1 = [] := by
  unfold setR setO at he ⊢
  repeat' split
  all_goals first | rfl | skip
  all_goals simp_all
theorem ext_R {l m : List Rf} (hl : GoodR nm l) (hm : GoodR nm m) (h : ∀ n, getR l n = getR m n) : l = m :=
  srt_ext Rf.name hl.srt hm.srt fun n => by
    have a := rget_of hl n
    have b := rget_of hm n
    rw [h n] at a
    exact a.trans b.symm
theorem refs_back {l : List Rf} {name id : ByteArray} (hl : GoodR nm l) (he : (setR nm l name (getR l name) id).2 = 0) :
    setR nm (setR nm l name (getR l name) id).1 name id (getR l name) = (l, 0) ∧ getR (setR nm l name (getR l name) id).1 name = id ∧ GoodR nm (setR nm l name (getR l name) id).1 := by
  obtain ⟨_, hf, _, heq, hg, hget⟩ := setR_ok he
  have hid := hget name
  rw [if_pos rfl] at hid
  have f := formR_iff.1 hf
  have hf' : formR nm name id (getR l name) = true := formR_iff.2 ⟨f.1, f.2.2, f.2.1⟩
  refine ⟨?_, hid, hg⟩
  rw [setR_eq hg hf' hid]
  have hz : (setO (setR nm l name (getR l name) id).1 name (getR l name)).2 = 0 := by
    unfold setO
    cases h1 : rget name (setR nm l name (getR l name) id).1 with
    | some x => simp only; split <;> rfl
    | none =>
      simp only
      split
      · rfl
      · rename_i h2
        have hidn : id = nilB := by
          have h9 : getR (setR nm l name (getR l name) id).1 name = nilB := by rw [getR, h1]
          exact hid.symm.trans h9
        cases h3 : rget name l with
        | none => exact absurd (show getR l name = nilB by simp [getR, h3]) h2
        | some x =>
          have hlen := len_del_some Rf.name hl.srt h3
          have h4 : (setR nm l name (getR l name) id).1 = rdel name l := by
            rw [heq]
            simp [setO, h3, hidn]
          have h5 : ¬ 32 ≤ (setR nm l name (getR l name) id).1.length := by
            rw [h4]
            have := hl.len
            unfold rdel
            omega
          rw [if_neg h5]
  have hk := setO_ok hg f.1 f.2.1 hz
  have : (setO (setR nm l name (getR l name) id).1 name (getR l name)).1 = l := ext_R hk.1 hl fun n => by
    rw [hk.2 n, hget n]
    by_cases e : n = name
    · rw [if_pos e, e]
    · rw [if_neg e, if_neg e]
  rw [← hz]
  exact Prod.ext this rfl
theorem refs_others {l : List Rf} {name old id : ByteArray} (he : (setR nm l name old id).2 = 0) :
    (∀ other, name = other ∨ getR (setR nm l name old id).1 other = getR l other) ∧ ((setR nm (setR nm l name old id).1 name old id).2 = 0 ↔ old = id) ∧ GoodR nm (setR nm l name old id).1 := by
  obtain ⟨hl, hf, hold, heq, hg, hget⟩ := setR_ok he
  have hid := hget name
  rw [if_pos rfl] at hid
  refine ⟨fun other => ?_, ⟨fun h => ?_, fun h => ?_⟩, hg⟩
  · by_cases e : name = other
    · exact .inl e
    · rw [hget other, if_neg (fun k => e k.symm)]
      exact .inr rfl
  · have := (setR_ok h).2.2.1
    rw [hid] at this
    exact this.symm
  · rw [setR_eq hg hf (hid.trans h.symm)]
    have := refs_back hl (name := name) (id := id) (by rw [hold]; exact he)
    rw [hold] at this
    have h2 := (setR_ok (nm := nm) (l := (setR nm l name old id).1) (name := name) (old := id) (id := old) (by rw [this.1])).2.2.2.1
    rw [h] at h2 ⊢
    have h3 := this.1
    rw [h] at h3
    rw [← h2, h3]
end
end Go.Proofs.YtinhjnbgblieeaaDoor
/-! Cmp -/
namespace Go.Proofs.YtinhjnbgblieeaaDoor
open Go.RowKit
set_option linter.unusedVariables false
set_option linter.unusedSimpArgs false

def cmpB (a b : ByteArray) : Int := Lib.compareBytes a.data.toList b.data.toList
theorem cmpB_lt {a b : ByteArray} : cmpB a b < 0 ↔ lt a b := by
  unfold cmpB
  rw [cmp_lt]
  by_cases h : lt a b
  · simp [h]
  · by_cases e : a = b <;> simp [h, e, lt_irr]
theorem cmpB_eq {a b : ByteArray} : cmpB a b = 0 ↔ a = b := by
  unfold cmpB
  rw [cmp_lt]
  by_cases h : lt a b
  · simp [h, lt_ne h]
  · by_cases e : a = b <;> simp [h, e, lt_irr]
set_option maxRecDepth 100000 in
set_option maxHeartbeats 3200000 in
theorem compareS_any (a b : ByteArray) (w : World) : Calls Tryd.prog 83 #[.string a, .string b] w fun e w' => e = .returned (.int .i64 (cmpB a b)) ∧ w' = w := by
  go_enter Tryd.func83, Tryd.ntmps83
  go_wp2
  rw [run_callFunc_extern Tryd.func87 (by kernel_rfl) (by kernel_rfl) (by kernel_rfl) (e := Extern.BytealgCompare.compare) (by kernel_rfl), Lib.run_compareString]
  simp only [Result.andThen]
  rw [Oper.upon_value]
  go_wp2
  go_ret
  exact ⟨rfl, rfl⟩
set_option maxRecDepth 100000 in
set_option maxHeartbeats 3200000 in
theorem compare_any (a b : ByteArray) (w : World) : Calls Tryd.prog 75 #[.string a, .string b] w fun e w' => e = .returned (.int .i64 (cmpB a b)) ∧ w' = w := by
  go_enter Tryd.func75, Tryd.ntmps75
  go_wp2_with fail
  (with_reducible refine (compareS_any a b w).mono ?_)
  rintro e w' ⟨rfl, rfl⟩
  go_wp2_with fail
  go_ret
  exact ⟨rfl, rfl⟩
end Go.Proofs.YtinhjnbgblieeaaDoor
/-! Refs1 -/
namespace Go.Proofs.YtinhjnbgblieeaaDoor
open Go.RowKit
set_option linter.unusedVariables false
set_option linter.unusedSimpArgs false

def zeroRf : Rf := ⟨nilB, nilB⟩
def rvs (l : List Rf) : List Value := l.flatMap fun x => [.string x.name, .string x.id]
theorem rvs_length (l : List Rf) : (rvs l).length = l.length * 2 := by induction l with
  | nil => rfl
  | cons x l ih => rw [rvs, List.flatMap_cons, List.length_append, ← rvs, ih]; simp; omega
theorem rvs_append (a b : List Rf) : rvs (a ++ b) = rvs a ++ rvs b := by simp [rvs]
theorem rvs_take (l : List Rf) : ∀ k, (rvs l).take (k * 2) = rvs (l.take k) := by
  induction l with
  | nil => intro k; simp [rvs]
  | cons x l ih =>
    intro k
    cases k with
    | zero => simp [rvs]
    | succ k =>
      rw [show (k + 1) * 2 = k * 2 + 1 + 1 by omega]
      show Value.string x.name :: Value.string x.id :: (rvs l).take (k * 2) = _
      rw [ih k]; rfl
theorem rvs_drop (l : List Rf) : ∀ k, (rvs l).drop (k * 2) = rvs (l.drop k) := by
  induction l with
  | nil => intro k; simp [rvs]
  | cons x l ih =>
    intro k
    cases k with
    | zero => simp [rvs]
    | succ k =>
      rw [show (k + 1) * 2 = k * 2 + 1 + 1 by omega]
      exact ih k
theorem rvs_one (l : List Rf) : ∀ y ∈ rvs l, y.oneCell' = true := by
  intro y hy
  obtain ⟨x, _, hx⟩ := List.mem_flatMap.1 hy
  simp at hx
  rcases hx with rfl | rfl <;> rfl
def rdR (w : World) (v : Value) (l : List Rf) : Prop := rdRow w 2 v l.length (rvs l)
theorem rdR.below {w w' : World} {v : Value} {l : List Rf} (h : rdR w v l) (hb : Below w.heap.size w w') : rdR w' v l := rdRow.below h hb
theorem rdR_nil (w : World) : rdR w (.slice none 0 0) [] := ⟨rfl, none, 0, rfl, Nat.le_refl _, by decide, fun _ => rfl, fun _ h => by cases h⟩
theorem rdR_len {w : World} {v : Value} {l : List Rf} (hr : rdR w v l) : l.length ≤ 9223372036854775807 := by
  obtain ⟨_, ao, cap, rfl, h1, h2, _⟩ := hr
  unfold maxLen at h2; omega
theorem rdR_owns {w : World} {B : Nat} {v : Value} {l : List Rf} (h : w.ownsRow B 123 2 v l.length (rvs l)) : rdR w v l := rdRow_of_owns h
theorem rvs_get (l : List Rf) (k : Nat) (h : k < l.length) : (rvs l)[k * 2]? = some (.string (l.getD k zeroRf).name) ∧ (rvs l)[k * 2 + 1]? = some (.string (l.getD k zeroRf).id) := by
  induction l generalizing k with
  | nil => cases h
  | cons x l ih =>
    cases k with
    | zero => exact ⟨rfl, rfl⟩
    | succ k =>
      have := ih k (by simpa using h)
      rw [show (k + 1) * 2 = k * 2 + 2 by omega]
      exact this
theorem rdR_at {w : World} {ao : Option Addr} {n cap : Nat} {l : List Rf} (hr : rdRow w 2 (.slice ao n cap) l.length (rvs l)) (h : 0 < l.length) :
    ∃ b off, ao = some ⟨b, off, none⟩ ∧ b < w.heap.size ∧ ∀ k, k < l.length → w.cell? ⟨b, off + k * 2, none⟩ = some (.string (l.getD k zeroRf).name) ∧ w.cell? ⟨b, off + k * 2 + 1, none⟩ = some (.string (l.getD k zeroRf).id) := by
  obtain ⟨b, off, cap', hv, hc0, hb⟩ := rd_cell hr 0 _ (by have := (rvs_get l 0 h).1; simpa using this)
  injection hv with h1 h2 h3
  subst h1
  refine ⟨b, off, rfl, hb, fun k hk => ?_⟩
  obtain ⟨_, ao2, cap2, hv2, _, _, _, hc⟩ := hr
  injection hv2 with g1 g2 g3
  subst g1
  obtain ⟨e0, e1⟩ := rvs_get l k hk
  have c0 := hc _ rfl _ _ e0
  have c1 := hc _ rfl _ _ e1
  rw [add_none rfl] at c0 c1
  exact ⟨c0, by rw [Nat.add_assoc]; exact c1⟩

/-! Good. -/
def rfOk (l : List Rf) (k : Nat) : Bool := namedR (l.getD k zeroRf).name && (decide ((l.getD k zeroRf).id.size = 32) && (decide (k = 0) || Op.bytesLess (l.getD (k - 1) zeroRf).name.toList (l.getD k zeroRf).name.toList))
open Classical in
noncomputable def goodRB (l : List Rf) : Bool := decide (GoodR namedR l)
theorem rsrt_of_adj : ∀ l : List Rf, (∀ k, 0 < k → k < l.length → lt (l.getD (k - 1) zeroRf).name (l.getD k zeroRf).name) → RSrt l
  | [], _ => List.Pairwise.nil
  | x :: l, h => by
    have ih := rsrt_of_adj l (fun k hk hl => by
      have := h (k + 1) (by omega) (by simpa using hl)
      obtain ⟨j, rfl⟩ : ∃ j, k = j + 1 := ⟨k - 1, by omega⟩
      simpa using this)
    refine List.pairwise_cons.2 ⟨fun y hy => ?_, ih⟩
    cases l with
    | nil => cases hy
    | cons z l =>
      have h1 : lt x.name z.name := by simpa using h 1 (by omega) (by simp)
      rcases List.mem_cons.1 hy with rfl | hy
      · exact h1
      · exact lt_trans h1 ((List.pairwise_cons.1 ih).1 y hy)
theorem radj_of_srt {l : List Rf} (h : RSrt l) {k : Nat} (hk : 0 < k) (hl : k < l.length) : lt (l.getD (k - 1) zeroRf).name (l.getD k zeroRf).name := by
  have := List.pairwise_iff_getElem.1 h (k - 1) k (by omega) hl (by omega)
  rw [List.getD, List.getD, List.getElem?_eq_getElem hl, List.getElem?_eq_getElem (show k - 1 < l.length by omega)]
  exact this
theorem goodRB_false {l : List Rf} (h : ¬ GoodR namedR l) : goodRB l = false := by
  classical
  unfold goodRB
  exact decide_eq_false h
theorem goodRB_true {l : List Rf} (h : GoodR namedR l) : goodRB l = true := by
  classical
  unfold goodRB
  exact decide_eq_true h
theorem goodRB_bad {l : List Rf} {k : Nat} (hk : k < l.length) (h : rfOk l k = false) : goodRB l = false := by
  refine goodRB_false fun g => ?_
  have hm : l.getD k zeroRf ∈ l := by rw [List.getD, List.getElem?_eq_getElem hk]; exact List.getElem_mem hk
  have h1 := g.name _ hm
  have h2 := g.size _ hm
  unfold rfOk at h
  rw [h1, decide_eq_true h2] at h
  rcases Nat.eq_zero_or_pos k with rfl | hp
  · simp at h
  · have := radj_of_srt g.srt hp hk
    unfold lt at this
    rw [this] at h
    simp at h
theorem goodRB_all {l : List Rf} (h : ∀ j, j < l.length → rfOk l j = true) : goodRB l = decide (l.length ≤ 32) := by
  by_cases hl : l.length ≤ 32
  · rw [decide_eq_true hl]
    refine goodRB_true ?_
    have key : ∀ x ∈ l, namedR x.name = true ∧ x.id.size = 32 := fun x hx => by
      obtain ⟨j, hj, rfl⟩ := List.mem_iff_getElem.1 hx
      have := h j hj
      unfold rfOk at this
      rw [List.getD, List.getElem?_eq_getElem hj] at this
      simp only [Option.getD_some, Bool.and_eq_true, decide_eq_true_eq] at this
      exact ⟨this.1, this.2.1⟩
    refine ⟨hl, rsrt_of_adj l (fun k hk hlt => ?_), fun x hx => (key x hx).1, fun x hx => (key x hx).2⟩
    have := h k hlt
    unfold rfOk at this
    simp only [Bool.and_eq_true, Bool.or_eq_true, decide_eq_true_eq] at this
    exact this.2.2.resolve_left (by omega)
  · rw [decide_eq_false hl]
    exact goodRB_false fun g => hl g.len
theorem goodRB_iff {l : List Rf} : goodRB l = true ↔ GoodR namedR l := ⟨fun h => Classical.byContradiction fun k => Bool.noConfusion ((goodRB_false k).symm.trans h), goodRB_true⟩
set_option maxRecDepth 100000 in
set_option maxHeartbeats 3200000 in
theorem goodR_any (l : List Rf) (v : Value) (w : World) (hr : rdR w v l) :
    Calls Tryd.prog 63 #[v] w fun e w' => e = .returned (.bool (goodRB l)) ∧ Below w.heap.size w w' := by
  obtain ⟨F, hF⟩ : ∃ F, F = goodRB l := ⟨_, rfl⟩
  rw [← hF]
  have HF := Lib.hid hF
  have hlen := rdR_len hr
  obtain ⟨ae, ce, rfl⟩ := rd_form hr
  have HE := Lib.hid hr
  have HLEN := Lib.hid hlen
  clear hF hr hlen
  go_enter Tryd.func63, Tryd.ntmps63
  go_wp2_with fail
  go_loopw [2, 7] (fun r i wr => ∃ k : Nat, k ≤ l.length ∧ r = .bool false ∧ i = .int .i64 (k : Int) ∧ Hid (∀ j, j < k → rfOk l j = true) ∧ Hid (Below w.heap.size w wr)) (fun _ i _ => l.length - (intOf i).toNat)
  case atStart => exact ⟨0, Nat.zero_le _, rfl, rfl, Lib.hid fun j hj => absurd hj (Nat.not_lt_zero _), Lib.hid (Below.refl _ _)⟩
  case round =>
    obtain ⟨k, hk, rfl, rfl, HALL, HBr⟩ := hrel
    by_cases hlt : k < l.length
    · have hki : (k : Int) < (l.length : Int) := by omega
      have hkb : decide ((k : Int) < (l.length : Int)) = true := decide_eq_true hki
      have hk0 : (0 : Int) ≤ (k : Int) := by omega
      have HW := Lib.hid (show IntKind.i64.wrap ((k : Int) + 1) = ((k + 1 : Nat) : Int) by rw [IntKind.wrap_i64]; have := HLEN.out; omega)
      obtain ⟨b, off, hae, hblt, hcell⟩ := rdR_at HE.out (by omega)
      obtain ⟨x, hx⟩ : ∃ x, x = l.getD k zeroRf := ⟨_, rfl⟩
      obtain ⟨d0, d1⟩ := hcell k hlt
      rw [← hx] at d0 d1
      rw [← HBr.out.cell (p := ⟨b, off + k * 2, none⟩) hblt] at d0
      rw [← HBr.out.cell (p := ⟨b, off + k * 2 + 1, none⟩) hblt] at d1
      have HCE := Lib.hid hcell
      subst hae
      obtain ⟨V, hV⟩ : ∃ V, wr.alloc (.cells #[.string x.name, .string x.id] 123) = V := ⟨_, rfl⟩
      have hbv : Below wr.heap.size wr V := by rw [← hV]; exact (Below.refl _ _).alloc (Nat.le_refl _) _
      have v0 : V.drew.cell? ⟨wr.heap.size, 0, none⟩ = some (.string x.name) := by rw [← hV]; exact cell_block 0 _ rfl
      have v1 : V.drew.cell? ⟨wr.heap.size, 1, none⟩ = some (.string x.id) := by rw [← hV]; exact cell_block 1 _ rfl
      have HBV := Lib.hid (show Below w.heap.size w V.drew from (HBr.out.trans (hbv.mono HBr.out.size)).drew)
      have HNM := Lib.hid (namedR_any x.name V.drew)
      have HLT := Lib.hid (show wr.heap.size < V.drew.heap.size by show _ < V.heap.size; rw [← hV]; simp)
      have HLT3 := Lib.hid (show b < V.drew.heap.size from Nat.lt_of_lt_of_le hblt HBV.out.size)
      have HLTE := Lib.hid hlt
      have HK := Lib.hid hk
      have HOKD := Lib.hid (show rfOk l k = (namedR x.name && (decide (x.id.size = 32) && (decide (k = 0) || Op.bytesLess (l.getD (k - 1) zeroRf).name.toList x.name.toList))) by rw [hx]; rfl)
      obtain ⟨nb, hnb⟩ : ∃ nb, nb = namedR x.name := ⟨_, rfl⟩
      rw [← hnb] at HOKD HNM
      clear hx hcell hnb hbv
      rcases Nat.eq_zero_or_pos k with hk00 | hk00
      · subst hk00
        simp only [Nat.zero_mul, Nat.add_zero] at d0 d1
        have z1 : (0 : Int) < (l.length : Int) := by omega
        have z2 : decide ((0 : Int) < (l.length : Int)) = true := decide_eq_true z1
        have z3 : 0 < l.length := hlt
        have hz : decide ((0 : Int) < (0 : Int)) = false := by simp
        have HCNZ := Lib.hid (show ((0 + 1 : Nat) : Int) = 1 from rfl)
        go_wp2_with fail
        refine Lone.wp_region_order [(0, false), (1, false), (2, true), (3, false), (4, false), (5, false), (6, false), (7, false), (8, false), (9, false), (10, false), (11, false), (12, false), (13, false), (14, false), (15, false), (16, false), (17, false), (18, false), (19, false), (20, false), (21, false), (22, false), (23, false), (24, false)] (fun w' => w'.cell? ⟨wr.heap.size, 0, none⟩ = some (.string x.name) ∧ w'.cell? ⟨wr.heap.size, 1, none⟩ = some (.string x.id)) (by kernel_rfl) (by kernel_rfl) rfl (by kernel_rfl) (by intro _ _ d _ _ h; cases d <;> exact h) (⟨v0, v1⟩) ?_; simp only [List.map_cons, List.map_nil, List.getElem?_toArray, List.getElem?_cons_zero, List.getElem?_cons_succ, Option.getD_some]
        repeat (first | (refine Lone.ro_q (by rfl) (v := ?_) ?_ ?_; rotate_left; (focus (intro w' hSw; (try dsimp only at hSw); go_simp; try with_reducible rfl)); simp only [Act.put, List.setIfInBounds_toArray, List.set_cons_zero, List.set_cons_succ]) | (refine Lone.ro_skip (by rfl) ?_; simp only [Act.put, List.setIfInBounds_toArray, List.set_cons_zero, List.set_cons_succ]))
        (refine Lone.ro_loud (by rfl) (fun K hK => ?_); go_simp)
        (with_reducible refine HNM.out.mono ?_)
        rintro e w4 ⟨rfl, hb4⟩
        have HB4 := Lib.hid (HBV.out.trans (hb4.mono HBV.out.size))
        have q0 := (hb4.cell (p := ⟨wr.heap.size, 0, none⟩) HLT.out).trans v0
        have q1 := (hb4.cell (p := ⟨wr.heap.size, 1, none⟩) HLT.out).trans v1
        clear hb4
        (refine hK.out _ _ (fun w' => w'.cell? ⟨wr.heap.size, 0, none⟩ = some (.string x.name) ∧ w'.cell? ⟨wr.heap.size, 1, none⟩ = some (.string x.id)) (.inl fun _ h => h) (⟨q0, q1⟩) ?_; clear hK K; try simp only [Act.put, List.setIfInBounds_toArray, List.set_cons_zero, List.set_cons_succ])
        cases nb with
        | false =>
          have HOK := Lib.hid (show rfOk l (0) = false by rw [HOKD.out]; rfl)
          have hF := HF.out.trans (goodRB_bad HLTE.out HOK.out)
          subst hF
          repeat (first | (refine Lone.ro_q (by rfl) (v := ?_) ?_ ?_; rotate_left; (focus (intro w' hSw; (try dsimp only at hSw); go_simp; try with_reducible rfl)); simp only [Act.put, List.setIfInBounds_toArray, List.set_cons_zero, List.set_cons_succ]) | (refine Lone.ro_skip (by rfl) ?_; simp only [Act.put, List.setIfInBounds_toArray, List.set_cons_zero, List.set_cons_succ]))
          (refine Lone.ro_nil ?_; go_wp2_with fail)
          go_ret
          exact ⟨rfl, HB4.out⟩
        | true =>
          by_cases hs : x.id.size = 32
          · have s1 : ((x.id.size : Int) == 32) = true := by rw [hs]; rfl
            have s2 : ((x.id.size : Int) != 32) = false := by rw [hs]; rfl
            have HS := Lib.hid hs
            clear hs
            have HOK := Lib.hid (show rfOk l (0) = true by rw [HOKD.out]; rw [decide_eq_true HS.out]; simp)
            repeat (first | (refine Lone.ro_q (by rfl) (v := ?_) ?_ ?_; rotate_left; (focus (intro w' hSw; (try dsimp only at hSw); go_simp; try with_reducible rfl)); simp only [Act.put, List.setIfInBounds_toArray, List.set_cons_zero, List.set_cons_succ]) | (refine Lone.ro_skip (by rfl) ?_; simp only [Act.put, List.setIfInBounds_toArray, List.set_cons_zero, List.set_cons_succ]))
            (refine Lone.ro_nil ?_; go_wp2_with fail)
            exact ⟨⟨(0) + 1, by have := HLTE.out; omega, rfl, by first | (rw [HCNZ.out]; done) | (rw [HCNP.out, hw2]), Lib.hid fun j hj => by (by_cases hjk : j = (0); rw [hjk]; exact HOK.out; exact HALL.out j (by omega)), HB4⟩, meas_step (k := (0)) _ (rfl) HLTE.out⟩
          · have s1 : ((x.id.size : Int) == 32) = false := beq_eq_false_iff_ne.2 (by omega)
            have s2 : ((x.id.size : Int) != 32) = true := by rw [bne, s1]; rfl
            have HS := Lib.hid hs
            clear hs
            have HOK := Lib.hid (show rfOk l (0) = false by rw [HOKD.out]; rw [decide_eq_false HS.out]; simp)
            have hF := HF.out.trans (goodRB_bad HLTE.out HOK.out)
            subst hF
            repeat (first | (refine Lone.ro_q (by rfl) (v := ?_) ?_ ?_; rotate_left; (focus (intro w' hSw; (try dsimp only at hSw); go_simp; try with_reducible rfl)); simp only [Act.put, List.setIfInBounds_toArray, List.set_cons_zero, List.set_cons_succ]) | (refine Lone.ro_skip (by rfl) ?_; simp only [Act.put, List.setIfInBounds_toArray, List.set_cons_zero, List.set_cons_succ]))
            (refine Lone.ro_nil ?_; go_wp2_with fail)
            go_ret
            exact ⟨rfl, HB4.out⟩
      · obtain ⟨m, rfl⟩ : ∃ m, k = m + 1 := ⟨k - 1, by omega⟩
        obtain ⟨p, hp⟩ : ∃ p, p = l.getD m zeroRf := ⟨_, rfl⟩
        have vp := (HBV.out.cell (p := ⟨b, off + m * 2, none⟩) hblt).trans (HCE.out m (by omega)).1
        rw [← hp] at vp
        have hmi : (m : Int) < (l.length : Int) := by omega
        have hm0 : (0 : Int) ≤ (m : Int) := by omega
        have hmn : m < l.length := by omega
        have hmw : IntKind.i64.wrap (m : Int) = (m : Int) := by rw [IntKind.wrap_i64]; have := HLEN.out; omega
        have hw2 : wrap64 ((m : Int) + 1 + 1) = (m : Int) + 1 + 1 := IntWalk.wrap64_in _ (by have := HLEN.out; omega)
        have HCNP := Lib.hid (show ((m + 1 + 1 : Nat) : Int) = (m : Int) + 1 + 1 by omega)
        have hpos : decide ((0 : Int) < ((m + 1 : Nat) : Int)) = true := decide_eq_true (by omega)
        rw [Nat.add_sub_cancel, ← hp] at HOKD
        clear hp
        go_wp2_with fail
        refine Lone.wp_region_order [(0, false), (1, false), (2, true), (3, false), (4, false), (5, false), (6, false), (7, false), (8, false), (9, false), (10, false), (11, false), (12, false), (13, false), (14, false), (15, false), (16, false), (17, false), (18, false), (19, false), (20, false), (21, false), (22, false), (23, false), (24, false)] (fun w' => w'.cell? ⟨wr.heap.size, 0, none⟩ = some (.string x.name) ∧ w'.cell? ⟨wr.heap.size, 1, none⟩ = some (.string x.id) ∧ w'.cell? ⟨b, off + m * 2, none⟩ = some (.string p.name)) (by kernel_rfl) (by kernel_rfl) rfl (by kernel_rfl) (by intro _ _ d _ _ h; cases d <;> exact h) (⟨v0, v1, vp⟩) ?_; simp only [List.map_cons, List.map_nil, List.getElem?_toArray, List.getElem?_cons_zero, List.getElem?_cons_succ, Option.getD_some]
        repeat (first | (refine Lone.ro_q (by rfl) (v := ?_) ?_ ?_; rotate_left; (focus (intro w' hSw; (try dsimp only at hSw); go_simp; try with_reducible rfl)); simp only [Act.put, List.setIfInBounds_toArray, List.set_cons_zero, List.set_cons_succ]) | (refine Lone.ro_skip (by rfl) ?_; simp only [Act.put, List.setIfInBounds_toArray, List.set_cons_zero, List.set_cons_succ]))
        (refine Lone.ro_loud (by rfl) (fun K hK => ?_); go_simp)
        (with_reducible refine HNM.out.mono ?_)
        rintro e w4 ⟨rfl, hb4⟩
        have HB4 := Lib.hid (HBV.out.trans (hb4.mono HBV.out.size))
        have q0 := (hb4.cell (p := ⟨wr.heap.size, 0, none⟩) HLT.out).trans v0
        have q1 := (hb4.cell (p := ⟨wr.heap.size, 1, none⟩) HLT.out).trans v1
        have qp := (hb4.cell (p := ⟨b, off + m * 2, none⟩) HLT3.out).trans vp
        clear hb4
        (refine hK.out _ _ (fun w' => w'.cell? ⟨wr.heap.size, 0, none⟩ = some (.string x.name) ∧ w'.cell? ⟨wr.heap.size, 1, none⟩ = some (.string x.id) ∧ w'.cell? ⟨b, off + m * 2, none⟩ = some (.string p.name)) (.inl fun _ h => h) (⟨q0, q1, qp⟩) ?_; clear hK K; try simp only [Act.put, List.setIfInBounds_toArray, List.set_cons_zero, List.set_cons_succ])
        cases nb with
        | false =>
          have HOK := Lib.hid (show rfOk l (m + 1) = false by rw [HOKD.out]; rfl)
          have hF := HF.out.trans (goodRB_bad HLTE.out HOK.out)
          subst hF
          repeat (first | (refine Lone.ro_q (by rfl) (v := ?_) ?_ ?_; rotate_left; (focus (intro w' hSw; (try dsimp only at hSw); go_simp; try with_reducible rfl)); simp only [Act.put, List.setIfInBounds_toArray, List.set_cons_zero, List.set_cons_succ]) | (refine Lone.ro_skip (by rfl) ?_; simp only [Act.put, List.setIfInBounds_toArray, List.set_cons_zero, List.set_cons_succ]))
          (refine Lone.ro_nil ?_; go_wp2_with fail)
          go_ret
          exact ⟨rfl, HB4.out⟩
        | true =>
          by_cases hs : x.id.size = 32
          · have s1 : ((x.id.size : Int) == 32) = true := by rw [hs]; rfl
            have s2 : ((x.id.size : Int) != 32) = false := by rw [hs]; rfl
            have HS := Lib.hid hs
            clear hs
            cases hle : Op.bytesLess p.name.toList x.name.toList with
            | true =>
              have HOK := Lib.hid (show rfOk l (m + 1) = true by rw [HOKD.out]; rw [decide_eq_true HS.out, hle]; simp)
              repeat (first | (refine Lone.ro_q (by rfl) (v := ?_) ?_ ?_; rotate_left; (focus (intro w' hSw; (try dsimp only at hSw); go_simp; try with_reducible rfl)); simp only [Act.put, List.setIfInBounds_toArray, List.set_cons_zero, List.set_cons_succ]) | (refine Lone.ro_skip (by rfl) ?_; simp only [Act.put, List.setIfInBounds_toArray, List.set_cons_zero, List.set_cons_succ]))
              (refine Lone.ro_nil ?_; go_wp2_with fail)
              exact ⟨⟨(m + 1) + 1, by have := HLTE.out; omega, rfl, by first | (rw [HCNP.out]; done) | (rw [HCNP.out, hw2]), Lib.hid fun j hj => by (by_cases hjk : j = (m + 1); rw [hjk]; exact HOK.out; exact HALL.out j (by omega)), HB4⟩, meas_step (k := (m + 1)) _ (hw2.trans HCNP.out.symm) HLTE.out⟩
            | false =>
              have HOK := Lib.hid (show rfOk l (m + 1) = false by rw [HOKD.out]; rw [decide_eq_true HS.out, hle]; simp)
              have hF := HF.out.trans (goodRB_bad HLTE.out HOK.out)
              subst hF
              repeat (first | (refine Lone.ro_q (by rfl) (v := ?_) ?_ ?_; rotate_left; (focus (intro w' hSw; (try dsimp only at hSw); go_simp; try with_reducible rfl)); simp only [Act.put, List.setIfInBounds_toArray, List.set_cons_zero, List.set_cons_succ]) | (refine Lone.ro_skip (by rfl) ?_; simp only [Act.put, List.setIfInBounds_toArray, List.set_cons_zero, List.set_cons_succ]))
              (refine Lone.ro_nil ?_; go_wp2_with fail)
              go_ret
              exact ⟨rfl, HB4.out⟩
          · have s1 : ((x.id.size : Int) == 32) = false := beq_eq_false_iff_ne.2 (by omega)
            have s2 : ((x.id.size : Int) != 32) = true := by rw [bne, s1]; rfl
            have HS := Lib.hid hs
            clear hs
            have HOK := Lib.hid (show rfOk l (m + 1) = false by rw [HOKD.out]; rw [decide_eq_false HS.out]; simp)
            have hF := HF.out.trans (goodRB_bad HLTE.out HOK.out)
            subst hF
            repeat (first | (refine Lone.ro_q (by rfl) (v := ?_) ?_ ?_; rotate_left; (focus (intro w' hSw; (try dsimp only at hSw); go_simp; try with_reducible rfl)); simp only [Act.put, List.setIfInBounds_toArray, List.set_cons_zero, List.set_cons_succ]) | (refine Lone.ro_skip (by rfl) ?_; simp only [Act.put, List.setIfInBounds_toArray, List.set_cons_zero, List.set_cons_succ]))
            (refine Lone.ro_nil ?_; go_wp2_with fail)
            go_ret
            exact ⟨rfl, HB4.out⟩
    · have hkn : k = l.length := by omega
      subst hkn
      have hF := HF.out.trans (goodRB_all HALL.out)
      have hkb : decide ((l.length : Int) < (l.length : Int)) = false := by simp
      obtain ⟨b, hb⟩ : ∃ b, b = decide (l.length ≤ 32) := ⟨_, rfl⟩
      have hbi : decide ((l.length : Int) ≤ 32) = b := hb ▸ decide_eq_decide.2 (by omega)
      rw [← hb] at hF
      subst hF
      clear hlt hk HALL hb
      go_wp2_with fail
      go_ret
      exact ⟨rfl, HBr.out⟩
end Go.Proofs.YtinhjnbgblieeaaDoor
/-! Refs2 -/
namespace Go.Proofs.YtinhjnbgblieeaaDoor
open Go.RowKit
set_option linter.unusedVariables false
set_option linter.unusedSimpArgs false

set_option maxRecDepth 100000 in
set_option maxHeartbeats 3200000 in
theorem findR1_any (f : Rf) (n : ByteArray) (w : World) : Calls Tryd.prog 74 #[.agg #[.string f.name, .string f.id], .string n] w fun e w' => e = .returned (.int .i64 (cmpB f.name n)) ∧ Below w.heap.size w w' := by
  have HB := Lib.hid ((Below.refl w.heap.size w).alloc (Nat.le_refl _) (.cells #[.string f.name, .string f.id] 123))
  go_enter Tryd.func74, Tryd.ntmps74
  go_wp2_with fail
  (with_reducible refine (compare_any f.name n _).mono ?_)
  rintro e w' ⟨rfl, rfl⟩
  go_wp2_with fail
  go_ret
  exact ⟨rfl, HB.out⟩

theorem getD_memR {l : List Rf} {k : Nat} (h : k < l.length) : l.getD k zeroRf ∈ l := by rw [List.getD, List.getElem?_eq_getElem h]; exact List.getElem_mem h
theorem rsrt_lt {l : List Rf} (h : RSrt l) {i j : Nat} (hi : i < j) (hj : j < l.length) : lt (l.getD i zeroRf).name (l.getD j zeroRf).name := by
  have := List.pairwise_iff_getElem.1 h i j (by omega) hj hi
  rw [List.getD, List.getD, List.getElem?_eq_getElem hj, List.getElem?_eq_getElem (show i < l.length by omega)]
  exact this
theorem ridx_bound {l : List Rf} {n : ByteArray} (hs : RSrt l) {i : Nat} (hi : i ≤ l.length) (h1 : ∀ t, t < i → lt (l.getD t zeroRf).name n) (h2 : i < l.length → ¬ lt (l.getD i zeroRf).name n) : ridx n l = i := by
  have e : l = l.take i ++ l.drop i := (List.take_append_drop i l).symm
  have hk : idxL Rf.name n (l.take i ++ l.drop i) = (l.take i).length := by
    refine idx_parted Rf.name (fun x hx => ?_) (fun x hx => ?_)
    · obtain ⟨j, hj, rfl⟩ := List.mem_iff_getElem.1 hx
      rw [List.length_take] at hj
      have := h1 j (by omega)
      rw [List.getD, List.getElem?_eq_getElem (show j < l.length by omega)] at this
      simpa using this
    · rw [List.head?_drop] at hx
      have hl := (List.getElem?_eq_some_iff.1 hx).1
      have := h2 hl
      rw [List.getD, hx] at this
      exact this
  rw [List.length_take, ← e] at hk
  show idxL Rf.name n l = i
  omega
theorem rhas_bound {l : List Rf} {n : ByteArray} (hs : RSrt l) {i : Nat} (hi : ridx n l = i) : (rget n l).isSome = decide (i < l.length ∧ (l.getD i zeroRf).name = n) := by
  cases hg : rget n l with
  | none =>
    symm
    rw [Option.isSome_none, decide_eq_false_iff_not]
    rintro ⟨h1, h2⟩
    exact getL_none Rf.name hg _ (getD_memR h1) h2
  | some f =>
    symm
    rw [Option.isSome_some, decide_eq_true_eq]
    have h := at_some Rf.name hs hg
    have hi' : idxL Rf.name n l = i := hi
    rw [hi'] at h
    refine ⟨h.1, ?_⟩
    rw [List.getD, h.2.1]
    exact (getL_some Rf.name hg).2
set_option maxRecDepth 100000 in
set_option maxHeartbeats 3200000 in
theorem searchR_any (l : List Rf) (n : ByteArray) (v : Value) (w : World) (hs : RSrt l) (hr : rdR w v l) (hl : l.length < 4611686018427387904) :
    Calls Tryd.prog 73 #[v, .string n, .func (.func 74) #[] #[]] w fun e w' => e = .returned (.tuple #[.int .i64 (ridx n l : Nat), .bool (rget n l).isSome]) ∧ Below w.heap.size w w' := by
  have HS := Lib.hid hs
  have HR := Lib.hid hr
  obtain ⟨I, hI⟩ : ∃ I, I = ridx n l := ⟨_, rfl⟩
  obtain ⟨F, hF⟩ : ∃ F, F = (rget n l).isSome := ⟨_, rfl⟩
  have HI := Lib.hid hI
  have HF := Lib.hid hF
  rw [← hI, ← hF]
  obtain ⟨ae, ce, rfl⟩ := rd_form hr
  clear hs hr hI hF
  go_enter Tryd.func73, Tryd.ntmps73
  go_wp2_with fail
  go_loopw [9, 10] (fun s9 s10 wr => ∃ lo hi : Nat, s9 = .int .i64 (lo : Int) ∧ s10 = .int .i64 (hi : Int) ∧ lo ≤ hi ∧ hi ≤ l.length ∧ Hid ((∀ t, t < lo → lt (l.getD t zeroRf).name n) ∧ (∀ t, hi ≤ t → t < l.length → ¬ lt (l.getD t zeroRf).name n)) ∧ Hid (Below w.heap.size w wr)) (fun s9 s10 _ => (intOf s10 - intOf s9).toNat)
  case atStart => exact ⟨0, l.length, rfl, rfl, Nat.zero_le _, Nat.le_refl _, Lib.hid ⟨fun t ht => absurd ht (Nat.not_lt_zero _), fun t h1 h2 => by omega⟩, Lib.hid (Below.refl _ _)⟩
  case round =>
    obtain ⟨lo, hi, rfl, rfl, hlh, hin, INV, HB⟩ := hrel
    by_cases hlt : lo < hi
    · obtain ⟨b, off, hae, hblt, hcell⟩ := rdR_at HR.out (by omega)
      subst hae
      obtain ⟨m, hm⟩ : ∃ m, m = (lo + hi) / 2 := ⟨_, rfl⟩
      have hml : m < l.length := by omega
      obtain ⟨x, hx⟩ : ∃ x, x = l.getD m zeroRf := ⟨_, rfl⟩
      obtain ⟨d0, d1⟩ := hcell m hml
      rw [← hx] at d0 d1
      rw [← HB.out.cell (p := ⟨b, off + m * 2, none⟩) hblt] at d0
      rw [← HB.out.cell (p := ⟨b, off + m * 2 + 1, none⟩) hblt] at d1
      have HX := Lib.hid hx
      have HM := Lib.hid (show lo ≤ m ∧ m < hi from by omega)
      have hc := Lib.hid (findR1_any x n wr)
      have mi : ((lo : Int) + (hi : Int)) / 2 = (m : Int) := by omega
      have mil : (m : Int) < (l.length : Int) := by omega
      have mi0 : (0 : Int) ≤ (m : Int) := by omega
      obtain ⟨c, hcc⟩ : ∃ c, c = cmpB x.name n := ⟨_, rfl⟩
      rw [← hcc] at hc
      have HC := Lib.hid hcc
      clear hx hcell hcc hm
      by_cases hneg : c < 0
      · have hnb : decide (c < 0) = true := decide_eq_true hneg
        have HN := Lib.hid hneg
        clear hneg
        go_wp2_with fail
        (with_reducible refine hc.out.mono ?_)
        rintro e w4 ⟨rfl, hb4⟩
        have HB4 := Lib.hid (HB.out.trans (hb4.mono HB.out.size))
        clear hb4
        go_wp2_with fail
        go_roundw
        case rel => exact ⟨m + 1, hi, by first | rfl | go_num, rfl, by have := HM.out; omega, hin, Lib.hid ⟨fun t ht => by
          have hxn : lt x.name n := by rw [HC.out] at HN; exact cmpB_lt.1 HN.out
          by_cases htm : t = m
          · rw [htm, ← HX.out]; exact hxn
          · have h1 := rsrt_lt HS.out (show t < m by omega) hml
            rw [← HX.out] at h1
            exact lt_trans h1 hxn, INV.out.2⟩, HB4⟩
        case measure =>
          have := HM.out
          simp [intOf]; omega
      · have hnb : decide (c < 0) = false := decide_eq_false hneg
        have HN := Lib.hid hneg
        clear hneg
        go_wp2_with fail
        (with_reducible refine hc.out.mono ?_)
        rintro e w4 ⟨rfl, hb4⟩
        have HB4 := Lib.hid (HB.out.trans (hb4.mono HB.out.size))
        clear hb4
        go_wp2_with fail
        go_roundw
        case rel => exact ⟨lo, m, rfl, by first | rfl | go_num, HM.out.1, by have := HM.out; omega, Lib.hid ⟨INV.out.1, fun t ht htl => by
          have hxn : ¬ lt x.name n := fun k => by have h1 := cmpB_lt.2 k; have h2 := HN.out; rw [HC.out] at h2; omega
          by_cases htm : t = m
          · rw [htm, ← HX.out]; exact hxn
          · have h1 := rsrt_lt HS.out (show m < t by omega) htl
            rw [← HX.out] at h1
            exact fun k => hxn (lt_trans h1 k)⟩, HB4⟩
        case measure =>
          have := HM.out
          simp [intOf]; omega
    · obtain rfl : lo = hi := by omega
      have hfi : ridx n l = lo := ridx_bound HS.out hin INV.out.1 (INV.out.2 lo (Nat.le_refl _))
      have HFI := Lib.hid (show F = decide (lo < l.length ∧ (l.getD lo zeroRf).name = n) from HF.out.trans (rhas_bound HS.out hfi))
      have hI : I = lo := HI.out.trans hfi
      subst hI
      have hltb : decide ((I : Int) < (I : Int)) = false := by simp
      clear hfi
      by_cases hn : I < l.length
      · obtain ⟨b, off, hae, hblt, hcell⟩ := rdR_at HR.out (by omega)
        subst hae
        obtain ⟨x, hx⟩ : ∃ x, x = l.getD I zeroRf := ⟨_, rfl⟩
        obtain ⟨d0, d1⟩ := hcell I hn
        rw [← hx] at d0 d1
        rw [← HB.out.cell (p := ⟨b, off + I * 2, none⟩) hblt] at d0
        rw [← HB.out.cell (p := ⟨b, off + I * 2 + 1, none⟩) hblt] at d1
        have hc := Lib.hid (findR1_any x n wr)
        rw [← hx] at HFI
        have mil : (I : Int) < (l.length : Int) := by omega
        have milb : decide ((I : Int) < (l.length : Int)) = true := decide_eq_true mil
        have mi0 : (0 : Int) ≤ (I : Int) := by omega
        obtain ⟨c, hcc⟩ : ∃ c, c = cmpB x.name n := ⟨_, rfl⟩
        rw [← hcc] at hc
        have HF2 := Lib.hid (show F = (c == 0) from by
          rw [HFI.out, hcc]
          by_cases e : cmpB x.name n = 0
          · rw [decide_eq_true ⟨hn, cmpB_eq.1 e⟩, e]; rfl
          · rw [decide_eq_false (fun k => e (cmpB_eq.2 k.2)), beq_eq_false_iff_ne.2 e])
        clear hx hcell hcc HFI HF
        go_wp2_with fail
        (with_reducible refine hc.out.mono ?_)
        rintro e w4 ⟨rfl, hb4⟩
        have HB4 := Lib.hid (HB.out.trans (hb4.mono HB.out.size))
        clear hb4
        go_wp2_with fail
        go_ret2
        exact ⟨by rw [HF2.out]; first | rfl | simp, HB4.out⟩
      · have milb : decide ((I : Int) < (l.length : Int)) = false := decide_eq_false (by omega)
        have hF : F = false := by rw [HFI.out, decide_eq_false (fun k => hn k.1)]
        subst hF
        go_wp2_with fail
        go_ret2
        exact ⟨rfl, HB.out⟩
set_option maxRecDepth 100000 in
set_option maxHeartbeats 3200000 in
theorem findR_any (l : List Rf) (n : ByteArray) (v : Value) (w : World) (hs : RSrt l) (hr : rdR w v l) (hl : l.length < 4611686018427387904) :
    Calls Tryd.prog 65 #[v, .string n] w fun e w' => e = .returned (.tuple #[.int .i64 (ridx n l : Nat), .bool (rget n l).isSome]) ∧ Below w.heap.size w w' := by
  have HS := Lib.hid (searchR_any l n v w hs hr hl)
  clear hs hr
  go_enter Tryd.func65, Tryd.ntmps65
  go_wp2_with fail
  (with_reducible refine HS.out.mono ?_)
  rintro e w1 ⟨rfl, hb1⟩
  have HB1 := Lib.hid hb1
  clear hb1
  go_wp2_with fail
  go_ret2
  exact ⟨rfl, HB1.out⟩
set_option maxRecDepth 100000 in
set_option maxHeartbeats 3200000 in
theorem getR_any (l : List Rf) (n : ByteArray) (v : Value) (w : World) (hs : RSrt l) (hr : rdR w v l) (hl : l.length < 4611686018427387904) :
    Calls Tryd.prog 64 #[v, .string n] w fun e w' => e = .returned (.string (getR l n)) ∧ Below w.heap.size w w' := by
  have HS := Lib.hid (findR_any l n v w hs hr hl)
  obtain ⟨ae, ce, rfl⟩ := rd_form hr
  cases hg : rget n l with
  | none =>
    have HG := Lib.hid (show getR l n = nilB by unfold getR; rw [hg])
    rw [hg] at HS
    clear hs hr hg
    go_enter Tryd.func64, Tryd.ntmps64
    go_wp2_with fail
    (with_reducible refine HS.out.mono ?_)
    rintro e w1 ⟨rfl, hb1⟩
    have HB1 := Lib.hid hb1
    clear hb1 HS
    go_wp2_with fail
    go_ret
    exact ⟨by rw [HG.out]; rfl, HB1.out⟩
  | some f =>
    have HG := Lib.hid (show getR l n = f.id by unfold getR; rw [hg])
    have hat := at_some Rf.name hs hg
    obtain ⟨k, hk⟩ : ∃ k, k = ridx n l := ⟨_, rfl⟩
    have hk' : idxL Rf.name n l = k := hk.symm
    rw [hk'] at hat
    obtain ⟨b, off, hae, hblt, hcell⟩ := rdR_at hr (by omega)
    subst hae
    have d1 := (hcell k hat.1).2
    rw [show l.getD k zeroRf = f by rw [List.getD, hat.2.1]; rfl] at d1
    rw [hg, ← hk] at HS
    have hki : (k : Int) < (l.length : Int) := by omega
    have hk0 : (0 : Int) ≤ (k : Int) := by omega
    have HD := Lib.hid d1
    have hkl := hat.1
    clear hs hr hg hcell hat hk hk' d1
    go_enter Tryd.func64, Tryd.ntmps64
    go_wp2_with fail
    (with_reducible refine HS.out.mono ?_)
    rintro e w1 ⟨rfl, hb1⟩
    have HB1 := Lib.hid hb1
    have d1 := (hb1.cell (p := ⟨b, off + k * 2 + 1, none⟩) hblt).trans HD.out
    clear hb1 HS
    go_wp2_with fail
    go_ret
    exact ⟨by rw [HG.out]; rfl, HB1.out⟩
end Go.Proofs.YtinhjnbgblieeaaDoor
/-! Refs3 -/
namespace Go.Proofs.YtinhjnbgblieeaaDoor
open Go.RowKit
set_option linter.unusedVariables false
set_option linter.unusedSimpArgs false

theorem rf_info : infoIs Tryd.prog 123 (Value.agg #[.string ⟨#[]⟩, .string ⟨#[]⟩]) 2 32 := by unfold infoIs; kernel_rfl
theorem rf_size : (Tryd.prog.info? 123).map (·.size) = some 2 := by kernel_rfl
theorem rf_zero : ∀ w, (zeroValue 123).run Tryd.prog w = .ok ((Value.agg #[.string ⟨#[]⟩, .string ⟨#[]⟩])) w := Tryd.zeroValue123
theorem rf_zone : ∀ u ∈ ((Value.agg #[.string ⟨#[]⟩, .string ⟨#[]⟩]) : Value).cells.toList, u.oneCell' = true := by decide
set_option maxRecDepth 100000 in
set_option maxHeartbeats 3200000 in
theorem rf_del (n k : Nat) (v : Value) (xs : List Value) (w : World) (base : Nat) (j : Int) (hj : j = (k : Int) + 1) (hk : k < n) (hown : w.ownsRow base 123 2 v n xs) (h1 : ∀ u ∈ xs, u.oneCell' = true) :
    Calls Tryd.prog 67 #[v, .int .i64 (k : Int), .int .i64 j] w fun e w' => ∃ v', e = .returned v' ∧ w'.ownsRow base 123 2 v' (n - 1) (xs.take (k * 2) ++ xs.drop ((k + 1) * 2)) ∧ Upd (fun b => v.ownBlock = some b) w w' ∧ v'.ownBlock = v.ownBlock := by
  obtain ⟨hxl, ⟨_, h0⟩ | ⟨g, cap, cur, rfl, hbg, hg, hnc, hcm, hcs, htake⟩⟩ := hown
  · omega
  subst hj
  have hcm' : cap ≤ 9223372036854775807 := by unfold maxLen at hcm; omega
  have f0 : (0 : Int) ≤ (k : Int) + 1 := by omega
  have f1 : (k : Int) ≤ (k : Int) + 1 := by omega
  have f2 : (k : Int) + 1 ≤ (n : Int) := by omega
  have f6 : (k : Int) ≤ (cap : Int) := by omega
  have f7 : (k : Int) ≤ (n : Int) := by omega
  have f8 : (n : Int) ≤ (cap : Int) := by omega
  have f9 : k ≤ cap := by omega
  have f10 : k + 1 ≤ n := by omega
  have f3 : ((k : Int) + 1).toNat = k + 1 := by omega
  have f4 : ¬ ((k : Int) = (k : Int) + 1) := by omega
  have f5 : ((k : Int) == (k : Int) + 1) = false := beq_eq_false_iff_ne.2 f4
  have f11 : ¬ cap = k := by omega
  have f12 : ¬ cap = n - 1 := by omega
  have f13 : k + (n - (k + 1)) = n - 1 := by omega
  have HCELL := Lib.hid (cells_of_row hg htake)
  have HL := Lib.hid (del_list' cur.toList xs 2 k n cap hk hnc (by simpa using hcs) htake)
  have HB := Lib.hid hbg
  have HM := Lib.hid hcm
  have HS := Lib.hid (show cur.toList.length = cap * 2 by simpa using hcs)
  have H1 := Lib.hid h1
  have HG := Lib.hid hg
  have HX := Lib.hid hxl
  have HT := Lib.hid htake
  clear hcs htake hxl h1 hbg hcm hg
  have fin : ∀ (w2 w3 : World) (cur2 cur3 : Array Value), cur2.toList.length = cap * 2 → cur2.toList.take ((n - 1) * 2) = xs.take (k * 2) ++ xs.drop ((k + 1) * 2) → Upd (· = g) w w2 → Upd (· = g) w2 w3 →
      cur3 = (cur2.toList.take ((n - 1) * 2) ++ (Builtin.zeroCells ((Value.agg #[.string ⟨#[]⟩, .string ⟨#[]⟩]) : Value).cells 1).toList ++ cur2.toList.drop ((n - 1) * 2 + 1 * ((Value.agg #[.string ⟨#[]⟩, .string ⟨#[]⟩]) : Value).cells.size)).toArray → w3.heap[g]? = some (.cells cur3 123 (0, 0)) →
      w3.ownsRow base 123 2 (.slice (some ⟨g, 0, none⟩) (n - 1) cap) (n - 1) (xs.take (k * 2) ++ xs.drop ((k + 1) * 2)) ∧ Upd (fun b => (Value.slice (some ⟨g, 0, none⟩) n cap).ownBlock = some b) w w3 := by
    intro w2 w3 cur2 cur3 h2 h3 u2 u3 h4 h5
    have hzl : (Builtin.zeroCells ((Value.agg #[.string ⟨#[]⟩, .string ⟨#[]⟩]) : Value).cells 1).toList.length = 1 * ((Value.agg #[.string ⟨#[]⟩, .string ⟨#[]⟩]) : Value).cells.size := by rw [Array.length_toList, size_zeroCells]
    have hzc : ((Value.agg #[.string ⟨#[]⟩, .string ⟨#[]⟩]) : Value).cells.size = 2 := rfl
    have hfit : (n - 1) * 2 + (Builtin.zeroCells ((Value.agg #[.string ⟨#[]⟩, .string ⟨#[]⟩]) : Value).cells 1).toList.length ≤ cur2.toList.length := by rw [hzl, hzc, h2]; have := HL.out.2.2.1; omega
    rw [← hzl] at h4
    refine ⟨⟨?_, .inr ⟨g, cap, cur3, rfl, HB.out, h5, by omega, HM.out, ?_, ?_⟩⟩, (u2.trans u3).mono fun i hi => by subst hi; rfl⟩
    · rw [List.length_append, HL.out.1, List.length_take, HX.out]; omega
    · have := len_splice3 _ _ _ hfit
      rw [← h2, ← this, h4]; simp
    · rw [h4, List.toList_toArray, take_splice3' _ _ _ hfit, h3]
  have FIN := Lib.hid fin
  clear fin
  by_cases hz : cap = k + 1
  · obtain rfl : n = k + 1 := by omega
    subst hz
    go_enter Tryd.func67, Tryd.ntmps67
    go_wp2_with fail
    refine Lone.wp_region_order [(0, false), (1, false), (2, false), (3, false), (4, false), (5, false), (6, true), (7, false)] (fun _ => True) (by kernel_rfl) (by kernel_rfl) rfl (by kernel_rfl) (by intro _ _ d _ _ h; cases d <;> exact h) (trivial) ?_; simp only [List.map_cons, List.map_nil, List.getElem?_toArray, List.getElem?_cons_zero, List.getElem?_cons_succ, Option.getD_some]
    repeat (first | (refine Lone.ro_q (by rfl) (v := ?_) ?_ ?_; rotate_left; (focus (intro w' hSw; (try dsimp only at hSw); go_simp; try with_reducible rfl)); simp only [Act.put, List.setIfInBounds_toArray, List.set_cons_zero, List.set_cons_succ]) | (refine Lone.ro_skip (by rfl) ?_; simp only [Act.put, List.setIfInBounds_toArray, List.set_cons_zero, List.set_cons_succ]))
    (refine Lone.ro_loud (by rfl) (fun K hK => ?_))
    refine wp_append_roomK (.tmp 22) (.tmp 25) 68 rfl 123 2 Tryd.underlying68 rf_size g k _ (by rfl) ⟨g, 0, none⟩ _ _ (by rfl) cur (show w.drew.heap[g]? = _ from HG.out) (xs.drop ((k + 1) * 2)) ?cl ?cn ?co ?cr ?cf ?_
    case cl => (have := HL.out.1; first | exact this | (simp at this ⊢; omega))
    case cn => (intro j u hu; have := (List.getElem?_eq_some_iff.1 hu).1; rw [HL.out.1] at this; omega)
    case co => exact fun u hu => H1.out u (List.mem_of_mem_drop hu)
    case cr => omega
    case cf => (rw [HL.out.1, ← Array.length_toList, HS.out]; exact HL.out.2.1)
    intro w2 h2 u2
    have u2' : Upd (· = g) w w2 := ⟨u2.os, u2.tape, u2.output, u2.size, u2.block⟩
    obtain ⟨c2, hc2⟩ : ∃ c2 : Array Value, c2 = (cur.toList.take (k * 2) ++ xs.drop ((k + 1) * 2) ++ cur.toList.drop (k * 2 + (xs.drop ((k + 1) * 2)).length)).toArray := ⟨_, rfl⟩
    rw [← hc2] at h2
    have HC2 := Lib.hid (show c2.toList.length = (k + 1) * 2 ∧ c2.toList.take (((k + 1) - 1) * 2) = xs.take (k * 2) ++ xs.drop ((k + 1) * 2) by rw [hc2]; exact HL.out.2.2.2)
    have HU2 := Lib.hid u2'
    clear hc2 u2 u2'
    skip
    (refine hK.out _ _ (fun _ => True) (.inl fun _ h => h) (trivial) ?_; clear hK K; try simp only [Act.put, List.setIfInBounds_toArray, List.set_cons_zero, List.set_cons_succ])
    repeat (first | (refine Lone.ro_q (by rfl) (v := ?_) ?_ ?_; rotate_left; (focus (intro w' hSw; (try dsimp only at hSw); go_simp; try with_reducible rfl)); simp only [Act.put, List.setIfInBounds_toArray, List.set_cons_zero, List.set_cons_succ]) | (refine Lone.ro_skip (by rfl) ?_; simp only [Act.put, List.setIfInBounds_toArray, List.set_cons_zero, List.set_cons_succ]))
    refine Lone.ro_nil ?_
    go_wp2_with fail
    have hr := run_clear_rowK (P := Tryd.prog) w2 68 123 0 (Value.agg #[.string ⟨#[]⟩, .string ⟨#[]⟩]) Tryd.underlying68 rf_zero rf_zone g (k * 2) 1 (1) (by omega) c2 123 h2 (by have h1 := HC2.out.1; rw [Array.length_toList] at h1; have := HL.out.2.2.1; have hz : ((Value.agg #[.string ⟨#[]⟩, .string ⟨#[]⟩]) : Value).cells.size = 2 := rfl; rw [hz, h1]; omega)
    obtain ⟨w3, hw3⟩ : ∃ w3, w3 = w2.setRow g (c2.toList.take (k * 2) ++ (Builtin.zeroCells ((Value.agg #[.string ⟨#[]⟩, .string ⟨#[]⟩]) : Value).cells 1).toList ++ c2.toList.drop (k * 2 + 1 * ((Value.agg #[.string ⟨#[]⟩, .string ⟨#[]⟩]) : Value).cells.size)).toArray := ⟨_, rfl⟩
    have h3 := setRow_heap w2 g c2 (c2.toList.take (k * 2) ++ (Builtin.zeroCells ((Value.agg #[.string ⟨#[]⟩, .string ⟨#[]⟩]) : Value).cells 1).toList ++ c2.toList.drop (k * 2 + 1 * ((Value.agg #[.string ⟨#[]⟩, .string ⟨#[]⟩]) : Value).cells.size)).toArray 123 (0, 0) h2
    have u3 : Upd (· = g) w2 w3 := by rw [hw3]; exact upd_setRow _
    skip
    rw [← hw3] at h3 hr
    rw [hr]
    simp only [Result.andThen]
    rw [Oper.upon_value]
    have hf := FIN.out w2 w3 c2 _ HC2.out.1 HC2.out.2 HU2.out u3 rfl h3
    have HF := Lib.hid hf
    clear hf hr h3 u3 hw3 h2
    go_wp2_with fail
    go_ret
    exact ⟨_, rfl, HF.out.1, HF.out.2, rfl⟩
  · have hz2 : ¬ (k + 1 = cap) := by omega
    go_enter Tryd.func67, Tryd.ntmps67
    go_wp2_with fail
    refine Lone.wp_region_order [(0, false), (1, false), (2, false), (3, false), (4, false), (5, false), (6, true), (7, false)] (fun _ => True) (by kernel_rfl) (by kernel_rfl) rfl (by kernel_rfl) (by intro _ _ d _ _ h; cases d <;> exact h) (trivial) ?_; simp only [List.map_cons, List.map_nil, List.getElem?_toArray, List.getElem?_cons_zero, List.getElem?_cons_succ, Option.getD_some]
    repeat (first | (refine Lone.ro_q (by rfl) (v := ?_) ?_ ?_; rotate_left; (focus (intro w' hSw; (try dsimp only at hSw); go_simp; try with_reducible rfl)); simp only [Act.put, List.setIfInBounds_toArray, List.set_cons_zero, List.set_cons_succ]) | (refine Lone.ro_skip (by rfl) ?_; simp only [Act.put, List.setIfInBounds_toArray, List.set_cons_zero, List.set_cons_succ]))
    (refine Lone.ro_loud (by rfl) (fun K hK => ?_))
    refine wp_append_roomK (.tmp 22) (.tmp 25) 68 rfl 123 2 Tryd.underlying68 rf_size g k _ (by rfl) ⟨g, (k + 1) * 2, none⟩ _ _ (by rfl) cur (show w.drew.heap[g]? = _ from HG.out) (xs.drop ((k + 1) * 2)) ?cl ?cn ?co ?cr ?cf ?_
    case cl => (have := HL.out.1; first | exact this | (simp at this ⊢; omega))
    case cn => (intro j u hu; rw [addr_add]; exact HCELL.out _ u (by rw [List.getElem?_drop] at hu; exact hu))
    case co => exact fun u hu => H1.out u (List.mem_of_mem_drop hu)
    case cr => omega
    case cf => (rw [HL.out.1, ← Array.length_toList, HS.out]; exact HL.out.2.1)
    intro w2 h2 u2
    have u2' : Upd (· = g) w w2 := ⟨u2.os, u2.tape, u2.output, u2.size, u2.block⟩
    obtain ⟨c2, hc2⟩ : ∃ c2 : Array Value, c2 = (cur.toList.take (k * 2) ++ xs.drop ((k + 1) * 2) ++ cur.toList.drop (k * 2 + (xs.drop ((k + 1) * 2)).length)).toArray := ⟨_, rfl⟩
    rw [← hc2] at h2
    have HC2 := Lib.hid (show c2.toList.length = cap * 2 ∧ c2.toList.take ((n - 1) * 2) = xs.take (k * 2) ++ xs.drop ((k + 1) * 2) by rw [hc2]; exact HL.out.2.2.2)
    have HU2 := Lib.hid u2'
    clear hc2 u2 u2'
    rw [f13]
    (refine hK.out _ _ (fun _ => True) (.inl fun _ h => h) (trivial) ?_; clear hK K; try simp only [Act.put, List.setIfInBounds_toArray, List.set_cons_zero, List.set_cons_succ])
    repeat (first | (refine Lone.ro_q (by rfl) (v := ?_) ?_ ?_; rotate_left; (focus (intro w' hSw; (try dsimp only at hSw); go_simp; try with_reducible rfl)); simp only [Act.put, List.setIfInBounds_toArray, List.set_cons_zero, List.set_cons_succ]) | (refine Lone.ro_skip (by rfl) ?_; simp only [Act.put, List.setIfInBounds_toArray, List.set_cons_zero, List.set_cons_succ]))
    refine Lone.ro_nil ?_
    go_wp2_with fail
    have hr := run_clear_rowK (P := Tryd.prog) w2 68 123 0 (Value.agg #[.string ⟨#[]⟩, .string ⟨#[]⟩]) Tryd.underlying68 rf_zero rf_zone g ((n - 1) * 2) (n - (n - 1)) (cap - (n - 1)) (by omega) c2 123 h2 (by have h1 := HC2.out.1; rw [Array.length_toList] at h1; have := HL.out.2.2.1; have hz : ((Value.agg #[.string ⟨#[]⟩, .string ⟨#[]⟩]) : Value).cells.size = 2 := rfl; rw [hz, h1]; omega)
    obtain ⟨w3, hw3⟩ : ∃ w3, w3 = w2.setRow g (c2.toList.take ((n - 1) * 2) ++ (Builtin.zeroCells ((Value.agg #[.string ⟨#[]⟩, .string ⟨#[]⟩]) : Value).cells 1).toList ++ c2.toList.drop ((n - 1) * 2 + 1 * ((Value.agg #[.string ⟨#[]⟩, .string ⟨#[]⟩]) : Value).cells.size)).toArray := ⟨_, rfl⟩
    have h3 := setRow_heap w2 g c2 (c2.toList.take ((n - 1) * 2) ++ (Builtin.zeroCells ((Value.agg #[.string ⟨#[]⟩, .string ⟨#[]⟩]) : Value).cells 1).toList ++ c2.toList.drop ((n - 1) * 2 + 1 * ((Value.agg #[.string ⟨#[]⟩, .string ⟨#[]⟩]) : Value).cells.size)).toArray 123 (0, 0) h2
    have u3 : Upd (· = g) w2 w3 := by rw [hw3]; exact upd_setRow _
    rw [show n - (n - 1) = 1 by omega] at hr ⊢
    rw [← hw3] at h3 hr
    rw [hr]
    simp only [Result.andThen]
    rw [Oper.upon_value]
    have hf := FIN.out w2 w3 c2 _ HC2.out.1 HC2.out.2 HU2.out u3 rfl h3
    have HF := Lib.hid hf
    clear hf hr h3 u3 hw3 h2
    go_wp2_with fail
    go_ret
    exact ⟨_, rfl, HF.out.1, HF.out.2, rfl⟩
set_option maxRecDepth 100000 in
set_option maxHeartbeats 3200000 in
theorem rf_ins (n k : Nat) (v : Value) (xs : List Value) (w : World) (base vb : Nat) (V : Array Value) (hk : k ≤ n) (hown : w.ownsRow base 123 2 v n xs) (h1 : ∀ u ∈ xs, u.oneCell' = true) (hb : base ≤ w.heap.size)
    (hvb : w.heap[vb]? = some (.cells V 123 (0, 0))) (hV : V.size = 2) (hV1 : ∀ u ∈ V.toList, u.oneCell' = true) (hne : v.ownBlock ≠ some vb) (hbig : (n + 1) * 32 ≤ 140737488355328) :
    Calls Tryd.prog 68 #[v, .int .i64 (k : Int), .slice (some ⟨vb, 0, none⟩) 1 1] w fun e w' => ∃ v', e = .returned v' ∧ w'.ownsRow base 123 2 v' (n + 1) (xs.take (k * 2) ++ V.toList ++ xs.drop (k * 2)) ∧ Upd (fun b => v.ownBlock = some b) w w' := by
  have hVL : V.toList.length = 2 := by simpa using hV
  obtain ⟨R, hR⟩ : ∃ R, R = xs.take (k * 2) ++ V.toList ++ xs.drop (k * 2) := ⟨_, rfl⟩
  rw [← hR]
  have HR := Lib.hid hR
  clear hR
  by_cases hkn : k = n
  · subst hkn
    have hxl := hown.1
    have HF := Lib.hid (show R = xs ++ V.toList by rw [HR.out, ← hxl, List.take_length, List.drop_length, List.append_nil])
    clear HR
    have HO := Lib.hid hown
    have HVB := Lib.hid hvb
    have HV1 := Lib.hid hV1
    have f1 : ((1 : Int) == 0) = false := rfl
    obtain ⟨_, ⟨rfl, rfl⟩ | ⟨g, cap, cur, rfl, hbg, hg, hnc, hcm, hcs, htake⟩⟩ := hown
    · clear hvb hV1 h1 hxl hVL
      go_enter Tryd.func68, Tryd.ntmps68
      go_wp2_with (first | (at_builtin; refine wpList_appendX rfl (.tmp 23) (.tmp 24) 68 rfl rf_info Tryd.underlying68 rfl (by decide) (by decide) HO.out hb HVB.out hV HV1.out hbig rfl rfl ?_; intro v' w' ho hu))
      all_goals (have HO2 := Lib.hid ho; have HU2 := Lib.hid hu; clear ho hu; go_ret; exact ⟨_, rfl, by rw [HF.out]; exact HO2.out, HU2.out⟩)
    · have f2 : (k : Int) ≤ (cap : Int) := by omega
      clear hvb hV1 h1 hxl hVL hbg hg hcs htake
      go_enter Tryd.func68, Tryd.ntmps68
      go_wp2_with (first | (at_builtin; refine wpList_appendX rfl (.tmp 23) (.tmp 24) 68 rfl rf_info Tryd.underlying68 rfl (by decide) (by decide) HO.out hb HVB.out hV HV1.out hbig rfl rfl ?_; intro v' w' ho hu))
      all_goals (have HO2 := Lib.hid ho; have HU2 := Lib.hid hu; clear ho hu; go_ret; exact ⟨_, rfl, by rw [HF.out]; exact HO2.out, HU2.out⟩)
  · obtain ⟨hxl, ⟨_, h0⟩ | ⟨g, cap, cur, rfl, hbg, hg, hnc, hcm, hcs, htake⟩⟩ := hown
    · omega
    have hng : vb ≠ g := fun e => hne (by subst e; rfl)
    have hcm' : cap ≤ 9223372036854775807 := by unfold maxLen at hcm; omega
    have f1 : ((1 : Int) == 0) = false := rfl
    have f2 : (k : Int) ≤ (n : Int) := by omega
    have f3 : ¬ ((k : Int) = (n : Int)) := by omega
    have f4 : ((k : Int) == (n : Int)) = false := beq_eq_false_iff_ne.2 f3
    have f5 : ¬ cap = k := by omega
    have f6 : IntKind.i64.wrap ((n : Int) + 1) = (n : Int) + 1 := by rw [IntKind.wrap_i64]; omega
    have f7 : IntKind.i64.wrap ((k : Int) + 1) = (k : Int) + 1 := by rw [IntKind.wrap_i64]; omega
    have f8 : (0 : Int) ≤ (k : Int) + 1 := by omega
    have f9 : ((k : Int) + 1).toNat = k + 1 := by omega
    have f10 : (0 : Int) ≤ (n : Int) + 1 := by omega
    have f11 : ((n : Int) + 1).toNat = n + 1 := by omega
    have f12 : (k : Int) + 1 ≤ (n : Int) + 1 := by omega
    have f13 : (k : Int) ≤ (n : Int) + 1 := by omega
    have f14 : k ≤ n := hk
    have f15 : ¬ k = n := hkn
    have HCELL := Lib.hid (cells_of_row hg htake)
    have HB := Lib.hid hbg
    have HM := Lib.hid hcm
    have H1 := Lib.hid h1
    have HG := Lib.hid hg
    have HX := Lib.hid hxl
    have HT := Lib.hid htake
    have HVB := Lib.hid hvb
    have HV1 := Lib.hid hV1
    have HVL := Lib.hid hVL
    have HCS := Lib.hid (show cur.toList.length = cap * 2 by simpa using hcs)
    clear hcs htake hxl h1 hbg hcm hvb hV1 hg hVL
    by_cases hroom : n + 1 ≤ cap
    · have f20 : (n : Int) + 1 ≤ (cap : Int) := by omega
      have f21 : decide ((cap : Int) < (n : Int) + 1) = false := decide_eq_false (by omega)
      have f22 : ¬ cap = k + 1 := by omega
      have f23 : ¬ (cap : Int) < (n : Int) + 1 := by omega
      obtain ⟨c2, hc2⟩ : ∃ c2, c2 = (cur.toList.take ((k + 1) * 2) ++ xs.drop (k * 2) ++ cur.toList.drop ((k + 1) * 2 + (xs.drop (k * 2)).length)).toArray := ⟨_, rfl⟩
      have HL := Lib.hid (ins_list cur.toList xs V.toList 2 k n cap hk hroom HCS.out HT.out HVL.out c2.toList (by rw [hc2]))
      have HC2 := Lib.hid hc2
      have hov : ∀ lb cb, (callFunc 76 #[.slice (some ⟨vb, 0, none⟩) 1 1, .slice (some ⟨g, (k + 1) * 2, none⟩) lb cb]).run Tryd.prog w = .ok (.value (.bool false)) w := fun lb cb => by
        rw [run_callFunc_extern Tryd.func76 (by kernel_rfl) (by kernel_rfl) (by kernel_rfl) (e := Extern.SlicesOverlaps.overlaps #[68, 68] #[4]) (by kernel_rfl),
          Lib.run_overlaps_apart w 68 4 123 Tryd.underlying68 2 Tryd.sizeOf123 ⟨vb, 0, none⟩ ⟨g, (k + 1) * 2, none⟩ 1 1 lb cb hng 123 123 V.size cur.size (by simp [World.shape?, HVB.out]) (by simp [World.shape?, HG.out]) (by have h1 := HCS.out; rw [Array.length_toList] at h1; rw [h1]; omega) (by simp [World.frozen?, HVB.out]) (by simp [World.frozen?, HVB.out])]
        rfl
      clear hc2
      go_enter Tryd.func68, Tryd.ntmps68
      go_wp2_with (simp only [hov])
      clear hov
      refine Lone.wp_region_order [(0, false), (1, false), (2, false), (3, false), (4, false), (5, false), (6, false), (7, false), (8, true)] (fun _ => True) (by kernel_rfl) (by kernel_rfl) rfl (by kernel_rfl) (by intro _ _ d _ _ h; cases d <;> exact h) (trivial) ?_; simp only [List.map_cons, List.map_nil, List.getElem?_toArray, List.getElem?_cons_zero, List.getElem?_cons_succ, Option.getD_some]
      repeat (first | (refine Lone.ro_q (by rfl) (v := ?_) ?_ ?_; rotate_left; (focus (intro w' hSw; (try dsimp only at hSw); go_simp; try with_reducible rfl)); simp only [Act.put, List.setIfInBounds_toArray, List.set_cons_zero, List.set_cons_succ]) | (refine Lone.ro_skip (by rfl) ?_; simp only [Act.put, List.setIfInBounds_toArray, List.set_cons_zero, List.set_cons_succ]))
      (refine Lone.ro_loud (by rfl) (fun K hK => ?_))
      refine wp_copyK (.tmp 73) (.tmp 76) 68 68 rfl 123 2 Tryd.underlying68 rf_size g ((k + 1) * 2) _ _ ⟨g, k * 2, none⟩ _ _ (by rfl) (by rfl) cur 123 (show w.drew.heap[g]? = _ from HG.out) (xs.drop (k * 2)) (by rw [HL.out.1]; first | (simp only [Nat.min_def]; split <;> omega) | (congr 1; simp only [Nat.min_def]; split <;> omega)) (fun j u hu => by rw [addr_add]; exact HCELL.out _ u (by rw [List.getElem?_drop] at hu; exact hu)) (by rw [HL.out.1, ← Array.length_toList, HCS.out]; exact HL.out.2.1) (fun u hu => H1.out u (List.mem_of_mem_drop hu)) ?_
      intro w2 h2 u2
      rw [← HC2.out] at h2
      have HU2 := Lib.hid (show Upd (· = g) w w2 from ⟨u2.os, u2.tape, u2.output, u2.size, u2.block⟩)
      clear u2
      have HSRC := Lib.hid (show ∀ j u, V.toList[j]? = some u → w2.cell? ((⟨vb, 0, none⟩ : Addr).add j) = some u from fun j u hu => cells_of_blk (blk_upd HVB.out HU2.out hng) j u hu)
      have HFIT := Lib.hid (show k * 2 + V.toList.length ≤ c2.size by rw [← Array.length_toList, HL.out.2.2.1]; exact HL.out.2.2.2.1)
      (refine hK.out _ _ (fun _ => True) (.inl fun _ h => h) (trivial) ?_; clear hK K; try simp only [Act.put, List.setIfInBounds_toArray, List.set_cons_zero, List.set_cons_succ])
      refine Lone.ro_nil ?_
      go_wp2_with fail
      have hr := run_copy_rowK (P := Tryd.prog) w2 68 68 3 123 2 g (k * 2) (n + 1 - k) (cap - k) ⟨vb, 0, none⟩ 1 1 c2 123 V.toList Tryd.underlying68 rf_size h2 (by rw [HVL.out]; first | (simp only [Nat.min_def]; split <;> omega) | (congr 1; simp only [Nat.min_def]; split <;> omega)) HSRC.out HFIT.out HV1.out
      have h3 := setRow_heap w2 g c2 (c2.toList.take (k * 2) ++ V.toList ++ c2.toList.drop (k * 2 + V.toList.length)).toArray 123 (0, 0) h2
      obtain ⟨w3, hw3⟩ : ∃ w3, w3 = w2.setRow g (c2.toList.take (k * 2) ++ V.toList ++ c2.toList.drop (k * 2 + V.toList.length)).toArray := ⟨_, rfl⟩
      have u3 : Upd (· = g) w2 w3 := by rw [hw3]; exact upd_setRow _
      rw [← hw3] at h3 hr
      rw [hr]
      simp only [Result.andThen]
      rw [Oper.upon_value]
      clear hr hw3
      have HU3 := Lib.hid u3
      have H3 := Lib.hid h3
      clear u3 h3 h2
      go_wp2_with fail
      go_ret
      refine ⟨_, rfl, ⟨?_, .inr ⟨g, cap, _, rfl, HB.out, H3.out, hroom, HM.out, ?_, ?_⟩⟩, (HU2.out.trans HU3.out).mono fun i hi => by subst hi; rfl⟩
      · rw [HR.out, ← HL.out.2.2.2.2.2, List.length_take, HL.out.2.2.2.2.1]; have : (n + 1) * 2 ≤ cap * 2 := Nat.mul_le_mul_right _ hroom; omega
      · have := HL.out.2.2.2.2.1; simpa using this
      · rw [HR.out]; exact HL.out.2.2.2.2.2
    · obtain rfl : n = cap := by omega
      have f20 : (n : Int) < (n : Int) + 1 := by omega
      have f21 : decide ((n : Int) < (n : Int) + 1) = true := decide_eq_true f20
      have f24 : IntKind.i64.wrap ((n : Int) + 1 - (k : Int)) = (n : Int) + 1 - (k : Int) := by rw [IntKind.wrap_i64]; omega
      have HOL := Lib.hid (show (xs.take (k * 2)).length = k * 2 by rw [List.length_take, HX.out]; have : k * 2 ≤ n * 2 := Nat.mul_le_mul_right _ hk; omega)
      have HOS := Lib.hid (show ∀ j u, (xs.take (k * 2))[j]? = some u → w.cell? ⟨g, j, none⟩ = some u from fun j u hj => HCELL.out j u (by
        rw [List.getElem?_take] at hj
        split at hj
        · exact hj
        · cases hj))
      have HKX := Lib.hid (show (n : Int) + 1 - (k : Int) = ((n + 1 - k : Nat) : Int) by omega)
      have HGW := Lib.hid (lt_of_block HG.out)
      have HVW := Lib.hid (lt_of_block HVB.out)
      go_enter Tryd.func68, Tryd.ntmps68
      go_wp2_with (first | (at_builtin; refine wpList_append_zerosK rfl (.tmp 34) (.tmp 39) 68 3 rfl rf_info Tryd.underlying68 Tryd.underlying3 rfl (by decide) g k n (n + 1 - k) (n + 1) (by omega) ((n : Int) + 1 - (k : Int)) HKX.out rfl rfl (xs.take (k * 2)) HOL.out HOS.out (by omega) (by omega) (by rw [show k + (n + 1 - k) = n + 1 by omega]; exact hbig) (by unfold maxLen; omega) ?_; intro w2 cap2 c1 q1 q2 q3 q4 q5 u2 q6; have q7 : ¬ cap2 = k := (by omega); have q8 : ¬ cap2 = k + 1 := (by omega); have HQ := Lib.hid (And.intro q2 (And.intro q3 q4)); have HU2 := Lib.hid u2; have HQ5 := Lib.hid q5; clear q2 q3 q4 q5 u2 q6))
      obtain ⟨c2, hc2⟩ : ∃ c2, c2 = (c1.toList.take (k * 2) ++ V.toList ++ c1.toList.drop (k * 2 + V.toList.length)).toArray := ⟨_, rfl⟩
      have HL := Lib.hid (ins_list' c1.toList xs V.toList 2 k n cap2 hk q1 (by rw [Array.length_toList]; exact HQ.out.2.1) HX.out HQ.out.2.2 HVL.out c2.toList (by rw [hc2]))
      have HSRC := Lib.hid (show ∀ j u, V.toList[j]? = some u → w2.cell? ((⟨vb, 0, none⟩ : Addr).add j) = some u from fun j u hu => cells_of_blk (blk_upd HVB.out HU2.out (fun h => h)) j u hu)
      have hr := run_copy_rowK (P := Tryd.prog) w2 68 68 3 123 2 w.heap.size (k * 2) (n + 1 - k) (cap2 - k) ⟨vb, 0, none⟩ 1 1 c1 123 V.toList Tryd.underlying68 rf_size HQ5.out (by rw [HVL.out]; first | (simp only [Nat.min_def]; split <;> omega) | (congr 1; simp only [Nat.min_def]; split <;> omega)) HSRC.out (by rw [HQ.out.2.1]; exact HL.out.2.1) HV1.out
      have h3 := setRow_heap w2 w.heap.size c1 (c1.toList.take (k * 2) ++ V.toList ++ c1.toList.drop (k * 2 + V.toList.length)).toArray 123 (0, 0) HQ5.out
      obtain ⟨w3, hw3⟩ : ∃ w3, w3 = w2.setRow w.heap.size (c1.toList.take (k * 2) ++ V.toList ++ c1.toList.drop (k * 2 + V.toList.length)).toArray := ⟨_, rfl⟩
      have u3 : Upd (· = w.heap.size) w2 w3 := by rw [hw3]; exact upd_setRow _
      rw [← hw3] at h3 hr
      rw [← hc2] at h3
      rw [hr]
      simp only [Result.andThen]
      rw [Oper.upon_value]
      clear hr hw3
      have HU3 := Lib.hid u3
      have H3 := Lib.hid h3
      clear u3 h3 hc2
      have HG3 := Lib.hid (show w3.heap[g]? = some (.cells cur 123 (0, 0)) from blk_upd (blk_upd HG.out HU2.out (fun h => h)) HU3.out (Nat.ne_of_lt HGW.out))
      go_wp2_with fail
      refine Lone.wp_region_order [(0, false), (1, false), (2, false), (3, false), (4, false), (5, false), (6, false), (7, false), (8, true)] (fun _ => True) (by kernel_rfl) (by kernel_rfl) rfl (by kernel_rfl) (by intro _ _ d _ _ h; cases d <;> exact h) (trivial) ?_; simp only [List.map_cons, List.map_nil, List.getElem?_toArray, List.getElem?_cons_zero, List.getElem?_cons_succ, Option.getD_some]
      repeat (first | (refine Lone.ro_q (by rfl) (v := ?_) ?_ ?_; rotate_left; (focus (intro w' hSw; (try dsimp only at hSw); go_simp; try with_reducible rfl)); simp only [Act.put, List.setIfInBounds_toArray, List.set_cons_zero, List.set_cons_succ]) | (refine Lone.ro_skip (by rfl) ?_; simp only [Act.put, List.setIfInBounds_toArray, List.set_cons_zero, List.set_cons_succ]))
      (refine Lone.ro_loud (by rfl) (fun K hK => ?_))
      refine wp_copyK (.tmp 50) (.tmp 53) 68 68 rfl 123 2 Tryd.underlying68 rf_size w.heap.size ((k + 1) * 2) _ _ ⟨g, k * 2, none⟩ _ _ (by rfl) (by rfl) c2 123 (show w3.drew.heap[w.heap.size]? = _ from H3.out) (xs.drop (k * 2)) (by rw [HL.out.1]; first | (simp only [Nat.min_def]; split <;> omega) | (congr 1; simp only [Nat.min_def]; split <;> omega)) (fun j u hu => by rw [addr_add]; exact cells_of_row (w := w3) HG3.out HT.out _ u (by rw [List.getElem?_drop] at hu; exact hu)) (by rw [HL.out.1, ← Array.length_toList, HL.out.2.2.1]; exact HL.out.2.2.2.1) (fun u hu => H1.out u (List.mem_of_mem_drop hu)) ?_
      intro w4 h4 u4
      have HU4 := Lib.hid (show Upd (· = w.heap.size) w3 w4 from ⟨u4.os, u4.tape, u4.output, u4.size, u4.block⟩)
      have H4 := Lib.hid h4
      clear u4 h4
      (refine hK.out _ _ (fun _ => True) (.inl fun _ h => h) (trivial) ?_; clear hK K; try simp only [Act.put, List.setIfInBounds_toArray, List.set_cons_zero, List.set_cons_succ])
      (refine Lone.ro_nil ?_; go_wp2_with fail)
      go_ret
      refine ⟨_, rfl, ⟨?_, .inr ⟨w.heap.size, cap2, _, rfl, hb, H4.out, q1, HQ.out.1, ?_, ?_⟩⟩, (((Upd.refl _ w).trans' HU2.out (fun i hi => hi.elim)).trans' HU3.out (fun i hi => .inr (by omega))).trans' HU4.out (fun i hi => .inr (by omega))⟩
      · rw [HR.out, ← HL.out.2.2.2.2.2, List.length_take, HL.out.2.2.2.2.1]; have : (n + 1) * 2 ≤ cap2 * 2 := Nat.mul_le_mul_right _ q1; omega
      · have := HL.out.2.2.2.2.1; simpa using this
      · rw [HR.out]; exact HL.out.2.2.2.2.2
end Go.Proofs.YtinhjnbgblieeaaDoor
/-! Own -/
namespace Go.Proofs.YtinhjnbgblieeaaDoor
open Go.RowKit
set_option linter.unusedVariables false
set_option linter.unusedSimpArgs false

theorem set_parts {α : Type} : ∀ (l : List α) (k : Nat) (g : α), k < l.length → l.set k g = l.take k ++ g :: l.drop (k + 1)
  | [], k, g, h => by simp at h
  | x :: l, 0, g, _ => rfl
  | x :: l, k + 1, g, h => by
    have := set_parts l k g (by simpa using h)
    simp [this]
theorem own_set {w : World} {base : Nat} {e : TypeId} {size g n cap : Nat} {xs : List Value} (h : w.ownsRow base e size (.slice (some ⟨g, 0, none⟩) n cap) n xs) (i : Nat) (u : Value) : (w.setCell ⟨g, i, none⟩ u).ownsRow base e size (.slice (some ⟨g, 0, none⟩) n cap) n (xs.set i u) := by
  obtain ⟨h1, ⟨h2, _⟩ | ⟨g', cap', cur, hv, hbg, hg, hn, hm, hs, ht⟩⟩ := h
  · cases h2
  · simp only [Value.slice.injEq, Option.some.injEq, Addr.mk.injEq, and_true, true_and] at hv
    obtain ⟨rfl, rfl⟩ := hv
    have hset := setCell_eq_setRow w g i cur e (0, 0) u hg
    have hh := setRow_heap w g cur (cur.setIfInBounds i u) e (0, 0) hg
    rw [← hset] at hh
    refine ⟨by simpa using h1, .inr ⟨g, cap, _, rfl, hbg, hh, hn, hm, by simpa using hs, ?_⟩⟩
    rw [Array.toList_setIfInBounds, List.take_set, ht]
theorem own_form {w : World} {base : Nat} {e : TypeId} {size : Nat} {v : Value} {n : Nat} {xs : List Value} (h : w.ownsRow base e size v n xs) (hn : 0 < n) : ∃ g cap, v = .slice (some ⟨g, 0, none⟩) n cap ∧ n ≤ cap := by
  obtain ⟨h1, ⟨_, h2⟩ | ⟨g, cap, cur, hv, hbg, hg, hnc, hm, hs, ht⟩⟩ := h
  · omega
  · exact ⟨g, cap, hv, hnc⟩
end Go.Proofs.YtinhjnbgblieeaaDoor
/-! Refs4 -/
namespace Go.Proofs.YtinhjnbgblieeaaDoor
open Go.RowKit
set_option linter.unusedVariables false
set_option linter.unusedSimpArgs false

set_option maxRecDepth 100000 in
set_option maxHeartbeats 3200000 in
theorem cloneR_any (l : List Rf) (v : Value) (w : World) (hr : rdR w v l) (hl : l.length * 32 ≤ 140737488355328) :
    Calls Tryd.prog 66 #[v] w fun e w' => ∃ v', e = .returned v' ∧ w'.ownsRow w.heap.size 123 2 v' l.length (rvs l) ∧ Below w.heap.size w w' := by
  have q22 : ∀ (w : World) (a : Option Addr) (n c n' c' : Nat), (binOp .eql 68 (.slice a n c) (.slice none n' c')).run Tryd.prog w = .ok (.bool a.isNone) w := fun w a n c n' c' => Lib.run_eql_slice_nil w _ _ a n c n' c' Tryd.underlying68
  obtain ⟨ao, cap, rfl⟩ := rd_form hr
  cases ao with
  | none =>
    have h0 : l.length = 0 := by
      obtain ⟨_, ao', cap', hv, hle, _, hz, _⟩ := hr
      simp only [Value.slice.injEq, true_and] at hv
      obtain ⟨rfl, rfl⟩ := hv
      have := hz rfl
      omega
    have he : l = [] := List.eq_nil_of_length_eq_zero h0
    subst he
    clear hr
    go_enter Tryd.func66, Tryd.ntmps66
    go_wp2_with fail
    go_ret
    exact ⟨_, rfl, World.ownsRow_nil _ _ _ _, Below.refl _ _⟩
  | some a =>
    have HR := Lib.hid hr
    have HLL := Lib.hid hl
    clear hr hl
    go_enter Tryd.func66, Tryd.ntmps66
    go_wp2_with (first | (at_builtin; refine wpList_append_rd rfl (.tmp 5) (.tmp 6) 68 rfl rf_info Tryd.underlying68 rfl (by decide) (by decide) (w0 := w) (B := w.heap.size) (World.ownsRow_made w #[] 0 (Nat.le_refl _) (Nat.zero_le _) (by simp)) ((Below.refl _ w).alloc (Nat.le_refl _) _) (Nat.le_refl _) (by simp) (HR.out.below ((Below.refl _ w).alloc (Nat.le_refl _) _)) (rvs_one l) (by rw [Nat.zero_add]; exact HLL.out) rfl rfl ?_; intro v' w' ho hb))
    have HO := Lib.hid ho
    have HB := Lib.hid hb
    clear ho hb
    go_ret
    exact ⟨_, rfl, by have := HO.out; simpa using this, HB.out⟩

theorem rvs_set {l : List Rf} {k : Nat} {f : Rf} (hk : l[k]? = some f) (g : Rf) (hn : g.name = f.name) : (rvs l).set (k * 2 + 1) (.string g.id) = rvs (l.take k ++ g :: l.drop (k + 1)) := by
  rw [← set_parts l k g (List.getElem?_eq_some_iff.1 hk).1]
  induction l generalizing k with
  | nil => simp at hk
  | cons x l ih =>
    cases k with
    | zero =>
      have : x = f := by simpa using hk
      subst this
      show Value.string x.name :: Value.string g.id :: rvs l = Value.string g.name :: Value.string g.id :: rvs l
      rw [hn]
    | succ k =>
      have := ih (k := k) (by simpa using hk)
      rw [show (k + 1) * 2 + 1 = k * 2 + 1 + 1 + 1 by omega]
      show Value.string x.name :: Value.string x.id :: ((rvs l).set (k * 2 + 1) _) = _
      rw [this]
      rfl
theorem own_cellsR {w : World} {base : Nat} {l : List Rf} {g cap k : Nat} {f : Rf} (h : w.ownsRow base 123 2 (.slice (some ⟨g, 0, none⟩) l.length cap) l.length (rvs l)) (hk : l[k]? = some f) :
    w.cell? ⟨g, k * 2, none⟩ = some (.string f.name) ∧ w.cell? ⟨g, k * 2 + 1, none⟩ = some (.string f.id) ∧ (∀ i, w.frozen? ⟨g, i, none⟩ = false) := by
  have hl := (List.getElem?_eq_some_iff.1 hk).1
  have hc := rvs_get l k hl
  rw [List.getD, hk] at hc
  obtain ⟨h1, ⟨h2, _⟩ | ⟨g', cap', cur, hv, hbg, hg, hn, hm, hs, ht⟩⟩ := h
  · cases h2
  · simp only [Value.slice.injEq, Option.some.injEq, Addr.mk.injEq, and_true, true_and] at hv
    obtain ⟨rfl, rfl⟩ := hv
    exact ⟨cells_of_row hg ht _ _ hc.1, cells_of_row hg ht _ _ hc.2, fun i => by simp [World.frozen?, hg]⟩
theorem two_oneR (a b : ByteArray) : ∀ u ∈ (#[.string a, .string b] : Array Value).toList, u.oneCell' = true := by
  intro u hu
  simp at hu
  rcases hu with rfl | rfl <;> rfl
/-- What Set answers. -/
def RetR (w : World) (r : List Rf × Int) (e : Ending) (w' : World) : Prop := ∃ v', e = .returned (.tuple #[v', .int .i64 r.2]) ∧ rdR w' v' r.1 ∧ Below w.heap.size w w'
theorem setR_1 {l : List Rf} {name old id : ByteArray} (h : ¬ GoodR namedR l) : setR namedR l name old id = ([], 3) := by unfold setR; rw [if_pos h]
theorem setR_2 {l : List Rf} {name old id : ByteArray} (h : GoodR namedR l) (h2 : formR namedR name old id = false) : setR namedR l name old id = ([], 2) := by unfold setR; rw [if_neg (fun k => k h), if_pos h2]
theorem setR_3 {l : List Rf} {name old id : ByteArray} (h : GoodR namedR l) (h2 : formR namedR name old id = true) (h3 : getR l name ≠ old) : setR namedR l name old id = ([], 9) := by unfold setR; rw [if_neg (fun k => k h), if_neg (by rw [h2]; decide), if_pos h3]
theorem setO_1 {l : List Rf} {name id : ByteArray} {f : Rf} (h : rget name l = some f) (h2 : id = nilB) : setO l name id = (rdel name l, 0) := by unfold setO; rw [h]; simp only; rw [if_pos h2]
theorem setO_2 {l : List Rf} {name id : ByteArray} {f : Rf} (h : rget name l = some f) (h2 : id ≠ nilB) : setO l name id = (rput ⟨name, id⟩ l, 0) := by unfold setO; rw [h]; simp only; rw [if_neg h2]
theorem setO_3 {l : List Rf} {name id : ByteArray} (h : rget name l = none) (h2 : id = nilB) : setO l name id = (l, 0) := by unfold setO; rw [h]; simp only; rw [if_pos h2]
theorem setO_4 {l : List Rf} {name id : ByteArray} (h : rget name l = none) (h2 : id ≠ nilB) (h3 : 32 ≤ l.length) : setO l name id = ([], 6) := by unfold setO; rw [h]; simp only; rw [if_neg h2, if_pos h3]
theorem setO_5 {l : List Rf} {name id : ByteArray} (h : rget name l = none) (h2 : id ≠ nilB) (h3 : ¬ 32 ≤ l.length) : setO l name id = (rput ⟨name, id⟩ l, 0) := by unfold setO; rw [h]; simp only; rw [if_neg h2, if_neg h3]
set_option maxRecDepth 100000 in
set_option maxHeartbeats 3200000 in
theorem setR_any (l : List Rf) (name old id : ByteArray) (v : Value) (w : World) (hr : rdR w v l) :
    Calls Tryd.prog 49 #[v, .string name, .string old, .string id] w (RetR w (setR namedR l name old id)) := by
  obtain ⟨r, hr0⟩ : ∃ r, r = setR namedR l name old id := ⟨_, rfl⟩
  rw [← hr0]
  have HRR := Lib.hid hr0
  have HR := Lib.hid hr
  have HGC := Lib.hid (goodR_any l v w hr)
  obtain ⟨ao, cp, rfl⟩ := rd_form hr
  clear hr0 hr
  by_cases hgood : GoodR namedR l
  · rw [goodRB_true hgood] at HGC
    have HGD := Lib.hid hgood
    have hl := hgood.len
    have HLL := Lib.hid hl
    have HNM := Lib.hid (fun w' => namedR_any name w')
    have HGT := Lib.hid (fun w' (h : Below w.heap.size w w') => getR_any l name _ w' hgood.srt (HR.out.below h) (by omega))
    have HFI := Lib.hid (fun w' (h : Below w.heap.size w w') => findR_any l name _ w' hgood.srt (HR.out.below h) (by omega))
    have HCL := Lib.hid (fun w' (h : Below w.heap.size w w') => cloneR_any l _ w' (HR.out.below h) (by omega))
    obtain ⟨k, hk⟩ : ∃ k, k = ridx name l := ⟨_, rfl⟩
    have HK := Lib.hid hk
    rw [← hk] at HFI
    obtain ⟨nm, hnm⟩ : ∃ nm, nm = namedR name := ⟨_, rfl⟩
    rw [← hnm] at HNM
    have HNMD := Lib.hid hnm.symm
    obtain ⟨q, hq⟩ : ∃ q, q = getR l name := ⟨_, rfl⟩
    rw [← hq] at HGT
    have HQ := Lib.hid hq
    clear hgood hk hnm hq hl
    cases nm with
    | false =>
      have hr1 := HRR.out.trans (setR_2 HGD.out (by rw [formR, HNMD.out]; rfl))
      subst hr1
      go_enter Tryd.func49, Tryd.ntmps49
      go_wp2_with fail
      (with_reducible refine (HGC.out).mono ?_)
      rintro e w1 ⟨rfl, hb⟩
      have HB1 := Lib.hid (hb)
      clear hb
      go_wp2_with fail
      (with_reducible refine (HNM.out w1).mono ?_)
      rintro e w2 ⟨rfl, hb⟩
      have HB2 := Lib.hid (HB1.out.trans (hb.mono HB1.out.size))
      clear hb
      go_wp2_with fail
      go_ret2
      exact ⟨_, rfl, rdR_nil _, HB2.out⟩
    | true =>
      by_cases hoe : old.size = 0
      · have ho := Lib.hid hoe
        have oe0 : ((old.size : Int) == 0) = true := by rw [hoe]; rfl
        have on0 : ((old.size : Int) != 0) = false := by rw [bne, oe0]; rfl
        have oe32 : ((old.size : Int) == 32) = false := beq_eq_false_iff_ne.2 (by omega)
        have on32 : ((old.size : Int) != 32) = true := by rw [bne, oe32]; rfl
        clear hoe
        by_cases hie : id.size = 0
        · have hi := Lib.hid hie
          have ie0 : ((id.size : Int) == 0) = true := by rw [hie]; rfl
          have in0 : ((id.size : Int) != 0) = false := by rw [bne, ie0]; rfl
          have ie32 : ((id.size : Int) == 32) = false := beq_eq_false_iff_ne.2 (by omega)
          have in32 : ((id.size : Int) != 32) = true := by rw [bne, ie32]; rfl
          clear hie
          have HFM := Lib.hid (show formR namedR name old id = true from formR_iff.2 ⟨HNMD.out, .inl ho.out, .inl hi.out⟩)
          have hid0 : id = nilB := nil_of_size hi.out
          have hem : id.toList.isEmpty = true := by rw [isEmptyR]; exact decide_eq_true hid0
          have HID := Lib.hid hid0
          clear hid0
          by_cases hqo : q = old
          · have HEQ := Lib.hid (HRR.out.trans (setR_eq HGD.out HFM.out (HQ.out.symm.trans hqo)))
            have hqb : (q.toList == old.toList) = true := by rw [hqo]; exact beq_self_eq_true _
            clear hqo
            cases hg : rget name l with
            | some f =>
              rw [hg] at HFI
              have HSOME := Lib.hid hg
              have hr1 := HEQ.out.trans (setO_1 hg HID.out)
              subst hr1
              obtain ⟨h1, h2, h3, h4⟩ := at_some Rf.name HGD.out.srt hg
              rw [← show k = idxL Rf.name name l from HK.out] at h1 h2 h3 h4
              have hki : (k : Int) + 1 ≤ (l.length : Int) := by omega
              have hkw : IntKind.i64.wrap ((k : Int) + 1) = (k : Int) + 1 := by rw [IntKind.wrap_i64]; have := HLL.out; omega
              have H1 := Lib.hid h1
              have HDE := Lib.hid (show rvs (l.take k) ++ rvs (l.drop (k + 1)) = rvs (rdel name l) by rw [← rvs_append, h4])
              have HDL := Lib.hid (show l.length - 1 = (rdel name l).length by have := len_del_some Rf.name HGD.out.srt hg; show _ = (delL Rf.name name l).length; omega)
              clear h1 h2 h3 h4 hg
              go_enter Tryd.func49, Tryd.ntmps49
              go_wp2_with fail
              (with_reducible refine (HGC.out).mono ?_)
              rintro e w1 ⟨rfl, hb⟩
              have HB1 := Lib.hid (hb)
              clear hb
              go_wp2_with fail
              (with_reducible refine (HNM.out w1).mono ?_)
              rintro e w2 ⟨rfl, hb⟩
              have HB2 := Lib.hid (HB1.out.trans (hb.mono HB1.out.size))
              clear hb
              go_wp2_with fail
              (with_reducible refine (HGT.out w2 HB2.out).mono ?_)
              rintro e w3 ⟨rfl, hb⟩
              have HB3 := Lib.hid (HB2.out.trans (hb.mono HB2.out.size))
              clear hb
              go_wp2_with fail
              (with_reducible refine (HFI.out w3 HB3.out).mono ?_)
              rintro e w4 ⟨rfl, hb⟩
              have HB4 := Lib.hid (HB3.out.trans (hb.mono HB3.out.size))
              clear hb
              go_wp2_with fail
              (with_reducible refine (HCL.out w4 HB4.out).mono ?_)
              rintro e w5 ⟨cv, rfl, hown, hb⟩
              have HB5 := Lib.hid (HB4.out.trans (hb.mono HB4.out.size))
              have HS5 := Lib.hid hb.size
              clear hb
              have HO := Lib.hid hown
              obtain ⟨ao2, cp2, rfl⟩ := rd_form (rdRow_of_owns hown)
              clear hown
              go_wp2_with fail
              (with_reducible refine (rf_del l.length k _ (rvs l) w5 w4.heap.size ((k : Int) + 1) rfl H1.out HO.out (rvs_one l)).mono ?_)
              rintro e w6 ⟨v', rfl, hO2, hU2, _⟩
              rw [rvs_take, rvs_drop, HDE.out, HDL.out] at hO2
              obtain ⟨ao6, cp6, rfl⟩ := rd_form (rdRow_of_owns hO2)
              have HB6 := Lib.hid (HB5.out.trans (hU2.below HB5.out.size (fun i hi => Nat.le_trans HB4.out.size (HO.out.lt i hi).1)))
              have HO6 := Lib.hid hO2
              clear hO2 hU2
              go_wp2_with fail
              go_ret2
              exact ⟨_, rfl, rdR_owns HO6.out, HB6.out⟩
            | none =>
              rw [hg] at HFI
              have hr1 := HEQ.out.trans (setO_3 hg HID.out)
              subst hr1
              clear hg
              go_enter Tryd.func49, Tryd.ntmps49
              go_wp2_with fail
              (with_reducible refine (HGC.out).mono ?_)
              rintro e w1 ⟨rfl, hb⟩
              have HB1 := Lib.hid (hb)
              clear hb
              go_wp2_with fail
              (with_reducible refine (HNM.out w1).mono ?_)
              rintro e w2 ⟨rfl, hb⟩
              have HB2 := Lib.hid (HB1.out.trans (hb.mono HB1.out.size))
              clear hb
              go_wp2_with fail
              (with_reducible refine (HGT.out w2 HB2.out).mono ?_)
              rintro e w3 ⟨rfl, hb⟩
              have HB3 := Lib.hid (HB2.out.trans (hb.mono HB2.out.size))
              clear hb
              go_wp2_with fail
              (with_reducible refine (HFI.out w3 HB3.out).mono ?_)
              rintro e w4 ⟨rfl, hb⟩
              have HB4 := Lib.hid (HB3.out.trans (hb.mono HB3.out.size))
              clear hb
              go_wp2_with fail
              (with_reducible refine (HCL.out w4 HB4.out).mono ?_)
              rintro e w5 ⟨cv, rfl, hown, hb⟩
              have HB5 := Lib.hid (HB4.out.trans (hb.mono HB4.out.size))
              have HS5 := Lib.hid hb.size
              clear hb
              have HO := Lib.hid hown
              obtain ⟨ao2, cp2, rfl⟩ := rd_form (rdRow_of_owns hown)
              clear hown
              go_wp2_with fail
              go_ret2
              exact ⟨_, rfl, rdR_owns HO.out, HB5.out⟩
          · have hr1 := HRR.out.trans (setR_3 HGD.out HFM.out (fun e => hqo (HQ.out.trans e)))
            subst hr1
            have hqb : (q.toList == old.toList) = false := beq_eq_false_iff_ne.2 (fun e => hqo (toList_inj e))
            clear hqo
            go_enter Tryd.func49, Tryd.ntmps49
            go_wp2_with fail
            (with_reducible refine (HGC.out).mono ?_)
            rintro e w1 ⟨rfl, hb⟩
            have HB1 := Lib.hid (hb)
            clear hb
            go_wp2_with fail
            (with_reducible refine (HNM.out w1).mono ?_)
            rintro e w2 ⟨rfl, hb⟩
            have HB2 := Lib.hid (HB1.out.trans (hb.mono HB1.out.size))
            clear hb
            go_wp2_with fail
            (with_reducible refine (HGT.out w2 HB2.out).mono ?_)
            rintro e w3 ⟨rfl, hb⟩
            have HB3 := Lib.hid (HB2.out.trans (hb.mono HB2.out.size))
            clear hb
            go_wp2_with fail
            go_ret2
            exact ⟨_, rfl, rdR_nil _, HB3.out⟩
        · by_cases hif : id.size = 32
          · have hie := hif
            have hi := Lib.hid hie
            have ie0 : ((id.size : Int) == 0) = false := beq_eq_false_iff_ne.2 (by omega)
            have in0 : ((id.size : Int) != 0) = true := by rw [bne, ie0]; rfl
            have ie32 : ((id.size : Int) == 32) = true := by rw [hie]; rfl
            have in32 : ((id.size : Int) != 32) = false := by rw [bne, ie32]; rfl
            clear hif hie
            have HFM := Lib.hid (show formR namedR name old id = true from formR_iff.2 ⟨HNMD.out, .inl ho.out, .inr hi.out⟩)
            have hid0 : id ≠ nilB := fun e => by have := hi.out; rw [e] at this; exact absurd this (by decide)
            have hem : id.toList.isEmpty = false := by rw [isEmptyR]; exact decide_eq_false hid0
            have HID := Lib.hid hid0
            clear hid0
            by_cases hqo : q = old
            · have HEQ := Lib.hid (HRR.out.trans (setR_eq HGD.out HFM.out (HQ.out.symm.trans hqo)))
              have hqb : (q.toList == old.toList) = true := by rw [hqo]; exact beq_self_eq_true _
              clear hqo
              cases hg : rget name l with
              | some f =>
                rw [hg] at HFI
                have HSOME := Lib.hid hg
                have hr1 := HEQ.out.trans (setO_2 hg HID.out)
                subst hr1
                obtain ⟨h1, h2, h3, h4⟩ := at_some Rf.name HGD.out.srt hg
                rw [← show k = idxL Rf.name name l from HK.out] at h1 h2 h3 h4
                have hki : (k : Int) < (l.length : Int) := by omega
                have hk0 : (0 : Int) ≤ (k : Int) := by omega
                have hkl := h1
                have H2 := Lib.hid h2
                have HPE := Lib.hid (h3 ⟨name, id⟩ rfl)
                have HPL := Lib.hid (show (rput ⟨name, id⟩ l).length = l.length from len_put_some Rf.name (f := ⟨name, id⟩) HGD.out.srt hg)
                clear h1 h2 h3 h4 hg
                go_enter Tryd.func49, Tryd.ntmps49
                go_wp2_with fail
                (with_reducible refine (HGC.out).mono ?_)
                rintro e w1 ⟨rfl, hb⟩
                have HB1 := Lib.hid (hb)
                clear hb
                go_wp2_with fail
                (with_reducible refine (HNM.out w1).mono ?_)
                rintro e w2 ⟨rfl, hb⟩
                have HB2 := Lib.hid (HB1.out.trans (hb.mono HB1.out.size))
                clear hb
                go_wp2_with fail
                (with_reducible refine (HGT.out w2 HB2.out).mono ?_)
                rintro e w3 ⟨rfl, hb⟩
                have HB3 := Lib.hid (HB2.out.trans (hb.mono HB2.out.size))
                clear hb
                go_wp2_with fail
                (with_reducible refine (HFI.out w3 HB3.out).mono ?_)
                rintro e w4 ⟨rfl, hb⟩
                have HB4 := Lib.hid (HB3.out.trans (hb.mono HB3.out.size))
                clear hb
                go_wp2_with fail
                (with_reducible refine (HCL.out w4 HB4.out).mono ?_)
                rintro e w5 ⟨cv, rfl, hown, hb⟩
                have HB5 := Lib.hid (HB4.out.trans (hb.mono HB4.out.size))
                have HS5 := Lib.hid hb.size
                clear hb
                have HO := Lib.hid hown
                obtain ⟨ao2, cp2, rfl⟩ := rd_form (rdRow_of_owns hown)
                clear hown
                obtain ⟨g, cp3, hv, hcp⟩ := own_form HO.out (by omega)
                simp only [Value.slice.injEq, true_and] at hv
                obtain ⟨rfl, rfl⟩ := hv
                obtain ⟨s0, s1, sf⟩ := own_cellsR HO.out H2.out
                have sf1 := sf (k * 2 + 1)
                have HO6 := Lib.hid (own_set HO.out (k * 2 + 1) (.string id))
                clear sf
                have HB6 := Lib.hid (HB5.out.setCell (p := ⟨g, k * 2 + 1, none⟩) (Nat.le_trans HB4.out.size (HO.out.lt g rfl).1) (.string id))
                go_wp2_with fail
                go_ret2
                refine ⟨_, rfl, rdR_owns (B := w4.heap.size) ?_, HB6.out⟩
                have h := HO6.out
                rw [rvs_set H2.out ⟨name, id⟩ ((getL_some Rf.name HSOME.out).2.symm), HPE.out] at h
                show World.ownsRow _ _ 123 2 _ (rput ⟨name, id⟩ l).length (rvs (rput ⟨name, id⟩ l))
                rw [HPL.out]
                exact h
              | none =>
                rw [hg] at HFI
                by_cases hfull : 32 ≤ l.length
                · have hr1 := HEQ.out.trans (setO_4 hg HID.out hfull)
                  subst hr1
                  have hfi : decide ((32 : Int) ≤ (l.length : Int)) = true := decide_eq_true (by omega)
                  have hfn : decide (32 ≤ l.length) = true := decide_eq_true hfull
                  clear hg hfull
                  go_enter Tryd.func49, Tryd.ntmps49
                  go_wp2_with fail
                  (with_reducible refine (HGC.out).mono ?_)
                  rintro e w1 ⟨rfl, hb⟩
                  have HB1 := Lib.hid (hb)
                  clear hb
                  go_wp2_with fail
                  (with_reducible refine (HNM.out w1).mono ?_)
                  rintro e w2 ⟨rfl, hb⟩
                  have HB2 := Lib.hid (HB1.out.trans (hb.mono HB1.out.size))
                  clear hb
                  go_wp2_with fail
                  (with_reducible refine (HGT.out w2 HB2.out).mono ?_)
                  rintro e w3 ⟨rfl, hb⟩
                  have HB3 := Lib.hid (HB2.out.trans (hb.mono HB2.out.size))
                  clear hb
                  go_wp2_with fail
                  (with_reducible refine (HFI.out w3 HB3.out).mono ?_)
                  rintro e w4 ⟨rfl, hb⟩
                  have HB4 := Lib.hid (HB3.out.trans (hb.mono HB3.out.size))
                  clear hb
                  go_wp2_with fail
                  (with_reducible refine (HCL.out w4 HB4.out).mono ?_)
                  rintro e w5 ⟨cv, rfl, hown, hb⟩
                  have HB5 := Lib.hid (HB4.out.trans (hb.mono HB4.out.size))
                  have HS5 := Lib.hid hb.size
                  clear hb
                  have HO := Lib.hid hown
                  obtain ⟨ao2, cp2, rfl⟩ := rd_form (rdRow_of_owns hown)
                  clear hown
                  go_wp2_with fail
                  go_ret2
                  exact ⟨_, rfl, rdR_nil _, HB5.out⟩
                · have hr1 := HEQ.out.trans (setO_5 hg HID.out hfull)
                  subst hr1
                  have hfi : decide ((32 : Int) ≤ (l.length : Int)) = false := decide_eq_false (by omega)
                  have hfn : decide (32 ≤ l.length) = false := decide_eq_false hfull
                  obtain ⟨hkl, hput⟩ := at_none Rf.name HGD.out.srt hg
                  rw [← show k = idxL Rf.name name l from HK.out] at hkl hput
                  have HPE := Lib.hid (hput ⟨name, id⟩ rfl)
                  have HPL := Lib.hid (show (rput ⟨name, id⟩ l).length = l.length + 1 from len_put_none Rf.name (f := ⟨name, id⟩) HGD.out.srt hg)
                  have HKL := Lib.hid hkl
                  clear hg hfull hput hkl
                  go_enter Tryd.func49, Tryd.ntmps49
                  go_wp2_with fail
                  (with_reducible refine (HGC.out).mono ?_)
                  rintro e w1 ⟨rfl, hb⟩
                  have HB1 := Lib.hid (hb)
                  clear hb
                  go_wp2_with fail
                  (with_reducible refine (HNM.out w1).mono ?_)
                  rintro e w2 ⟨rfl, hb⟩
                  have HB2 := Lib.hid (HB1.out.trans (hb.mono HB1.out.size))
                  clear hb
                  go_wp2_with fail
                  (with_reducible refine (HGT.out w2 HB2.out).mono ?_)
                  rintro e w3 ⟨rfl, hb⟩
                  have HB3 := Lib.hid (HB2.out.trans (hb.mono HB2.out.size))
                  clear hb
                  go_wp2_with fail
                  (with_reducible refine (HFI.out w3 HB3.out).mono ?_)
                  rintro e w4 ⟨rfl, hb⟩
                  have HB4 := Lib.hid (HB3.out.trans (hb.mono HB3.out.size))
                  clear hb
                  go_wp2_with fail
                  (with_reducible refine (HCL.out w4 HB4.out).mono ?_)
                  rintro e w5 ⟨cv, rfl, hown, hb⟩
                  have HB5 := Lib.hid (HB4.out.trans (hb.mono HB4.out.size))
                  have HS5 := Lib.hid hb.size
                  clear hb
                  have HO := Lib.hid hown
                  obtain ⟨ao2, cp2, rfl⟩ := rd_form (rdRow_of_owns hown)
                  clear hown
                  have HBA := Lib.hid (HB5.out.alloc HB5.out.size (.cells #[.string name, .string id] 123))
                  have HOA := Lib.hid (HO.out.alloc (.cells #[.string name, .string id] 123))
                  have HVA := Lib.hid (show (w5.alloc (.cells #[.string name, .string id] 123)).heap[w5.heap.size]? = some (.cells #[.string name, .string id] 123 (0, 0)) from heap_alloc_new w5 _)
                  go_wp2_with fail
                  (with_reducible refine (rf_ins l.length k _ (rvs l) _ w4.heap.size w5.heap.size #[.string name, .string id] HKL.out HOA.out (rvs_one l) (Nat.le_trans HS5.out (by simp)) HVA.out rfl (two_oneR _ _) (fun e => absurd (HO.out.lt _ e).2 (Nat.lt_irrefl _)) (by have := HLL.out; omega)).mono ?_)
                  rintro e w6 ⟨v', rfl, hO2, hU2⟩
                  have h2 : (rvs l).take (k * 2) ++ (#[.string name, .string id] : Array Value).toList ++ (rvs l).drop (k * 2) = rvs (rput ⟨name, id⟩ l) := by rw [rvs_take, rvs_drop]; show _ = rvs (putL Rf.name ⟨name, id⟩ l); rw [← HPE.out, rvs_append, List.append_assoc]; rfl
                  rw [h2, ← HPL.out] at hO2
                  obtain ⟨ao6, cp6, rfl⟩ := rd_form (rdRow_of_owns hO2)
                  have HB6 := Lib.hid (HBA.out.trans (hU2.below HBA.out.size (fun i hi => Nat.le_trans HB4.out.size (HOA.out.lt i hi).1)))
                  have HO6 := Lib.hid hO2
                  clear hO2 hU2 h2
                  go_wp2_with fail
                  go_ret2
                  exact ⟨_, rfl, rdR_owns HO6.out, HB6.out⟩
            · have hr1 := HRR.out.trans (setR_3 HGD.out HFM.out (fun e => hqo (HQ.out.trans e)))
              subst hr1
              have hqb : (q.toList == old.toList) = false := beq_eq_false_iff_ne.2 (fun e => hqo (toList_inj e))
              clear hqo
              go_enter Tryd.func49, Tryd.ntmps49
              go_wp2_with fail
              (with_reducible refine (HGC.out).mono ?_)
              rintro e w1 ⟨rfl, hb⟩
              have HB1 := Lib.hid (hb)
              clear hb
              go_wp2_with fail
              (with_reducible refine (HNM.out w1).mono ?_)
              rintro e w2 ⟨rfl, hb⟩
              have HB2 := Lib.hid (HB1.out.trans (hb.mono HB1.out.size))
              clear hb
              go_wp2_with fail
              (with_reducible refine (HGT.out w2 HB2.out).mono ?_)
              rintro e w3 ⟨rfl, hb⟩
              have HB3 := Lib.hid (HB2.out.trans (hb.mono HB2.out.size))
              clear hb
              go_wp2_with fail
              go_ret2
              exact ⟨_, rfl, rdR_nil _, HB3.out⟩
          · have HF := Lib.hid (show formR namedR name old id = false by rw [formR, decide_eq_false hie, decide_eq_false hif]; simp)
            have ie0 : ((id.size : Int) == 0) = false := beq_eq_false_iff_ne.2 (by omega)
            have in0 : ((id.size : Int) != 0) = true := by rw [bne, ie0]; rfl
            have ie32 : ((id.size : Int) == 32) = false := beq_eq_false_iff_ne.2 (by omega)
            have in32 : ((id.size : Int) != 32) = true := by rw [bne, ie32]; rfl
            clear hie hif
            have hr1 := HRR.out.trans (setR_2 HGD.out HF.out)
            subst hr1
            go_enter Tryd.func49, Tryd.ntmps49
            go_wp2_with fail
            (with_reducible refine (HGC.out).mono ?_)
            rintro e w1 ⟨rfl, hb⟩
            have HB1 := Lib.hid (hb)
            clear hb
            go_wp2_with fail
            (with_reducible refine (HNM.out w1).mono ?_)
            rintro e w2 ⟨rfl, hb⟩
            have HB2 := Lib.hid (HB1.out.trans (hb.mono HB1.out.size))
            clear hb
            go_wp2_with fail
            go_ret2
            exact ⟨_, rfl, rdR_nil _, HB2.out⟩
      · by_cases hof : old.size = 32
        · have hoe := hof
          have ho := Lib.hid hoe
          have oe0 : ((old.size : Int) == 0) = false := beq_eq_false_iff_ne.2 (by omega)
          have on0 : ((old.size : Int) != 0) = true := by rw [bne, oe0]; rfl
          have oe32 : ((old.size : Int) == 32) = true := by rw [hoe]; rfl
          have on32 : ((old.size : Int) != 32) = false := by rw [bne, oe32]; rfl
          clear hof hoe
          by_cases hie : id.size = 0
          · have hi := Lib.hid hie
            have ie0 : ((id.size : Int) == 0) = true := by rw [hie]; rfl
            have in0 : ((id.size : Int) != 0) = false := by rw [bne, ie0]; rfl
            have ie32 : ((id.size : Int) == 32) = false := beq_eq_false_iff_ne.2 (by omega)
            have in32 : ((id.size : Int) != 32) = true := by rw [bne, ie32]; rfl
            clear hie
            have HFM := Lib.hid (show formR namedR name old id = true from formR_iff.2 ⟨HNMD.out, .inr ho.out, .inl hi.out⟩)
            have hid0 : id = nilB := nil_of_size hi.out
            have hem : id.toList.isEmpty = true := by rw [isEmptyR]; exact decide_eq_true hid0
            have HID := Lib.hid hid0
            clear hid0
            by_cases hqo : q = old
            · have HEQ := Lib.hid (HRR.out.trans (setR_eq HGD.out HFM.out (HQ.out.symm.trans hqo)))
              have hqb : (q.toList == old.toList) = true := by rw [hqo]; exact beq_self_eq_true _
              clear hqo
              cases hg : rget name l with
              | some f =>
                rw [hg] at HFI
                have HSOME := Lib.hid hg
                have hr1 := HEQ.out.trans (setO_1 hg HID.out)
                subst hr1
                obtain ⟨h1, h2, h3, h4⟩ := at_some Rf.name HGD.out.srt hg
                rw [← show k = idxL Rf.name name l from HK.out] at h1 h2 h3 h4
                have hki : (k : Int) + 1 ≤ (l.length : Int) := by omega
                have hkw : IntKind.i64.wrap ((k : Int) + 1) = (k : Int) + 1 := by rw [IntKind.wrap_i64]; have := HLL.out; omega
                have H1 := Lib.hid h1
                have HDE := Lib.hid (show rvs (l.take k) ++ rvs (l.drop (k + 1)) = rvs (rdel name l) by rw [← rvs_append, h4])
                have HDL := Lib.hid (show l.length - 1 = (rdel name l).length by have := len_del_some Rf.name HGD.out.srt hg; show _ = (delL Rf.name name l).length; omega)
                clear h1 h2 h3 h4 hg
                go_enter Tryd.func49, Tryd.ntmps49
                go_wp2_with fail
                (with_reducible refine (HGC.out).mono ?_)
                rintro e w1 ⟨rfl, hb⟩
                have HB1 := Lib.hid (hb)
                clear hb
                go_wp2_with fail
                (with_reducible refine (HNM.out w1).mono ?_)
                rintro e w2 ⟨rfl, hb⟩
                have HB2 := Lib.hid (HB1.out.trans (hb.mono HB1.out.size))
                clear hb
                go_wp2_with fail
                (with_reducible refine (HGT.out w2 HB2.out).mono ?_)
                rintro e w3 ⟨rfl, hb⟩
                have HB3 := Lib.hid (HB2.out.trans (hb.mono HB2.out.size))
                clear hb
                go_wp2_with fail
                (with_reducible refine (HFI.out w3 HB3.out).mono ?_)
                rintro e w4 ⟨rfl, hb⟩
                have HB4 := Lib.hid (HB3.out.trans (hb.mono HB3.out.size))
                clear hb
                go_wp2_with fail
                (with_reducible refine (HCL.out w4 HB4.out).mono ?_)
                rintro e w5 ⟨cv, rfl, hown, hb⟩
                have HB5 := Lib.hid (HB4.out.trans (hb.mono HB4.out.size))
                have HS5 := Lib.hid hb.size
                clear hb
                have HO := Lib.hid hown
                obtain ⟨ao2, cp2, rfl⟩ := rd_form (rdRow_of_owns hown)
                clear hown
                go_wp2_with fail
                (with_reducible refine (rf_del l.length k _ (rvs l) w5 w4.heap.size ((k : Int) + 1) rfl H1.out HO.out (rvs_one l)).mono ?_)
                rintro e w6 ⟨v', rfl, hO2, hU2, _⟩
                rw [rvs_take, rvs_drop, HDE.out, HDL.out] at hO2
                obtain ⟨ao6, cp6, rfl⟩ := rd_form (rdRow_of_owns hO2)
                have HB6 := Lib.hid (HB5.out.trans (hU2.below HB5.out.size (fun i hi => Nat.le_trans HB4.out.size (HO.out.lt i hi).1)))
                have HO6 := Lib.hid hO2
                clear hO2 hU2
                go_wp2_with fail
                go_ret2
                exact ⟨_, rfl, rdR_owns HO6.out, HB6.out⟩
              | none =>
                rw [hg] at HFI
                have hr1 := HEQ.out.trans (setO_3 hg HID.out)
                subst hr1
                clear hg
                go_enter Tryd.func49, Tryd.ntmps49
                go_wp2_with fail
                (with_reducible refine (HGC.out).mono ?_)
                rintro e w1 ⟨rfl, hb⟩
                have HB1 := Lib.hid (hb)
                clear hb
                go_wp2_with fail
                (with_reducible refine (HNM.out w1).mono ?_)
                rintro e w2 ⟨rfl, hb⟩
                have HB2 := Lib.hid (HB1.out.trans (hb.mono HB1.out.size))
                clear hb
                go_wp2_with fail
                (with_reducible refine (HGT.out w2 HB2.out).mono ?_)
                rintro e w3 ⟨rfl, hb⟩
                have HB3 := Lib.hid (HB2.out.trans (hb.mono HB2.out.size))
                clear hb
                go_wp2_with fail
                (with_reducible refine (HFI.out w3 HB3.out).mono ?_)
                rintro e w4 ⟨rfl, hb⟩
                have HB4 := Lib.hid (HB3.out.trans (hb.mono HB3.out.size))
                clear hb
                go_wp2_with fail
                (with_reducible refine (HCL.out w4 HB4.out).mono ?_)
                rintro e w5 ⟨cv, rfl, hown, hb⟩
                have HB5 := Lib.hid (HB4.out.trans (hb.mono HB4.out.size))
                have HS5 := Lib.hid hb.size
                clear hb
                have HO := Lib.hid hown
                obtain ⟨ao2, cp2, rfl⟩ := rd_form (rdRow_of_owns hown)
                clear hown
                go_wp2_with fail
                go_ret2
                exact ⟨_, rfl, rdR_owns HO.out, HB5.out⟩
            · have hr1 := HRR.out.trans (setR_3 HGD.out HFM.out (fun e => hqo (HQ.out.trans e)))
              subst hr1
              have hqb : (q.toList == old.toList) = false := beq_eq_false_iff_ne.2 (fun e => hqo (toList_inj e))
              clear hqo
              go_enter Tryd.func49, Tryd.ntmps49
              go_wp2_with fail
              (with_reducible refine (HGC.out).mono ?_)
              rintro e w1 ⟨rfl, hb⟩
              have HB1 := Lib.hid (hb)
              clear hb
              go_wp2_with fail
              (with_reducible refine (HNM.out w1).mono ?_)
              rintro e w2 ⟨rfl, hb⟩
              have HB2 := Lib.hid (HB1.out.trans (hb.mono HB1.out.size))
              clear hb
              go_wp2_with fail
              (with_reducible refine (HGT.out w2 HB2.out).mono ?_)
              rintro e w3 ⟨rfl, hb⟩
              have HB3 := Lib.hid (HB2.out.trans (hb.mono HB2.out.size))
              clear hb
              go_wp2_with fail
              go_ret2
              exact ⟨_, rfl, rdR_nil _, HB3.out⟩
          · by_cases hif : id.size = 32
            · have hie := hif
              have hi := Lib.hid hie
              have ie0 : ((id.size : Int) == 0) = false := beq_eq_false_iff_ne.2 (by omega)
              have in0 : ((id.size : Int) != 0) = true := by rw [bne, ie0]; rfl
              have ie32 : ((id.size : Int) == 32) = true := by rw [hie]; rfl
              have in32 : ((id.size : Int) != 32) = false := by rw [bne, ie32]; rfl
              clear hif hie
              have HFM := Lib.hid (show formR namedR name old id = true from formR_iff.2 ⟨HNMD.out, .inr ho.out, .inr hi.out⟩)
              have hid0 : id ≠ nilB := fun e => by have := hi.out; rw [e] at this; exact absurd this (by decide)
              have hem : id.toList.isEmpty = false := by rw [isEmptyR]; exact decide_eq_false hid0
              have HID := Lib.hid hid0
              clear hid0
              by_cases hqo : q = old
              · have HEQ := Lib.hid (HRR.out.trans (setR_eq HGD.out HFM.out (HQ.out.symm.trans hqo)))
                have hqb : (q.toList == old.toList) = true := by rw [hqo]; exact beq_self_eq_true _
                clear hqo
                cases hg : rget name l with
                | some f =>
                  rw [hg] at HFI
                  have HSOME := Lib.hid hg
                  have hr1 := HEQ.out.trans (setO_2 hg HID.out)
                  subst hr1
                  obtain ⟨h1, h2, h3, h4⟩ := at_some Rf.name HGD.out.srt hg
                  rw [← show k = idxL Rf.name name l from HK.out] at h1 h2 h3 h4
                  have hki : (k : Int) < (l.length : Int) := by omega
                  have hk0 : (0 : Int) ≤ (k : Int) := by omega
                  have hkl := h1
                  have H2 := Lib.hid h2
                  have HPE := Lib.hid (h3 ⟨name, id⟩ rfl)
                  have HPL := Lib.hid (show (rput ⟨name, id⟩ l).length = l.length from len_put_some Rf.name (f := ⟨name, id⟩) HGD.out.srt hg)
                  clear h1 h2 h3 h4 hg
                  go_enter Tryd.func49, Tryd.ntmps49
                  go_wp2_with fail
                  (with_reducible refine (HGC.out).mono ?_)
                  rintro e w1 ⟨rfl, hb⟩
                  have HB1 := Lib.hid (hb)
                  clear hb
                  go_wp2_with fail
                  (with_reducible refine (HNM.out w1).mono ?_)
                  rintro e w2 ⟨rfl, hb⟩
                  have HB2 := Lib.hid (HB1.out.trans (hb.mono HB1.out.size))
                  clear hb
                  go_wp2_with fail
                  (with_reducible refine (HGT.out w2 HB2.out).mono ?_)
                  rintro e w3 ⟨rfl, hb⟩
                  have HB3 := Lib.hid (HB2.out.trans (hb.mono HB2.out.size))
                  clear hb
                  go_wp2_with fail
                  (with_reducible refine (HFI.out w3 HB3.out).mono ?_)
                  rintro e w4 ⟨rfl, hb⟩
                  have HB4 := Lib.hid (HB3.out.trans (hb.mono HB3.out.size))
                  clear hb
                  go_wp2_with fail
                  (with_reducible refine (HCL.out w4 HB4.out).mono ?_)
                  rintro e w5 ⟨cv, rfl, hown, hb⟩
                  have HB5 := Lib.hid (HB4.out.trans (hb.mono HB4.out.size))
                  have HS5 := Lib.hid hb.size
                  clear hb
                  have HO := Lib.hid hown
                  obtain ⟨ao2, cp2, rfl⟩ := rd_form (rdRow_of_owns hown)
                  clear hown
                  obtain ⟨g, cp3, hv, hcp⟩ := own_form HO.out (by omega)
                  simp only [Value.slice.injEq, true_and] at hv
                  obtain ⟨rfl, rfl⟩ := hv
                  obtain ⟨s0, s1, sf⟩ := own_cellsR HO.out H2.out
                  have sf1 := sf (k * 2 + 1)
                  have HO6 := Lib.hid (own_set HO.out (k * 2 + 1) (.string id))
                  clear sf
                  have HB6 := Lib.hid (HB5.out.setCell (p := ⟨g, k * 2 + 1, none⟩) (Nat.le_trans HB4.out.size (HO.out.lt g rfl).1) (.string id))
                  go_wp2_with fail
                  go_ret2
                  refine ⟨_, rfl, rdR_owns (B := w4.heap.size) ?_, HB6.out⟩
                  have h := HO6.out
                  rw [rvs_set H2.out ⟨name, id⟩ ((getL_some Rf.name HSOME.out).2.symm), HPE.out] at h
                  show World.ownsRow _ _ 123 2 _ (rput ⟨name, id⟩ l).length (rvs (rput ⟨name, id⟩ l))
                  rw [HPL.out]
                  exact h
                | none =>
                  rw [hg] at HFI
                  by_cases hfull : 32 ≤ l.length
                  · have hr1 := HEQ.out.trans (setO_4 hg HID.out hfull)
                    subst hr1
                    have hfi : decide ((32 : Int) ≤ (l.length : Int)) = true := decide_eq_true (by omega)
                    have hfn : decide (32 ≤ l.length) = true := decide_eq_true hfull
                    clear hg hfull
                    go_enter Tryd.func49, Tryd.ntmps49
                    go_wp2_with fail
                    (with_reducible refine (HGC.out).mono ?_)
                    rintro e w1 ⟨rfl, hb⟩
                    have HB1 := Lib.hid (hb)
                    clear hb
                    go_wp2_with fail
                    (with_reducible refine (HNM.out w1).mono ?_)
                    rintro e w2 ⟨rfl, hb⟩
                    have HB2 := Lib.hid (HB1.out.trans (hb.mono HB1.out.size))
                    clear hb
                    go_wp2_with fail
                    (with_reducible refine (HGT.out w2 HB2.out).mono ?_)
                    rintro e w3 ⟨rfl, hb⟩
                    have HB3 := Lib.hid (HB2.out.trans (hb.mono HB2.out.size))
                    clear hb
                    go_wp2_with fail
                    (with_reducible refine (HFI.out w3 HB3.out).mono ?_)
                    rintro e w4 ⟨rfl, hb⟩
                    have HB4 := Lib.hid (HB3.out.trans (hb.mono HB3.out.size))
                    clear hb
                    go_wp2_with fail
                    (with_reducible refine (HCL.out w4 HB4.out).mono ?_)
                    rintro e w5 ⟨cv, rfl, hown, hb⟩
                    have HB5 := Lib.hid (HB4.out.trans (hb.mono HB4.out.size))
                    have HS5 := Lib.hid hb.size
                    clear hb
                    have HO := Lib.hid hown
                    obtain ⟨ao2, cp2, rfl⟩ := rd_form (rdRow_of_owns hown)
                    clear hown
                    go_wp2_with fail
                    go_ret2
                    exact ⟨_, rfl, rdR_nil _, HB5.out⟩
                  · have hr1 := HEQ.out.trans (setO_5 hg HID.out hfull)
                    subst hr1
                    have hfi : decide ((32 : Int) ≤ (l.length : Int)) = false := decide_eq_false (by omega)
                    have hfn : decide (32 ≤ l.length) = false := decide_eq_false hfull
                    obtain ⟨hkl, hput⟩ := at_none Rf.name HGD.out.srt hg
                    rw [← show k = idxL Rf.name name l from HK.out] at hkl hput
                    have HPE := Lib.hid (hput ⟨name, id⟩ rfl)
                    have HPL := Lib.hid (show (rput ⟨name, id⟩ l).length = l.length + 1 from len_put_none Rf.name (f := ⟨name, id⟩) HGD.out.srt hg)
                    have HKL := Lib.hid hkl
                    clear hg hfull hput hkl
                    go_enter Tryd.func49, Tryd.ntmps49
                    go_wp2_with fail
                    (with_reducible refine (HGC.out).mono ?_)
                    rintro e w1 ⟨rfl, hb⟩
                    have HB1 := Lib.hid (hb)
                    clear hb
                    go_wp2_with fail
                    (with_reducible refine (HNM.out w1).mono ?_)
                    rintro e w2 ⟨rfl, hb⟩
                    have HB2 := Lib.hid (HB1.out.trans (hb.mono HB1.out.size))
                    clear hb
                    go_wp2_with fail
                    (with_reducible refine (HGT.out w2 HB2.out).mono ?_)
                    rintro e w3 ⟨rfl, hb⟩
                    have HB3 := Lib.hid (HB2.out.trans (hb.mono HB2.out.size))
                    clear hb
                    go_wp2_with fail
                    (with_reducible refine (HFI.out w3 HB3.out).mono ?_)
                    rintro e w4 ⟨rfl, hb⟩
                    have HB4 := Lib.hid (HB3.out.trans (hb.mono HB3.out.size))
                    clear hb
                    go_wp2_with fail
                    (with_reducible refine (HCL.out w4 HB4.out).mono ?_)
                    rintro e w5 ⟨cv, rfl, hown, hb⟩
                    have HB5 := Lib.hid (HB4.out.trans (hb.mono HB4.out.size))
                    have HS5 := Lib.hid hb.size
                    clear hb
                    have HO := Lib.hid hown
                    obtain ⟨ao2, cp2, rfl⟩ := rd_form (rdRow_of_owns hown)
                    clear hown
                    have HBA := Lib.hid (HB5.out.alloc HB5.out.size (.cells #[.string name, .string id] 123))
                    have HOA := Lib.hid (HO.out.alloc (.cells #[.string name, .string id] 123))
                    have HVA := Lib.hid (show (w5.alloc (.cells #[.string name, .string id] 123)).heap[w5.heap.size]? = some (.cells #[.string name, .string id] 123 (0, 0)) from heap_alloc_new w5 _)
                    go_wp2_with fail
                    (with_reducible refine (rf_ins l.length k _ (rvs l) _ w4.heap.size w5.heap.size #[.string name, .string id] HKL.out HOA.out (rvs_one l) (Nat.le_trans HS5.out (by simp)) HVA.out rfl (two_oneR _ _) (fun e => absurd (HO.out.lt _ e).2 (Nat.lt_irrefl _)) (by have := HLL.out; omega)).mono ?_)
                    rintro e w6 ⟨v', rfl, hO2, hU2⟩
                    have h2 : (rvs l).take (k * 2) ++ (#[.string name, .string id] : Array Value).toList ++ (rvs l).drop (k * 2) = rvs (rput ⟨name, id⟩ l) := by rw [rvs_take, rvs_drop]; show _ = rvs (putL Rf.name ⟨name, id⟩ l); rw [← HPE.out, rvs_append, List.append_assoc]; rfl
                    rw [h2, ← HPL.out] at hO2
                    obtain ⟨ao6, cp6, rfl⟩ := rd_form (rdRow_of_owns hO2)
                    have HB6 := Lib.hid (HBA.out.trans (hU2.below HBA.out.size (fun i hi => Nat.le_trans HB4.out.size (HOA.out.lt i hi).1)))
                    have HO6 := Lib.hid hO2
                    clear hO2 hU2 h2
                    go_wp2_with fail
                    go_ret2
                    exact ⟨_, rfl, rdR_owns HO6.out, HB6.out⟩
              · have hr1 := HRR.out.trans (setR_3 HGD.out HFM.out (fun e => hqo (HQ.out.trans e)))
                subst hr1
                have hqb : (q.toList == old.toList) = false := beq_eq_false_iff_ne.2 (fun e => hqo (toList_inj e))
                clear hqo
                go_enter Tryd.func49, Tryd.ntmps49
                go_wp2_with fail
                (with_reducible refine (HGC.out).mono ?_)
                rintro e w1 ⟨rfl, hb⟩
                have HB1 := Lib.hid (hb)
                clear hb
                go_wp2_with fail
                (with_reducible refine (HNM.out w1).mono ?_)
                rintro e w2 ⟨rfl, hb⟩
                have HB2 := Lib.hid (HB1.out.trans (hb.mono HB1.out.size))
                clear hb
                go_wp2_with fail
                (with_reducible refine (HGT.out w2 HB2.out).mono ?_)
                rintro e w3 ⟨rfl, hb⟩
                have HB3 := Lib.hid (HB2.out.trans (hb.mono HB2.out.size))
                clear hb
                go_wp2_with fail
                go_ret2
                exact ⟨_, rfl, rdR_nil _, HB3.out⟩
            · have HF := Lib.hid (show formR namedR name old id = false by rw [formR, decide_eq_false hie, decide_eq_false hif]; simp)
              have ie0 : ((id.size : Int) == 0) = false := beq_eq_false_iff_ne.2 (by omega)
              have in0 : ((id.size : Int) != 0) = true := by rw [bne, ie0]; rfl
              have ie32 : ((id.size : Int) == 32) = false := beq_eq_false_iff_ne.2 (by omega)
              have in32 : ((id.size : Int) != 32) = true := by rw [bne, ie32]; rfl
              clear hie hif
              have hr1 := HRR.out.trans (setR_2 HGD.out HF.out)
              subst hr1
              go_enter Tryd.func49, Tryd.ntmps49
              go_wp2_with fail
              (with_reducible refine (HGC.out).mono ?_)
              rintro e w1 ⟨rfl, hb⟩
              have HB1 := Lib.hid (hb)
              clear hb
              go_wp2_with fail
              (with_reducible refine (HNM.out w1).mono ?_)
              rintro e w2 ⟨rfl, hb⟩
              have HB2 := Lib.hid (HB1.out.trans (hb.mono HB1.out.size))
              clear hb
              go_wp2_with fail
              go_ret2
              exact ⟨_, rfl, rdR_nil _, HB2.out⟩
        · have HF := Lib.hid (show formR namedR name old id = false by rw [formR, decide_eq_false hoe, decide_eq_false hof]; simp)
          have oe0 : ((old.size : Int) == 0) = false := beq_eq_false_iff_ne.2 (by omega)
          have on0 : ((old.size : Int) != 0) = true := by rw [bne, oe0]; rfl
          have oe32 : ((old.size : Int) == 32) = false := beq_eq_false_iff_ne.2 (by omega)
          have on32 : ((old.size : Int) != 32) = true := by rw [bne, oe32]; rfl
          clear hoe hof
          have hr1 := HRR.out.trans (setR_2 HGD.out HF.out)
          subst hr1
          go_enter Tryd.func49, Tryd.ntmps49
          go_wp2_with fail
          (with_reducible refine (HGC.out).mono ?_)
          rintro e w1 ⟨rfl, hb⟩
          have HB1 := Lib.hid (hb)
          clear hb
          go_wp2_with fail
          (with_reducible refine (HNM.out w1).mono ?_)
          rintro e w2 ⟨rfl, hb⟩
          have HB2 := Lib.hid (HB1.out.trans (hb.mono HB1.out.size))
          clear hb
          go_wp2_with fail
          go_ret2
          exact ⟨_, rfl, rdR_nil _, HB2.out⟩
  · rw [goodRB_false hgood] at HGC
    have hr1 := HRR.out.trans (setR_1 hgood)
    subst hr1
    clear hgood
    go_enter Tryd.func49, Tryd.ntmps49
    go_wp2_with fail
    (with_reducible refine HGC.out.mono ?_)
    rintro e w1 ⟨rfl, hb⟩
    have HB1 := Lib.hid hb
    clear hb
    go_wp2_with fail
    go_ret2
    exact ⟨_, rfl, rdR_nil _, HB1.out⟩
end Go.Proofs.YtinhjnbgblieeaaDoor
