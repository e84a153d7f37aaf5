/- Texts put together: RefsLaw Cmp Refs1 Refs2 Refs3 Own Refs4. -/
import Derived.Test.YtmacceamebdelaaDoorNam
import Derived.Test.YtmacceamebdelaaDoorBas
import Derived.Laws.Externs
import Derived.BigRegion
import Derived.Deep.RegionWith
/-! RefsLaw -/
namespace Go.Proofs.YtmacceamebdelaaDoor
set_option linter.unusedVariables false
set_option linter.unusedSimpArgs false

structure Rf where
  name : ByteArray
  id : ByteArray
abbrev rget := getL Rf.name
abbrev rput := putL Rf.name
abbrev rdel := delL Rf.name
abbrev ridx := idxL Rf.name
abbrev RSrt := Srt Rf.name
section
variable (nm : ByteArray → Bool)
structure GoodR (l : List Rf) : Prop where
  len : l.length ≤ 32
  srt : RSrt l
  name : ∀ f ∈ l, nm f.name = true
  size : ∀ f ∈ l, f.id.size = 32
def getR (l : List Rf) (n : ByteArray) : ByteArray := match rget n l with
  | none => nilB
  | some f => f.id
def setO (l : List Rf) (name id : ByteArray) : List Rf × Int := match rget name l with
  | some _ => if id = nilB then (rdel name l, 0) else (rput ⟨name, id⟩ l, 0)
  | none => if id = nilB then (l, 0) else if 32 ≤ l.length then ([], 6) else (rput ⟨name, id⟩ l, 0)
/-- A setting whose name and ids have the form. -/
def formR (name old id : ByteArray) : Bool := nm name && ((decide (old.size = 0) || decide (old.size = 32)) && (decide (id.size = 0) || decide (id.size = 32)))
open Classical in
noncomputable def setR (l : List Rf) (name old id : ByteArray) : List Rf × Int :=
  if ¬ GoodR nm l then ([], 3) else if formR nm name old id = false then ([], 2) else if getR l name ≠ old then ([], 9) else setO l name id
variable {nm}
theorem nil_of_size {s : ByteArray} (h : s.size = 0) : s = nilB := by
  apply toList_inj
  have : s.toList.length = 0 := by rw [ByteArray.toList_eq]; simpa using h
  rw [List.eq_nil_of_length_eq_zero this, ByteArray.toList_eq]; rfl
theorem rget_of {l : List Rf} (h : GoodR nm l) (n : ByteArray) : rget n l = if getR l n = nilB then none else some ⟨n, getR l n⟩ := by
  unfold getR
  cases hg : rget n l with
  | none => simp
  | some f =>
    have h1 := getL_some Rf.name hg
    have h2 := h.size f h1.1
    have h3 : f.id ≠ nilB := fun e => by rw [e] at h2; exact absurd h2 (by decide)
    simp only [h3, if_false]
    rw [← h1.2]
theorem getR_size {l : List Rf} (h : GoodR nm l) (n : ByteArray) : getR l n = nilB ∨ (getR l n).size = 32 := by
  unfold getR
  cases hg : rget n l with
  | none => exact .inl rfl
  | some f => exact .inr (h.size f (getL_some Rf.name hg).1)
theorem rput_inv {l : List Rf} {f : Rf} (h : GoodR nm l) (hn : nm f.name = true) (hs : f.id.size = 32) (hl : rget f.name l ≠ none ∨ l.length < 32) : GoodR nm (rput f l) := by
  refine ⟨?_, srt_put _ h.srt, fun x hx => ?_, fun x hx => ?_⟩
  · cases hg : rget f.name l with
    | none => have := len_put_none Rf.name h.srt hg; have := hl.resolve_left (fun k => k hg); unfold rput; omega
    | some g => have := len_put_some Rf.name h.srt hg; have := h.len; unfold rput; omega
  · rcases mem_put _ hx with rfl | hx
    · exact hn
    · exact h.name x hx
  · rcases mem_put _ hx with rfl | hx
    · exact hs
    · exact h.size x hx
theorem rdel_inv {l : List Rf} {n : ByteArray} (h : GoodR nm l) : GoodR nm (rdel n l) :=
  ⟨Nat.le_trans (List.length_filter_le _ _) h.len, srt_del _ h.srt, fun x hx => h.name x (mem_del _ hx), fun x hx => h.size x (mem_del _ hx)⟩
theorem getR_put {l : List Rf} {f : Rf} (n : ByteArray) : getR (rput f l) n = if n = f.name then f.id else getR l n := by
  unfold getR rput rget
  rw [getL_put]
  by_cases h : n = f.name <;> simp [h]
theorem getR_del {l : List Rf} {m : ByteArray} (n : ByteArray) : getR (rdel m l) n = if n = m then nilB else getR l n := by
  unfold getR rdel rget
  rw [getL_del]
  by_cases h : n = m <;> simp [h]
theorem formR_iff {name old id : ByteArray} : formR nm name old id = true ↔ nm name = true ∧ (old.size = 0 ∨ old.size = 32) ∧ (id.size = 0 ∨ id.size = 32) := by
  simp [formR]
theorem setO_ok {l : List Rf} {name id : ByteArray} (h : GoodR nm l) (hn : nm name = true) (hi : id.size = 0 ∨ id.size = 32) (he : (setO l name id).2 = 0) :
    GoodR nm (setO l name id).1 ∧ ∀ n, getR (setO l name id).1 n = if n = name then id else getR l n := by
  unfold setO at he ⊢
  cases hg : rget name l with
  | some f =>
    simp only
    by_cases e : id = nilB
    · rw [if_pos e]
      exact ⟨rdel_inv h, fun n => by rw [getR_del, e]⟩
    · rw [if_neg e]
      have hs := hi.resolve_left (fun k => e (nil_of_size k))
      exact ⟨rput_inv h hn hs (.inl (by rw [hg]; simp)), fun n => by rw [getR_put]⟩
  | none =>
    rw [hg] at he
    simp only at he ⊢
    by_cases e : id = nilB
    · rw [if_pos e]
      refine ⟨h, fun n => ?_⟩
      by_cases en : n = name
      · simp only [en, if_true, e, getR, hg]
      · rw [if_neg en]
    · rw [if_neg e] at he ⊢
      have hs := hi.resolve_left (fun k => e (nil_of_size k))
      by_cases e2 : 32 ≤ l.length
      · rw [if_pos e2] at he; exact absurd he (by simp)
      · rw [if_neg e2]
        exact ⟨rput_inv h hn hs (.inr (by omega)), fun n => by rw [getR_put]⟩
theorem setR_ok {l : List Rf} {name old id : ByteArray} (he : (setR nm l name old id).2 = 0) :
    GoodR nm l ∧ formR nm name old id = true ∧ getR l name = old ∧ setR nm l name old id = setO l name id ∧ GoodR nm (setR nm l name old id).1 ∧ ∀ n, getR (setR nm l name old id).1 n = if n = name then id else getR l n := by
  unfold setR at he ⊢
  by_cases h1 : GoodR nm l
  · rw [if_neg (fun k => k h1)] at he ⊢
    by_cases h2 : formR nm name old id = false
    · rw [if_pos h2] at he; exact absurd he (by simp)
    · rw [if_neg h2] at he ⊢
      by_cases h3 : getR l name ≠ old
      · rw [if_pos h3] at he; exact absurd he (by simp)
      · rw [if_neg h3] at he ⊢
        have h2' : formR nm name old id = true := by simpa using h2
        have f := formR_iff.1 h2'
        have := setO_ok h1 f.1 f.2.2 he
        exact ⟨h1, h2', Classical.not_not.1 h3, rfl, this.1, this.2⟩
  · rw [if_pos h1] at he; exact absurd he (by simp)
theorem setR_eq {l : List Rf} {name old id : ByteArray} (h1 : GoodR nm l) (h2 : formR nm name old id = true) (h3 : getR l name = old) : setR nm l name old id = setO l name id := by
  unfold setR
  rw [if_neg (fun k => k h1), if_neg (by simp [h2]), if_neg (fun k => k h3)]
theorem setR_bad {l : List Rf} {name old id : ByteArray} (he : (setR nm l name old id).2 ≠ 0) : (setR nm l name old id).1 = [] := by
  unfold setR setO at he ⊢
  repeat' split
  all_goals first | rfl | skip
  all_goals simp_all
theorem ext_R {l m : List Rf} (hl : GoodR nm l) (hm : GoodR nm m) (h : ∀ n, getR l n = getR m n) : l = m :=
  srt_ext Rf.name hl.srt hm.srt fun n => by
    have a := rget_of hl n
    have b := rget_of hm n
    rw [h n] at a
    exact a.trans b.symm
theorem refs_back {l : List Rf} {name id : ByteArray} (hl : GoodR nm l) (he : (setR nm l name (getR l name) id).2 = 0) :
    setR nm (setR nm l name (getR l name) id).1 name id (getR l name) = (l, 0) ∧ getR (setR nm l name (getR l name) id).1 name = id ∧ GoodR nm (setR nm l name (getR l name) id).1 := by
  obtain ⟨_, hf, _, heq, hg, hget⟩ := setR_ok he
  have hid := hget name
  rw [if_pos rfl] at hid
  have f := formR_iff.1 hf
  have hf' : formR nm name id (getR l name) = true := formR_iff.2 ⟨f.1, f.2.2, f.2.1⟩
  refine ⟨?_, hid, hg⟩
  rw [setR_eq hg hf' hid]
  have hz : (setO (setR nm l name (getR l name) id).1 name (getR l name)).2 = 0 := by
    unfold setO
    cases h1 : rget name (setR nm l name (getR l name) id).1 with
    | some x => simp only; split <;> rfl
    | none =>
      simp only
      split
      · rfl
      · rename_i h2
        have hidn : id = nilB := by
          have h9 : getR (setR nm l name (getR l name) id).1 name = nilB := by rw [getR, h1]
          exact hid.symm.trans h9
        cases h3 : rget name l with
        | none => exact absurd (show getR l name = nilB by simp [getR, h3]) h2
        | some x =>
          have hlen := len_del_some Rf.name hl.srt h3
          have h4 : (setR nm l name (getR l name) id).1 = rdel name l := by
            rw [heq]
            simp [setO, h3, hidn]
          have h5 : ¬ 32 ≤ (setR nm l name (getR l name) id).1.length := by
            rw [h4]
            have := hl.len
            unfold rdel
            omega
          rw [if_neg h5]
  have hk := setO_ok hg f.1 f.2.1 hz
  have : (setO (setR nm l name (getR l name) id).1 name (getR l name)).1 = l := ext_R hk.1 hl fun n => by
    rw [hk.2 n, hget n]
    by_cases e : n = name
    · rw [if_pos e, e]
    · rw [if_neg e, if_neg e]
  rw [← hz]
  exact Prod.ext this rfl
theorem refs_others {l : List Rf} {name old id : ByteArray} (he : (setR nm l name old id).2 = 0) :
    (∀ other, name = other ∨ getR (setR nm l name old id).1 other = getR l other) ∧ ((setR nm (setR nm l name old id).1 name old id).2 = 0 ↔ old = id) ∧ GoodR nm (setR nm l name old id).1 := by
  obtain ⟨hl, hf, hold, heq, hg, hget⟩ := setR_ok he
  have hid := hget name
  rw [if_pos rfl] at hid
  refine ⟨fun other => ?_, ⟨fun h => ?_, fun h => ?_⟩, hg⟩
  · by_cases e : name = other
    · exact .inl e
    · rw [hget other, if_neg (fun k => e k.symm)]
      exact .inr rfl
  · have := (setR_ok h).2.2.1
    rw [hid] at this
    exact this.symm
  · rw [setR_eq hg hf (hid.trans h.symm)]
    have := refs_back hl (name := name) (id := id) (by rw [hold]; exact he)
    rw [hold] at this
    have h2 := (setR_ok (nm := nm) (l := (setR nm l name old id).1) (name := name) (old := id) (id := old) (by rw [this.1])).2.2.2.1
    rw [h] at h2 ⊢
    have h3 := this.1
    rw [h] at h3
    rw [← h2, h3]
end
end Go.Proofs.YtmacceamebdelaaDoor
/-! Cmp -/
namespace Go.Proofs.YtmacceamebdelaaDoor
open Go.RowKit
set_option linter.unusedVariables false
set_option linter.unusedSimpArgs false

def cmpB (a b : ByteArray) : Int := Lib.compareBytes a.data.toList b.data.toList
theorem cmpB_lt {a b : ByteArray} : cmpB a b < 0 ↔ lt a b := by
  unfold cmpB
  rw [cmp_lt]
  by_cases h : lt a b
  · simp [h]
  · by_cases e : a = b <;> simp [h, e, lt_irr]
theorem cmpB_eq {a b : ByteArray} : cmpB a b = 0 ↔ a = b := by
  unfold cmpB
  rw [cmp_lt]
  by_cases h : lt a b
  · simp [h, lt_ne h]
  · by_cases e : a = b <;> simp [h, e, lt_irr]
set_option maxRecDepth 100000 in
set_option maxHeartbeats 3200000 in
theorem compareS_any (a b : ByteArray) (w : World) : Calls Tryd.prog 64 #[.string a, .string b] w fun e w' => e = .returned (.int .i64 (cmpB a b)) ∧ w' = w := by
  go_enter Tryd.func64, Tryd.ntmps64
  go_wp2
  rw [run_callFunc_extern Tryd.func69 (by kernel_rfl) (by kernel_rfl) (by kernel_rfl) (e := Extern.BytealgCompare.compare) (by kernel_rfl), Lib.run_compareString]
  simp only [Result.andThen]
  rw [Oper.upon_value]
  go_wp2
  go_ret
  exact ⟨rfl, rfl⟩
set_option maxRecDepth 100000 in
set_option maxHeartbeats 3200000 in
theorem compare_any (a b : ByteArray) (w : World) : Calls Tryd.prog 52 #[.string a, .string b] w fun e w' => e = .returned (.int .i64 (cmpB a b)) ∧ w' = w := by
  go_enter Tryd.func52, Tryd.ntmps52
  go_wp2_with fail
  (with_reducible refine (compareS_any a b w).mono ?_)
  rintro e w' ⟨rfl, rfl⟩
  go_wp2_with fail
  go_ret
  exact ⟨rfl, rfl⟩
end Go.Proofs.YtmacceamebdelaaDoor
/-! Refs1 -/
namespace Go.Proofs.YtmacceamebdelaaDoor
open Go.RowKit
set_option linter.unusedVariables false
set_option linter.unusedSimpArgs false

def zeroRf : Rf := ⟨nilB, nilB⟩
def rvs (l : List Rf) : List Value := l.flatMap fun x => [.string x.name, .string x.id]
theorem rvs_length (l : List Rf) : (rvs l).length = l.length * 2 := by induction l with
  | nil => rfl
  | cons x l ih => rw [rvs, List.flatMap_cons, List.length_append, ← rvs, ih]; simp; omega
theorem rvs_append (a b : List Rf) : rvs (a ++ b) = rvs a ++ rvs b := by simp [rvs]
theorem rvs_take (l : List Rf) : ∀ k, (rvs l).take (k * 2) = rvs (l.take k) := by
  induction l with
  | nil => intro k; simp [rvs]
  | cons x l ih =>
    intro k
    cases k with
    | zero => simp [rvs]
    | succ k =>
      rw [show (k + 1) * 2 = k * 2 + 1 + 1 by omega]
      show Value.string x.name :: Value.string x.id :: (rvs l).take (k * 2) = _
      rw [ih k]; rfl
theorem rvs_drop (l : List Rf) : ∀ k, (rvs l).drop (k * 2) = rvs (l.drop k) := by
  induction l with
  | nil => intro k; simp [rvs]
  | cons x l ih =>
    intro k
    cases k with
    | zero => simp [rvs]
    | succ k =>
      rw [show (k + 1) * 2 = k * 2 + 1 + 1 by omega]
      exact ih k
theorem rvs_one (l : List Rf) : ∀ y ∈ rvs l, y.oneCell' = true := by
  intro y hy
  obtain ⟨x, _, hx⟩ := List.mem_flatMap.1 hy
  simp at hx
  rcases hx with rfl | rfl <;> rfl
def rdR (w : World) (v : Value) (l : List Rf) : Prop := rdRow w 2 v l.length (rvs l)
theorem rdR.below {w w' : World} {v : Value} {l : List Rf} (h : rdR w v l) (hb : Below w.heap.size w w') : rdR w' v l := rdRow.below h hb
theorem rdR_nil (w : World) : rdR w (.slice none 0 0) [] := ⟨rfl, none, 0, rfl, Nat.le_refl _, by decide, fun _ => rfl, fun _ h => by cases h⟩
theorem rdR_len {w : World} {v : Value} {l : List Rf} (hr : rdR w v l) : l.length ≤ 9223372036854775807 := by
  obtain ⟨_, ao, cap, rfl, h1, h2, _⟩ := hr
  unfold maxLen at h2; omega
theorem rdR_owns {w : World} {B : Nat} {v : Value} {l : List Rf} (h : w.ownsRow B 143 2 v l.length (rvs l)) : rdR w v l := rdRow_of_owns h
theorem rvs_get (l : List Rf) (k : Nat) (h : k < l.length) : (rvs l)[k * 2]? = some (.string (l.getD k zeroRf).name) ∧ (rvs l)[k * 2 + 1]? = some (.string (l.getD k zeroRf).id) := by
  induction l generalizing k with
  | nil => cases h
  | cons x l ih =>
    cases k with
    | zero => exact ⟨rfl, rfl⟩
    | succ k =>
      have := ih k (by simpa using h)
      rw [show (k + 1) * 2 = k * 2 + 2 by omega]
      exact this
theorem rdR_at {w : World} {ao : Option Addr} {n cap : Nat} {l : List Rf} (hr : rdRow w 2 (.slice ao n cap) l.length (rvs l)) (h : 0 < l.length) :
    ∃ b off, ao = some ⟨b, off, none⟩ ∧ b < w.heap.size ∧ ∀ k, k < l.length → w.cell? ⟨b, off + k * 2, none⟩ = some (.string (l.getD k zeroRf).name) ∧ w.cell? ⟨b, off + k * 2 + 1, none⟩ = some (.string (l.getD k zeroRf).id) := by
  obtain ⟨b, off, cap', hv, hc0, hb⟩ := rd_cell hr 0 _ (by have := (rvs_get l 0 h).1; simpa using this)
  injection hv with h1 h2 h3
  subst h1
  refine ⟨b, off, rfl, hb, fun k hk => ?_⟩
  obtain ⟨_, ao2, cap2, hv2, _, _, _, hc⟩ := hr
  injection hv2 with g1 g2 g3
  subst g1
  obtain ⟨e0, e1⟩ := rvs_get l k hk
  have c0 := hc _ rfl _ _ e0
  have c1 := hc _ rfl _ _ e1
  rw [add_none rfl] at c0 c1
  exact ⟨c0, by rw [Nat.add_assoc]; exact c1⟩

/-! Good. -/
def rfOk (l : List Rf) (k : Nat) : Bool := namedR (l.getD k zeroRf).name && (decide ((l.getD k zeroRf).id.size = 32) && (decide (k = 0) || Op.bytesLess (l.getD (k - 1) zeroRf).name.toList (l.getD k zeroRf).name.toList))
open Classical in
noncomputable def goodRB (l : List Rf) : Bool := decide (GoodR namedR l)
theorem rsrt_of_adj : ∀ l : List Rf, (∀ k, 0 < k → k < l.length → lt (l.getD (k - 1) zeroRf).name (l.getD k zeroRf).name) → RSrt l
  | [], _ => List.Pairwise.nil
  | x :: l, h => by
    have ih := rsrt_of_adj l (fun k hk hl => by
      have := h (k + 1) (by omega) (by simpa using hl)
      obtain ⟨j, rfl⟩ : ∃ j, k = j + 1 := ⟨k - 1, by omega⟩
      simpa using this)
    refine List.pairwise_cons.2 ⟨fun y hy => ?_, ih⟩
    cases l with
    | nil => cases hy
    | cons z l =>
      have h1 : lt x.name z.name := by simpa using h 1 (by omega) (by simp)
      rcases List.mem_cons.1 hy with rfl | hy
      · exact h1
      · exact lt_trans h1 ((List.pairwise_cons.1 ih).1 y hy)
theorem radj_of_srt {l : List Rf} (h : RSrt l) {k : Nat} (hk : 0 < k) (hl : k < l.length) : lt (l.getD (k - 1) zeroRf).name (l.getD k zeroRf).name := by
  have := List.pairwise_iff_getElem.1 h (k - 1) k (by omega) hl (by omega)
  rw [List.getD, List.getD, List.getElem?_eq_getElem hl, List.getElem?_eq_getElem (show k - 1 < l.length by omega)]
  exact this
theorem goodRB_false {l : List Rf} (h : ¬ GoodR namedR l) : goodRB l = false := by
  classical
  unfold goodRB
  exact decide_eq_false h
theorem goodRB_true {l : List Rf} (h : GoodR namedR l) : goodRB l = true := by
  classical
  unfold goodRB
  exact decide_eq_true h
theorem goodRB_bad {l : List Rf} {k : Nat} (hk : k < l.length) (h : rfOk l k = false) : goodRB l = false := by
  refine goodRB_false fun g => ?_
  have hm : l.getD k zeroRf ∈ l := by rw [List.getD, List.getElem?_eq_getElem hk]; exact List.getElem_mem hk
  have h1 := g.name _ hm
  have h2 := g.size _ hm
  unfold rfOk at h
  rw [h1, decide_eq_true h2] at h
  rcases Nat.eq_zero_or_pos k with rfl | hp
  · simp at h
  · have := radj_of_srt g.srt hp hk
    unfold lt at this
    rw [this] at h
    simp at h
theorem goodRB_all {l : List Rf} (h : ∀ j, j < l.length → rfOk l j = true) : goodRB l = decide (l.length ≤ 32) := by
  by_cases hl : l.length ≤ 32
  · rw [decide_eq_true hl]
    refine goodRB_true ?_
    have key : ∀ x ∈ l, namedR x.name = true ∧ x.id.size = 32 := fun x hx => by
      obtain ⟨j, hj, rfl⟩ := List.mem_iff_getElem.1 hx
      have := h j hj
      unfold rfOk at this
      rw [List.getD, List.getElem?_eq_getElem hj] at this
      simp only [Option.getD_some, Bool.and_eq_true, decide_eq_true_eq] at this
      exact ⟨this.1, this.2.1⟩
    refine ⟨hl, rsrt_of_adj l (fun k hk hlt => ?_), fun x hx => (key x hx).1, fun x hx => (key x hx).2⟩
    have := h k hlt
    unfold rfOk at this
    simp only [Bool.and_eq_true, Bool.or_eq_true, decide_eq_true_eq] at this
    exact this.2.2.resolve_left (by omega)
  · rw [decide_eq_false hl]
    exact goodRB_false fun g => hl g.len
theorem goodRB_iff {l : List Rf} : goodRB l = true ↔ GoodR namedR l := ⟨fun h => Classical.byContradiction fun k => Bool.noConfusion ((goodRB_false k).symm.trans h), goodRB_true⟩
end Go.Proofs.YtmacceamebdelaaDoor
/-! Refs2 -/
namespace Go.Proofs.YtmacceamebdelaaDoor
open Go.RowKit
set_option linter.unusedVariables false
set_option linter.unusedSimpArgs false

theorem getD_memR {l : List Rf} {k : Nat} (h : k < l.length) : l.getD k zeroRf ∈ l := by rw [List.getD, List.getElem?_eq_getElem h]; exact List.getElem_mem h
theorem rsrt_lt {l : List Rf} (h : RSrt l) {i j : Nat} (hi : i < j) (hj : j < l.length) : lt (l.getD i zeroRf).name (l.getD j zeroRf).name := by
  have := List.pairwise_iff_getElem.1 h i j (by omega) hj hi
  rw [List.getD, List.getD, List.getElem?_eq_getElem hj, List.getElem?_eq_getElem (show i < l.length by omega)]
  exact this
theorem ridx_bound {l : List Rf} {n : ByteArray} (hs : RSrt l) {i : Nat} (hi : i ≤ l.length) (h1 : ∀ t, t < i → lt (l.getD t zeroRf).name n) (h2 : i < l.length → ¬ lt (l.getD i zeroRf).name n) : ridx n l = i := by
  have e : l = l.take i ++ l.drop i := (List.take_append_drop i l).symm
  have hk : idxL Rf.name n (l.take i ++ l.drop i) = (l.take i).length := by
    refine idx_parted Rf.name (fun x hx => ?_) (fun x hx => ?_)
    · obtain ⟨j, hj, rfl⟩ := List.mem_iff_getElem.1 hx
      rw [List.length_take] at hj
      have := h1 j (by omega)
      rw [List.getD, List.getElem?_eq_getElem (show j < l.length by omega)] at this
      simpa using this
    · rw [List.head?_drop] at hx
      have hl := (List.getElem?_eq_some_iff.1 hx).1
      have := h2 hl
      rw [List.getD, hx] at this
      exact this
  rw [List.length_take, ← e] at hk
  show idxL Rf.name n l = i
  omega
theorem rhas_bound {l : List Rf} {n : ByteArray} (hs : RSrt l) {i : Nat} (hi : ridx n l = i) : (rget n l).isSome = decide (i < l.length ∧ (l.getD i zeroRf).name = n) := by
  cases hg : rget n l with
  | none =>
    symm
    rw [Option.isSome_none, decide_eq_false_iff_not]
    rintro ⟨h1, h2⟩
    exact getL_none Rf.name hg _ (getD_memR h1) h2
  | some f =>
    symm
    rw [Option.isSome_some, decide_eq_true_eq]
    have h := at_some Rf.name hs hg
    have hi' : idxL Rf.name n l = i := hi
    rw [hi'] at h
    refine ⟨h.1, ?_⟩
    rw [List.getD, h.2.1]
    exact (getL_some Rf.name hg).2
end Go.Proofs.YtmacceamebdelaaDoor
/-! Refs3 -/
namespace Go.Proofs.YtmacceamebdelaaDoor
open Go.RowKit
set_option linter.unusedVariables false
set_option linter.unusedSimpArgs false

theorem rf_info : infoIs Tryd.prog 143 (Value.agg #[.string ⟨#[]⟩, .string ⟨#[]⟩]) 2 32 := by unfold infoIs; kernel_rfl
theorem rf_size : (Tryd.prog.info? 143).map (·.size) = some 2 := by kernel_rfl
theorem rf_zero : ∀ w, (zeroValue 143).run Tryd.prog w = .ok ((Value.agg #[.string ⟨#[]⟩, .string ⟨#[]⟩])) w := Tryd.zeroValue143
theorem rf_zone : ∀ u ∈ ((Value.agg #[.string ⟨#[]⟩, .string ⟨#[]⟩]) : Value).cells.toList, u.oneCell' = true := by decide
end Go.Proofs.YtmacceamebdelaaDoor
/-! Own -/
namespace Go.Proofs.YtmacceamebdelaaDoor
open Go.RowKit
set_option linter.unusedVariables false
set_option linter.unusedSimpArgs false

theorem set_parts {α : Type} : ∀ (l : List α) (k : Nat) (g : α), k < l.length → l.set k g = l.take k ++ g :: l.drop (k + 1)
  | [], k, g, h => by simp at h
  | x :: l, 0, g, _ => rfl
  | x :: l, k + 1, g, h => by
    have := set_parts l k g (by simpa using h)
    simp [this]
theorem own_set {w : World} {base : Nat} {e : TypeId} {size g n cap : Nat} {xs : List Value} (h : w.ownsRow base e size (.slice (some ⟨g, 0, none⟩) n cap) n xs) (i : Nat) (u : Value) : (w.setCell ⟨g, i, none⟩ u).ownsRow base e size (.slice (some ⟨g, 0, none⟩) n cap) n (xs.set i u) := by
  obtain ⟨h1, ⟨h2, _⟩ | ⟨g', cap', cur, hv, hbg, hg, hn, hm, hs, ht⟩⟩ := h
  · cases h2
  · simp only [Value.slice.injEq, Option.some.injEq, Addr.mk.injEq, and_true, true_and] at hv
    obtain ⟨rfl, rfl⟩ := hv
    have hset := setCell_eq_setRow w g i cur e (0, 0) u hg
    have hh := setRow_heap w g cur (cur.setIfInBounds i u) e (0, 0) hg
    rw [← hset] at hh
    refine ⟨by simpa using h1, .inr ⟨g, cap, _, rfl, hbg, hh, hn, hm, by simpa using hs, ?_⟩⟩
    rw [Array.toList_setIfInBounds, List.take_set, ht]
theorem own_form {w : World} {base : Nat} {e : TypeId} {size : Nat} {v : Value} {n : Nat} {xs : List Value} (h : w.ownsRow base e size v n xs) (hn : 0 < n) : ∃ g cap, v = .slice (some ⟨g, 0, none⟩) n cap ∧ n ≤ cap := by
  obtain ⟨h1, ⟨_, h2⟩ | ⟨g, cap, cur, hv, hbg, hg, hnc, hm, hs, ht⟩⟩ := h
  · omega
  · exact ⟨g, cap, hv, hnc⟩
end Go.Proofs.YtmacceamebdelaaDoor
/-! Refs4 -/
namespace Go.Proofs.YtmacceamebdelaaDoor
open Go.RowKit
set_option linter.unusedVariables false
set_option linter.unusedSimpArgs false

theorem rvs_set {l : List Rf} {k : Nat} {f : Rf} (hk : l[k]? = some f) (g : Rf) (hn : g.name = f.name) : (rvs l).set (k * 2 + 1) (.string g.id) = rvs (l.take k ++ g :: l.drop (k + 1)) := by
  rw [← set_parts l k g (List.getElem?_eq_some_iff.1 hk).1]
  induction l generalizing k with
  | nil => simp at hk
  | cons x l ih =>
    cases k with
    | zero =>
      have : x = f := by simpa using hk
      subst this
      show Value.string x.name :: Value.string g.id :: rvs l = Value.string g.name :: Value.string g.id :: rvs l
      rw [hn]
    | succ k =>
      have := ih (k := k) (by simpa using hk)
      rw [show (k + 1) * 2 + 1 = k * 2 + 1 + 1 + 1 by omega]
      show Value.string x.name :: Value.string x.id :: ((rvs l).set (k * 2 + 1) _) = _
      rw [this]
      rfl
theorem own_cellsR {w : World} {base : Nat} {l : List Rf} {g cap k : Nat} {f : Rf} (h : w.ownsRow base 143 2 (.slice (some ⟨g, 0, none⟩) l.length cap) l.length (rvs l)) (hk : l[k]? = some f) :
    w.cell? ⟨g, k * 2, none⟩ = some (.string f.name) ∧ w.cell? ⟨g, k * 2 + 1, none⟩ = some (.string f.id) ∧ (∀ i, w.frozen? ⟨g, i, none⟩ = false) := by
  have hl := (List.getElem?_eq_some_iff.1 hk).1
  have hc := rvs_get l k hl
  rw [List.getD, hk] at hc
  obtain ⟨h1, ⟨h2, _⟩ | ⟨g', cap', cur, hv, hbg, hg, hn, hm, hs, ht⟩⟩ := h
  · cases h2
  · simp only [Value.slice.injEq, Option.some.injEq, Addr.mk.injEq, and_true, true_and] at hv
    obtain ⟨rfl, rfl⟩ := hv
    exact ⟨cells_of_row hg ht _ _ hc.1, cells_of_row hg ht _ _ hc.2, fun i => by simp [World.frozen?, hg]⟩
theorem two_oneR (a b : ByteArray) : ∀ u ∈ (#[.string a, .string b] : Array Value).toList, u.oneCell' = true := by
  intro u hu
  simp at hu
  rcases hu with rfl | rfl <;> rfl
/-- What Set answers. -/
def RetR (w : World) (r : List Rf × Int) (e : Ending) (w' : World) : Prop := ∃ v', e = .returned (.tuple #[v', .int .i64 r.2]) ∧ rdR w' v' r.1 ∧ Below w.heap.size w w'
theorem setR_1 {l : List Rf} {name old id : ByteArray} (h : ¬ GoodR namedR l) : setR namedR l name old id = ([], 3) := by unfold setR; rw [if_pos h]
theorem setR_2 {l : List Rf} {name old id : ByteArray} (h : GoodR namedR l) (h2 : formR namedR name old id = false) : setR namedR l name old id = ([], 2) := by unfold setR; rw [if_neg (fun k => k h), if_pos h2]
theorem setR_3 {l : List Rf} {name old id : ByteArray} (h : GoodR namedR l) (h2 : formR namedR name old id = true) (h3 : getR l name ≠ old) : setR namedR l name old id = ([], 9) := by unfold setR; rw [if_neg (fun k => k h), if_neg (by rw [h2]; decide), if_pos h3]
theorem setO_1 {l : List Rf} {name id : ByteArray} {f : Rf} (h : rget name l = some f) (h2 : id = nilB) : setO l name id = (rdel name l, 0) := by unfold setO; rw [h]; simp only; rw [if_pos h2]
theorem setO_2 {l : List Rf} {name id : ByteArray} {f : Rf} (h : rget name l = some f) (h2 : id ≠ nilB) : setO l name id = (rput ⟨name, id⟩ l, 0) := by unfold setO; rw [h]; simp only; rw [if_neg h2]
theorem setO_3 {l : List Rf} {name id : ByteArray} (h : rget name l = none) (h2 : id = nilB) : setO l name id = (l, 0) := by unfold setO; rw [h]; simp only; rw [if_pos h2]
theorem setO_4 {l : List Rf} {name id : ByteArray} (h : rget name l = none) (h2 : id ≠ nilB) (h3 : 32 ≤ l.length) : setO l name id = ([], 6) := by unfold setO; rw [h]; simp only; rw [if_neg h2, if_pos h3]
theorem setO_5 {l : List Rf} {name id : ByteArray} (h : rget name l = none) (h2 : id ≠ nilB) (h3 : ¬ 32 ≤ l.length) : setO l name id = (rput ⟨name, id⟩ l, 0) := by unfold setO; rw [h]; simp only; rw [if_neg h2, if_neg h3]
end Go.Proofs.YtmacceamebdelaaDoor
