/- Package store in plain Lean: Get, Put, and what StoreBack says. -/
import Derived.Test.YtmacceamebdelaaDoorAtomicLaw
import Derived.Test.YtmacceamebdelaaDoorSha
import Derived.Test.YtmacceamebdelaaDoorObjCells
namespace Go.Proofs.YtmacceamebdelaaDoor
set_option linter.unusedVariables false
set_option linter.unusedSimpArgs false

def fileF (id : ByteArray) : ByteArray := ⟨#[111]⟩ ++ hexF id
noncomputable def getF (d : Dsk) (id : ByteArray) : ByteArray × Int :=
  if id.size ≠ 32 then (nilB, 2) else if (readD namedD d (fileF id)).2 ≠ 0 then (nilB, (readD namedD d (fileF id)).2) else if sumF (readD namedD d (fileF id)).1 ≠ id then (nilB, 5) else ((readD namedD d (fileF id)).1, 0)
noncomputable def putF (d : Dsk) (s : ByteArray) : Dsk × ByteArray × Int :=
  if (decodeF s).2 ≠ 0 then (d, nilB, (decodeF s).2) else if (getF d (sumF s)).2 = 0 then (d, sumF s, 0) else
  if (saveD namedD d (fileF (sumF s)) s).2 ≠ 0 then ((saveD namedD d (fileF (sumF s)) s).1, nilB, (saveD namedD d (fileF (sumF s)) s).2) else ((saveD namedD d (fileF (sumF s)) s).1, sumF s, 0)
variable {d : Dsk} {id s : ByteArray}
theorem getF_1 (h : id.size ≠ 32) : getF d id = (nilB, 2) := by unfold getF; rw [if_pos h]
theorem getF_2 {e : Int} {x : ByteArray} (h : ¬ id.size ≠ 32) (h2 : readD namedD d (fileF id) = (x, e)) (he : e ≠ 0) : getF d id = (nilB, e) := by unfold getF; rw [if_neg h, h2, if_pos he]
theorem getF_3 {x : ByteArray} (h : ¬ id.size ≠ 32) (h2 : readD namedD d (fileF id) = (x, 0)) (h3 : sumF x ≠ id) : getF d id = (nilB, 5) := by unfold getF; rw [if_neg h, h2, if_neg (by simp), if_pos h3]
theorem getF_4 {x : ByteArray} (h : ¬ id.size ≠ 32) (h2 : readD namedD d (fileF id) = (x, 0)) (h3 : sumF x = id) : getF d id = (x, 0) := by unfold getF; rw [if_neg h, h2, if_neg (by simp), if_neg (fun k => k h3)]
theorem putF_1 {e : Int} (h : (decodeF s).2 = e) (he : e ≠ 0) : putF d s = (d, nilB, e) := by unfold putF; rw [h, if_pos he]
theorem putF_2 (h : (decodeF s).2 = 0) (h2 : (getF d (sumF s)).2 = 0) : putF d s = (d, sumF s, 0) := by unfold putF; rw [h, if_neg (fun k => k rfl), if_pos h2]
theorem putF_3 {q : Dsk} {e : Int} (h : (decodeF s).2 = 0) (h2 : (getF d (sumF s)).2 ≠ 0) (h3 : saveD namedD d (fileF (sumF s)) s = (q, e)) (he : e ≠ 0) : putF d s = (q, nilB, e) := by unfold putF; rw [h, if_neg (fun k => k rfl), if_neg h2, h3, if_pos he]
theorem putF_4 {q : Dsk} (h : (decodeF s).2 = 0) (h2 : (getF d (sumF s)).2 ≠ 0) (h3 : saveD namedD d (fileF (sumF s)) s = (q, 0)) : putF d s = (q, sumF s, 0) := by unfold putF; rw [h, if_neg (fun k => k rfl), if_neg h2, h3, if_neg (by simp)]
theorem get_sum {x : ByteArray} (h : getF d id = (x, 0)) : sumF x = id ∧ id.size = 32 ∧ readD namedD d (fileF id) = (x, 0) := by
  by_cases h1 : id.size ≠ 32
  · rw [getF_1 h1] at h; injection h with _ h; cases h
  · obtain ⟨⟨y, e⟩, hq⟩ : ∃ q, q = readD namedD d (fileF id) := ⟨_, rfl⟩
    by_cases he : e = 0
    · subst he
      by_cases h3 : sumF y = id
      · rw [getF_4 h1 hq.symm h3] at h
        injection h with h _
        subst h
        exact ⟨h3, by simpa using h1, hq.symm⟩
      · rw [getF_3 h1 hq.symm h3] at h; injection h with _ h; cases h
    · rw [getF_2 h1 hq.symm he] at h; injection h with _ h; exact absurd h he
theorem get_bad (h : (getF d id).2 ≠ 0) : (getF d id).1 = nilB := by
  by_cases h1 : id.size ≠ 32
  · rw [getF_1 h1]
  · obtain ⟨⟨y, e⟩, hq⟩ : ∃ q, q = readD namedD d (fileF id) := ⟨_, rfl⟩
    by_cases he : e = 0
    · subst he
      by_cases h3 : sumF y = id
      · rw [getF_4 h1 hq.symm h3] at h; exact absurd rfl h
      · rw [getF_3 h1 hq.symm h3]
    · rw [getF_2 h1 hq.symm he]
theorem read_good {x : ByteArray} {n : ByteArray} (h : readD namedD d n = (x, 0)) : GoodL namedD d.files ∧ ∃ f, fget n d.files = some f ∧ x = f.safe ++ f.tail := by
  by_cases hg : GoodL namedD d.files
  · cases hf : fget n d.files with
    | none => rw [readD_2 hg hf] at h; injection h with _ h; cases h
    | some f => rw [readD_3 hg hf] at h; injection h with h _; exact ⟨hg, f, rfl, h.symm⟩
  · rw [readD_1 hg] at h; injection h with _ h; cases h
theorem save_good {n : ByteArray} {q : Dsk} (h : saveD namedD d n s = (q, 0)) : GoodL namedD d.files ∧ GoodL namedD q.files ∧ fget n q.files = some ⟨n, s, nilB⟩ := by
  have hg : GoodL namedD d.files := Classical.byContradiction fun hg => by rw [save_1 hg] at h; injection h with _ h; cases h
  have h1 := save_inv (name := n) (s := s) hg
  rw [h] at h1
  have h2 := save_done (d := d) (name := n) (s := s) (by rw [h])
  rw [h] at h2
  exact ⟨hg, h1, h2⟩
theorem putF_bad (h : (putF d s).2.2 ≠ 0) : (putF d s).2.1 = nilB := by
  unfold putF at h ⊢
  split
  · rfl
  · next h1 =>
    rw [if_neg h1] at h
    split
    · next h2 => rw [if_pos h2] at h; exact absurd rfl h
    · next h2 =>
      rw [if_neg h2] at h
      split
      · rfl
      · next h3 => rw [if_neg h3] at h; exact absurd rfl h
/-- What a Put that goes well leaves. -/
theorem putF_ok {a : Dsk} {i : ByteArray} (h : putF d s = (a, i, 0)) : i = sumF s ∧ (decodeF s).2 = 0 ∧ GoodL namedD a.files ∧ (((getF d i).2 = 0 ∧ a = d) ∨ ((getF d i).2 ≠ 0 ∧ fget (fileF i) a.files = some ⟨fileF i, s, nilB⟩ ∧ GoodL namedD d.files ∧ saveD namedD d (fileF i) s = (a, 0))) := by
  by_cases h1 : (decodeF s).2 = 0
  · by_cases h2 : (getF d (sumF s)).2 = 0
    · rw [putF_2 h1 h2] at h
      injection h with ha h; injection h with hi _
      subst ha hi
      obtain ⟨x, hx⟩ : ∃ x, getF d (sumF s) = (x, 0) := ⟨(getF d (sumF s)).1, Prod.ext rfl h2⟩
      exact ⟨rfl, h1, (read_good (get_sum hx).2.2).1, .inl ⟨h2, rfl⟩⟩
    · obtain ⟨⟨q, e⟩, hq⟩ : ∃ q, q = saveD namedD d (fileF (sumF s)) s := ⟨_, rfl⟩
      by_cases he : e = 0
      · subst he
        rw [putF_4 h1 h2 hq.symm] at h
        injection h with ha h; injection h with hi _
        subst ha hi
        obtain ⟨g1, g2, g3⟩ := save_good hq.symm
        exact ⟨rfl, h1, g2, .inr ⟨h2, g3, g1, hq.symm⟩⟩
      · rw [putF_3 h1 h2 hq.symm he] at h
        injection h with _ h; injection h with _ h; exact absurd h he
  · rw [putF_1 rfl h1] at h
    injection h with _ h; injection h with _ h; exact absurd h h1
theorem get_of_file {x : Fil} (hg : GoodL namedD d.files) (hf : fget (fileF id) d.files = some x) (h32 : id.size = 32) (hs : sumF (x.safe ++ x.tail) = id) : getF d id = (x.safe ++ x.tail, 0) :=
  getF_4 (by simpa using h32) (readD_3 hg hf) hs
/-- StoreBack. -/
theorem back_law {a : Dsk} {i : ByteArray} (k : Nat) (h : putF d s = (a, i, 0)) :
    i = sumF s ∧ putF a s = (a, i, 0) ∧ GoodL namedD a.files ∧ (getF a i).2 = 0 ∧ sumF (getF a i).1 = sumF s ∧
    ((getF a i).1 ≠ s → (getF d i).2 = 0) ∧ ((getF a i).1 = s → (getF d i).2 = 0 ∨ getF ⟨a.files.map (crashFil k), -1⟩ i = (s, 0)) := by
  obtain ⟨hi, hd, hg, hc⟩ := putF_ok h
  rcases hc with ⟨h2, rfl⟩ | ⟨h2, hf, hgd, hsv⟩
  · obtain ⟨x, hx⟩ : ∃ x, getF a i = (x, 0) := ⟨(getF a i).1, Prod.ext rfl h2⟩
    refine ⟨hi, h, hg, h2, ?_, fun _ => h2, fun _ => .inl h2⟩
    rw [hx, (get_sum hx).1, hi]
  · have h32 : i.size = 32 := by rw [hi]; exact sumF_size s
    have hx := get_of_file hg hf h32 (by show sumF (s ++ nilB) = i; rw [app_nil, hi])
    have hx' : getF a i = (s, 0) := by rw [hx]; show (s ++ nilB, (0 : Int)) = _; rw [app_nil]
    refine ⟨hi, ?_, hg, by rw [hx'], by rw [hx'], fun c => by rw [hx'] at c; exact absurd rfl c, fun _ => .inr ?_⟩
    · rw [putF_2 hd (by rw [← hi, hx']), hi]
    · have hr := read_crash (f := -1) (g := a.fuse) k hg (n := fileF i) (fun x h => by rw [hf] at h; injection h with h; rw [← h])
      have hra : readD namedD a (fileF i) = (s, 0) := by rw [readD_3 hg hf]; show (s ++ nilB, (0 : Int)) = _; rw [app_nil]
      exact getF_4 (by simpa using h32) (hr.trans hra) hi.symm
end Go.Proofs.YtmacceamebdelaaDoor
