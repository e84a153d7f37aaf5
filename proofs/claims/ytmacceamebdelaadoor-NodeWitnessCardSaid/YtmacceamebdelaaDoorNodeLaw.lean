/- Package node in plain Lean: what a witness does, and what StoreLaw's files say of it. -/
import Derived.Test.YtmacceamebdelaaDoorHdB
import Derived.Test.YtmacceamebdelaaDoorMer
import Derived.Test.YtmacceamebdelaaDoorAtomicLaw
import Derived.Test.YtmacceamebdelaaDoorSha
namespace Go.Proofs.YtmacceamebdelaaDoor
set_option linter.unusedVariables false
set_option linter.unusedSimpArgs false

/-- A head: size, root. -/
abbrev Hed := Int × ByteArray
def seenN : ByteArray := ⟨#[115, 101, 101, 110]⟩
def trustN : ByteArray := ⟨#[116, 114, 117, 115, 116]⟩
def emptyH : Hed := (0, rootF [])
def folF (old h : Hed) (ps : List ByteArray) : Int := if h.1 < old.1 then 15 else if h.1 = old.1 ∧ h.2 = old.2 then 0 else if extF old.2 old.1 h.2 h.1 ps = true then 0 else 16
/-- A witness. -/
structure Wit where
  who : Int
  key : ByteArray
  disk : Dsk
  seen : Hed
def sumB (b : ByteArray) : ByteArray := b ++ sumF b
noncomputable def markW (x : Wit) (h : Hed) (ps : List ByteArray) : Wit × Hed × Int :=
  if (textF h.1 h.2).2 ≠ 0 then (x, (0, noB), (textF h.1 h.2).2) else
  if folF x.seen h ps ≠ 0 then (x, (0, noB), folF x.seen h ps) else
  if (markF sealF x.who x.key h.1 h.2).2 ≠ 0 then (x, (0, noB), (markF sealF x.who x.key h.1 h.2).2) else
  if (saveD namedD x.disk seenN (sumB (textF h.1 h.2).1)).2 ≠ 0 then (⟨x.who, x.key, (saveD namedD x.disk seenN (sumB (textF h.1 h.2).1)).1, x.seen⟩, (0, noB), (saveD namedD x.disk seenN (sumB (textF h.1 h.2).1)).2)
  else (⟨x.who, x.key, (saveD namedD x.disk seenN (sumB (textF h.1 h.2).1)).1, h⟩, (markF sealF x.who x.key h.1 h.2).1, 0)
section
variable {x : Wit} {h : Hed} {ps : List ByteArray}
theorem markW_1 (h1 : goodH h.1 h.2 ≠ 0) : markW x h ps = (x, (0, noB), goodH h.1 h.2) := by unfold markW; rw [textF_bad h1, if_pos h1]
theorem markW_2 (h1 : goodH h.1 h.2 = 0) (h2 : folF x.seen h ps ≠ 0) : markW x h ps = (x, (0, noB), folF x.seen h ps) := by unfold markW; rw [textF_ok h1, if_neg (by simp), if_pos h2]
theorem markW_3 (h1 : goodH h.1 h.2 = 0) (h2 : folF x.seen h ps = 0) {m : Hed} {e : Int} (h3 : markF sealF x.who x.key h.1 h.2 = (m, e)) (he : e ≠ 0) : markW x h ps = (x, (0, noB), e) := by
  unfold markW; rw [textF_ok h1, if_neg (by simp), if_neg (by simp [h2]), h3, if_pos he]
theorem markW_4 (h1 : goodH h.1 h.2 = 0) (h2 : folF x.seen h ps = 0) {m : Hed} (h3 : markF sealF x.who x.key h.1 h.2 = (m, 0)) {d : Dsk} {e : Int} (h4 : saveD namedD x.disk seenN (sumB (headB h.1 h.2)) = (d, e)) (he : e ≠ 0) : markW x h ps = (⟨x.who, x.key, d, x.seen⟩, (0, noB), e) := by
  unfold markW; rw [textF_ok h1, if_neg (by simp), if_neg (by simp [h2]), h3, if_neg (by simp)]; simp only; rw [h4, if_pos he]
theorem markW_5 (h1 : goodH h.1 h.2 = 0) (h2 : folF x.seen h ps = 0) {m : Hed} (h3 : markF sealF x.who x.key h.1 h.2 = (m, 0)) {d : Dsk} (h4 : saveD namedD x.disk seenN (sumB (headB h.1 h.2)) = (d, 0)) : markW x h ps = (⟨x.who, x.key, d, h⟩, m, 0) := by
  unfold markW; rw [textF_ok h1, if_neg (by simp), if_neg (by simp [h2]), h3, if_neg (by simp)]; simp only; rw [h4, if_neg (by simp)]
end
/-- A file's bytes without the sum behind them. -/
noncomputable def chkF (d : Dsk) (n : ByteArray) : ByteArray × Int :=
  if (readD namedD d n).2 ≠ 0 then (nilB, (readD namedD d n).2) else
  if (readD namedD d n).1.size < 32 ∨ sumF ((readD namedD d n).1.extract 0 ((readD namedD d n).1.size - 32)) ≠ (readD namedD d n).1.extract ((readD namedD d n).1.size - 32) (readD namedD d n).1.size then (nilB, 5)
  else ((readD namedD d n).1.extract 0 ((readD namedD d n).1.size - 32), 0)
section
variable {d : Dsk} {n s : ByteArray}
theorem chkF_1 {e : Int} (h : readD namedD d n = (s, e)) (he : e ≠ 0) : chkF d n = (nilB, e) := by unfold chkF; rw [h, if_pos he]
theorem chkF_2 (h : readD namedD d n = (s, 0)) (h2 : s.size < 32) : chkF d n = (nilB, 5) := by unfold chkF; rw [h, if_neg (by simp), if_pos (.inl h2)]
theorem chkF_3 (h : readD namedD d n = (s, 0)) (h3 : sumF (s.extract 0 (s.size - 32)) ≠ s.extract (s.size - 32) s.size) : chkF d n = (nilB, 5) := by unfold chkF; rw [h, if_neg (by simp), if_pos (.inr h3)]
theorem chkF_4 (h : readD namedD d n = (s, 0)) (h2 : ¬ s.size < 32) (h3 : sumF (s.extract 0 (s.size - 32)) = s.extract (s.size - 32) s.size) : chkF d n = (s.extract 0 (s.size - 32), 0) := by
  unfold chkF; rw [h, if_neg (by simp), if_neg (fun k => k.elim h2 (fun k => k h3))]
theorem sumB_size (b : ByteArray) : (sumB b).size = b.size + 32 := by unfold sumB; rw [ByteArray.size_append, sumF_size]
theorem chk_sumB {b : ByteArray} (h : readD namedD d n = (sumB b, 0)) : chkF d n = (b, 0) := by
  have hz := sumB_size b
  have e1 : (sumB b).extract 0 ((sumB b).size - 32) = b := by
    rw [hz, show b.size + 32 - 32 = b.size by omega]
    apply ByteArray.ext
    simp [sumB]
  have e2 : (sumB b).extract ((sumB b).size - 32) (sumB b).size = sumF b := by
    rw [hz, show b.size + 32 - 32 = b.size by omega]
    have h32 := sumF_size b
    apply ByteArray.ext
    apply Array.ext'
    have h33 : (sumF b).data.toList.length = 32 := h32
    simp only [sumB, ByteArray.data_extract, ByteArray.data_append, Array.toList_extract, Array.toList_append, List.extract_eq_take_drop]
    rw [show b.size = b.data.toList.length from rfl, List.drop_left, show b.data.toList.length + 32 - b.data.toList.length = (sumF b).data.toList.length by omega, List.take_length]
  rw [chkF_4 h (by omega) (by rw [e1, e2]), e1]
end
noncomputable def wakeW (x : Wit) (keep : Int) : Wit × Int :=
  if (crashD namedD x.disk keep).2 ≠ 0 then (x, (crashD namedD x.disk keep).2) else
  if (chkF (crashD namedD x.disk keep).1 seenN).2 = 0 then
    (if (hreadF (chkF (crashD namedD x.disk keep).1 seenN).1).2 ≠ 0 ∧ (hreadF (chkF (crashD namedD x.disk keep).1 seenN).1).2 ≠ 7 then (x, (hreadF (chkF (crashD namedD x.disk keep).1 seenN).1).2)
      else (⟨x.who, x.key, (crashD namedD x.disk keep).1, (hreadF (chkF (crashD namedD x.disk keep).1 seenN).1).1⟩, 0)) else
  if (chkF (crashD namedD x.disk keep).1 seenN).2 = 7 then (⟨x.who, x.key, (crashD namedD x.disk keep).1, emptyH⟩, 0) else (x, (chkF (crashD namedD x.disk keep).1 seenN).2)
section
variable {x : Wit} {keep : Int} {d : Dsk}
theorem wakeW_1 {e : Int} (h : crashD namedD x.disk keep = (d, e)) (he : e ≠ 0) : wakeW x keep = (x, e) := by unfold wakeW; rw [h, if_pos he]
theorem wakeW_2 (h : crashD namedD x.disk keep = (d, 0)) {b : ByteArray} (h2 : chkF d seenN = (b, 0)) {g : Hed} {e : Int} (h3 : hreadF b = (g, e)) (he : e ≠ 0) (h7 : e ≠ 7) : wakeW x keep = (x, e) := by
  unfold wakeW; rw [h, if_neg (by simp), h2, if_pos rfl, h3, if_pos ⟨he, h7⟩]
theorem wakeW_3 (h : crashD namedD x.disk keep = (d, 0)) {b : ByteArray} (h2 : chkF d seenN = (b, 0)) {g : Hed} {e : Int} (h3 : hreadF b = (g, e)) (he : e = 0 ∨ e = 7) : wakeW x keep = (⟨x.who, x.key, d, g⟩, 0) := by
  unfold wakeW; rw [h, if_neg (by simp), h2, if_pos rfl, h3, if_neg (fun k => he.elim k.1 k.2)]
theorem wakeW_4 (h : crashD namedD x.disk keep = (d, 0)) {b : ByteArray} (h2 : chkF d seenN = (b, 7)) : wakeW x keep = (⟨x.who, x.key, d, emptyH⟩, 0) := by
  unfold wakeW; rw [h, if_neg (by simp), h2, if_neg (by simp), if_pos rfl]
theorem wakeW_5 (h : crashD namedD x.disk keep = (d, 0)) {b : ByteArray} {e : Int} (h2 : chkF d seenN = (b, e)) (he : e ≠ 0) (h7 : e ≠ 7) : wakeW x keep = (x, e) := by
  unfold wakeW; rw [h, if_neg (by simp), h2, if_neg he, if_neg h7]
end
/-- What a witness's disk holds of what it has seen. -/
structure WitOk (x : Wit) : Prop where
  good : GoodL namedD x.disk.files
  kept : (fget seenN x.disk.files = none ∧ x.seen = emptyH) ∨ (∃ f, fget seenN x.disk.files = some f ∧ f.safe = sumB (headB x.seen.1 x.seen.2) ∧ f.tail = nilB ∧ goodH x.seen.1 x.seen.2 = 0)
theorem mark_ok {x : Wit} (h : WitOk x) (g : Hed) (ps : List ByteArray) : WitOk (markW x g ps).1 ∧ (markW x g ps).1.who = x.who ∧ (markW x g ps).1.key = x.key ∧
    ((markW x g ps).2.2 ≠ 0 → (markW x g ps).1.seen = x.seen ∧ (markW x g ps).2.1 = (0, noB)) ∧
    ((markW x g ps).2.2 = 0 → (markW x g ps).1.seen = g ∧ goodH g.1 g.2 = 0 ∧ folF x.seen g ps = 0 ∧ markF sealF x.who x.key g.1 g.2 = ((markW x g ps).2.1, 0)) := by
  by_cases h1 : goodH g.1 g.2 = 0
  · by_cases h2 : folF x.seen g ps = 0
    · obtain ⟨⟨m, e⟩, h3⟩ : ∃ q, q = markF sealF x.who x.key g.1 g.2 := ⟨_, rfl⟩
      by_cases he : e = 0
      · subst he
        obtain ⟨⟨d, e⟩, h4⟩ : ∃ q, q = saveD namedD x.disk seenN (sumB (headB g.1 g.2)) := ⟨_, rfl⟩
        have hg : GoodL namedD d.files := by have := save_inv (name := seenN) (s := sumB (headB g.1 g.2)) h.good; rw [← h4] at this; exact this
        by_cases he : e = 0
        · subst he
          rw [markW_5 h1 h2 h3.symm h4.symm]
          have hd := save_done (d := x.disk) (name := seenN) (s := sumB (headB g.1 g.2)) (by rw [← h4])
          rw [← h4] at hd
          exact ⟨⟨hg, .inr ⟨_, hd, rfl, rfl, h1⟩⟩, rfl, rfl, fun k => absurd rfl k, fun _ => ⟨rfl, h1, h2, h3.symm⟩⟩
        · rw [markW_4 h1 h2 h3.symm h4.symm he]
          have hk := save_keep (d := x.disk) (name := seenN) (s := sumB (headB g.1 g.2)) (by rw [← h4]; exact he)
          rw [← h4] at hk
          exact ⟨⟨hg, by have := h.kept; rw [← show fget seenN d.files = fget seenN x.disk.files from hk] at this; exact this⟩, rfl, rfl, fun _ => ⟨rfl, rfl⟩, fun k => absurd k he⟩
      · rw [markW_3 h1 h2 h3.symm he]
        exact ⟨h, rfl, rfl, fun _ => ⟨rfl, rfl⟩, fun k => absurd k he⟩
    · rw [markW_2 h1 h2]
      exact ⟨h, rfl, rfl, fun _ => ⟨rfl, rfl⟩, fun k => absurd k h2⟩
  · rw [markW_1 h1]
    exact ⟨h, rfl, rfl, fun _ => ⟨rfl, rfl⟩, fun k => absurd k h1⟩
theorem wake_ok {x : Wit} (h : WitOk x) {keep : Int} (hk : 0 ≤ keep) : (wakeW x keep).2 = 0 ∧ WitOk (wakeW x keep).1 ∧ (wakeW x keep).1.who = x.who ∧ (wakeW x keep).1.key = x.key ∧ (wakeW x keep).1.seen = x.seen ∧ (wakeW x keep).1.disk.fuse = -1 := by
  have hc : crashD namedD x.disk keep = (⟨x.disk.files.map (crashFil keep.toNat), -1⟩, 0) := by
    unfold crashD; rw [if_neg (fun k => k.elim (fun k => k h.good) (fun k => by omega))]
  obtain ⟨L, hL⟩ : ∃ L, L = x.disk.files.map (crashFil keep.toNat) := ⟨_, rfl⟩
  have hg : GoodL namedD L := by rw [hL]; exact crash_inv _ h.good
  have hf : fget seenN L = (fget seenN x.disk.files).map (crashFil keep.toNat) := by rw [hL]; exact fget_crash _ _ _
  rw [← hL] at hc
  rcases h.kept with ⟨h1, h2⟩ | ⟨f, h1, h2, h3, h4⟩
  · rw [h1] at hf
    have hf : fget seenN L = none := hf
    rw [wakeW_4 hc (b := nilB) (chkF_1 (readD_2 (d := ⟨L, -1⟩) hg hf) (by simp))]
    exact ⟨rfl, ⟨hg, .inl ⟨hf, rfl⟩⟩, rfl, rfl, h2.symm, rfl⟩
  · rw [h1] at hf
    have hf : fget seenN L = some (crashFil keep.toNat f) := hf
    have e1 : (crashFil keep.toNat f).safe = sumB (headB x.seen.1 x.seen.2) := by unfold crashFil; simp only [h3, nil_ext, app_nil]; exact h2
    have hr := readD_3 (d := ⟨L, -1⟩) hg hf
    rw [show (crashFil keep.toNat f).tail = nilB from rfl, app_nil, e1] at hr
    rw [wakeW_3 hc (chk_sumB hr) (read_text h4) (.inl rfl)]
    exact ⟨rfl, ⟨hg, .inr ⟨_, hf, e1, rfl, h4⟩⟩, rfl, rfl, rfl, rfl⟩
end Go.Proofs.YtmacceamebdelaaDoor
