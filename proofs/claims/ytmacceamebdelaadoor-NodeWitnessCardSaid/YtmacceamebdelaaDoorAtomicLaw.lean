/- DiskAtomic in plain Lean: what a Save and a crash leave. -/
import Derived.Test.YtmacceamebdelaaDoorDkB
import Derived.Test.YtmacceamebdelaaDoorDiskMoved
namespace Go.Proofs.YtmacceamebdelaaDoor
set_option linter.unusedVariables false
set_option linter.unusedSimpArgs false

theorem app_nil (a : ByteArray) : a ++ nilB = a := by
  apply ByteArray.ext
  simp [nilB]
theorem nil_ext (i j : Nat) : nilB.extract i j = nilB := by
  apply ByteArray.ext
  simp [nilB]
theorem ext_zero (a : ByteArray) : a.extract 0 0 = nilB := by
  apply ByteArray.ext
  simp [nilB]
theorem fget_crash (n : ByteArray) (k : Nat) (l : List Fil) : fget n (l.map (crashFil k)) = (fget n l).map (crashFil k) := by
  show List.find? _ (l.map (crashFil k)) = _
  rw [List.find?_map]
  rfl
theorem crash_inv {l : List Fil} (k : Nat) (h : GoodL namedD l) : GoodL namedD (l.map (crashFil k)) := by
  refine ⟨by rw [List.length_map]; exact h.len, ?_, fun x hx => ?_, fun x hx => ?_⟩
  · show List.Pairwise _ (l.map (crashFil k))
    rw [List.pairwise_map]
    exact h.srt
  · obtain ⟨y, hy, rfl⟩ := List.mem_map.1 hx
    exact h.name y hy
  · obtain ⟨y, hy, rfl⟩ := List.mem_map.1 hx
    have := h.size y hy
    show (y.safe ++ y.tail.extract 0 (min k y.tail.size)).size + nilB.size ≤ 1048576
    rw [ByteArray.size_append, ByteArray.size_extract, size_nil]
    omega
theorem ne_new (name : ByteArray) : name ≠ name ++ dotNew := fun h => new_ne name h.symm
/-- A Save that fails leaves the file as it was. -/
theorem save_keep {d : Dsk} {name s : ByteArray} (h : (saveD namedD d name s).2 ≠ 0) : fget name (saveD namedD d name s).1.files = fget name d.files := by
  unfold saveD at h ⊢
  split
  · rfl
  · rename_i h1
    rw [if_neg h1] at h
    split
    · rfl
    · rename_i h2
      rw [if_neg h2] at h
      have e1 : fget name (if fget (name ++ dotNew) d.files = none then (d, (0 : Int)) else removeD namedD d (name ++ dotNew)).1.files = fget name d.files := by
        split
        · rfl
        · exact step_other (fun l => remove_other (ne_new name))
      simp only at h ⊢
      generalize (if fget (name ++ dotNew) d.files = none then (d, (0 : Int)) else removeD namedD d (name ++ dotNew)) = r at e1 h ⊢
      have e2 : fget name (writeD namedD r.1 (name ++ dotNew) s).1.files = fget name d.files := (step_other (fun l => write_other (ne_new name))).trans e1
      have e3 : fget name (syncD namedD (writeD namedD r.1 (name ++ dotNew) s).1 (name ++ dotNew)).1.files = fget name d.files := (step_other (fun l => sync_other (ne_new name))).trans e2
      split
      · exact e1
      · rename_i h3
        rw [if_neg h3] at h
        split
        · exact e2
        · rename_i h4
          rw [if_neg h4] at h
          split
          · exact e3
          · rename_i h5
            rw [if_neg h5] at h
            rcases step_cases namedD (syncD namedD (writeD namedD r.1 (name ++ dotNew) s).1 (name ++ dotNew)).1 (renameO namedD (name ++ dotNew) name) with ⟨h6, _⟩ | ⟨_, _, _, h6⟩
            · exact (congrArg (fun q : Dsk => fget name q.files) h6).trans e3
            · exact absurd (congrArg Prod.snd h6) h
theorem step_ok {d : Dsk} {op : List Fil → List Fil × Int} (h : (stepD namedD d op).2 = 0) : GoodL namedD d.files ∧ (op d.files).2 = 0 ∧ (stepD namedD d op).1.files = (op d.files).1 := by
  rcases step_cases namedD d op with ⟨_, h1⟩ | ⟨h1, _, h2, h3⟩
  · exact absurd h h1
  · exact ⟨h1, h2, by rw [h3]⟩
theorem write_ok {l : List Fil} {n s : ByteArray} (h : (writeO namedD n s l).2 = 0) (hn : fget n l = none) : fget n (writeO namedD n s l).1 = some ⟨n, nilB, s⟩ := by
  unfold writeO at h ⊢
  split
  · rename_i h1; rw [if_pos h1] at h; exact absurd h (by simp)
  · rename_i h1
    rw [if_neg h1, hn] at h
    rw [hn]
    simp only at h ⊢
    split
    · rename_i h2; rw [if_pos h2] at h; exact absurd h (by simp)
    · rename_i h2
      rw [if_neg h2] at h
      split
      · rename_i h3; rw [if_pos h3] at h; exact absurd h (by simp)
      · simp [getL_put]
theorem sync_ok {l : List Fil} {n : ByteArray} {f : Fil} (hn : fget n l = some f) : fget n (syncO n l).1 = some ⟨n, f.safe ++ f.tail, nilB⟩ := by
  unfold syncO
  rw [hn]
  simp [getL_put]
theorem rename_ok {l : List Fil} {n m : ByteArray} {f : Fil} (h : (renameO namedD n m l).2 = 0) (hn : fget n l = some f) : fget m (renameO namedD n m l).1 = some ⟨m, f.safe, f.tail⟩ := by
  unfold renameO at h ⊢
  split
  · rename_i h1; rw [if_pos h1] at h; exact absurd h (by simp)
  · rw [hn]
    simp [getL_put]
/-- A Save that goes well: the file has just these bytes, and they are safe. -/
theorem save_done {d : Dsk} {name s : ByteArray} (h : (saveD namedD d name s).2 = 0) : fget name (saveD namedD d name s).1.files = some ⟨name, s, nilB⟩ := by
  unfold saveD at h ⊢
  split
  · rename_i h1; rw [if_pos h1] at h; exact absurd h (by simp)
  · rename_i h1
    rw [if_neg h1] at h
    split
    · rename_i h2; rw [if_pos h2] at h; exact absurd h (by simp)
    · rename_i h2
      rw [if_neg h2] at h
      have e1 : (if fget (name ++ dotNew) d.files = none then (d, (0 : Int)) else removeD namedD d (name ++ dotNew)).2 = 0 → fget (name ++ dotNew) (if fget (name ++ dotNew) d.files = none then (d, (0 : Int)) else removeD namedD d (name ++ dotNew)).1.files = none := by
        split
        · rename_i h3; intro _; exact h3
        · intro h4
          obtain ⟨_, h5, h6⟩ := step_ok (op := removeO (name ++ dotNew)) h4
          rw [show removeD namedD d (name ++ dotNew) = stepD namedD d (removeO (name ++ dotNew)) from rfl, h6]
          cases hg : fget (name ++ dotNew) d.files with
          | none => rw [removeO_1 hg] at h5; exact absurd h5 (by simp)
          | some f => rw [removeO_2 hg]; simp [getL_del]
      simp only at h ⊢
      generalize (if fget (name ++ dotNew) d.files = none then (d, (0 : Int)) else removeD namedD d (name ++ dotNew)) = r at e1 h ⊢
      split
      · rename_i h3; rw [if_pos h3] at h; exact absurd h h3
      · rename_i h3
        rw [if_neg h3] at h
        have e2 := e1 (by simpa using h3)
        split
        · rename_i h4; rw [if_pos h4] at h; exact absurd h h4
        · rename_i h4
          rw [if_neg h4] at h
          split
          · rename_i h5; rw [if_pos h5] at h; exact absurd h h5
          · rename_i h5
            rw [if_neg h5] at h
            obtain ⟨_, w1, w2⟩ := step_ok (op := writeO namedD (name ++ dotNew) s) (d := r.1) (by simpa [writeD] using h4)
            have e3 : fget (name ++ dotNew) (writeD namedD r.1 (name ++ dotNew) s).1.files = some ⟨name ++ dotNew, nilB, s⟩ := by
              rw [show writeD namedD r.1 (name ++ dotNew) s = stepD namedD r.1 (writeO namedD (name ++ dotNew) s) from rfl, w2]
              exact write_ok w1 e2
            obtain ⟨_, s1, s2⟩ := step_ok (op := syncO (name ++ dotNew)) (d := (writeD namedD r.1 (name ++ dotNew) s).1) (by simpa [syncD] using h5)
            have e4 : fget (name ++ dotNew) (syncD namedD (writeD namedD r.1 (name ++ dotNew) s).1 (name ++ dotNew)).1.files = some ⟨name ++ dotNew, s, nilB⟩ := by
              rw [show syncD namedD (writeD namedD r.1 (name ++ dotNew) s).1 (name ++ dotNew) = stepD namedD (writeD namedD r.1 (name ++ dotNew) s).1 (syncO (name ++ dotNew)) from rfl, s2, sync_ok e3, nil_app]
            obtain ⟨_, r1, r2⟩ := step_ok (op := renameO namedD (name ++ dotNew) name) h
            rw [show renameD namedD (syncD namedD (writeD namedD r.1 (name ++ dotNew) s).1 (name ++ dotNew)).1 (name ++ dotNew) name = stepD namedD (syncD namedD (writeD namedD r.1 (name ++ dotNew) s).1 (name ++ dotNew)).1 (renameO namedD (name ++ dotNew) name) from rfl, r2]
            exact rename_ok r1 e4
theorem read_crash {l : List Fil} {f g : Int} {n : ByteArray} (k : Nat) (hg : GoodL namedD l) (ht : ∀ x, fget n l = some x → x.tail = nilB) : readD namedD ⟨l.map (crashFil k), f⟩ n = readD namedD ⟨l, g⟩ n := by
  cases h : fget n l with
  | none => rw [readD_2 (d := ⟨l, g⟩) hg h, readD_2 (d := ⟨l.map (crashFil k), f⟩) (crash_inv k hg) (by show fget n (l.map (crashFil k)) = none; rw [fget_crash, h]; rfl)]
  | some x =>
    rw [readD_3 (d := ⟨l, g⟩) hg h, readD_3 (d := ⟨l.map (crashFil k), f⟩) (f := crashFil k x) (crash_inv k hg) (by show fget n (l.map (crashFil k)) = _; rw [fget_crash, h]; rfl)]
    unfold crashFil
    simp only [ht x h, nil_ext, app_nil]
theorem atomic_law {l l2 : List Fil} {p f2 e2 : Int} {name s : ByteArray} (k : Nat) (hg : GoodL namedD l) (hq : ((⟨l2, f2⟩, e2) : Dsk × Int) = saveD namedD ⟨l.map (crashFil 0), p⟩ name s) :
    GoodL namedD l2 ∧ (e2 = 0 → readD namedD ⟨l2.map (crashFil k), -1⟩ name = (s, 0)) ∧ (e2 ≠ 0 → readD namedD ⟨l2.map (crashFil k), -1⟩ name = readD namedD ⟨l.map (crashFil 0), -1⟩ name) := by
  have hc := crash_inv 0 hg
  have h2 : GoodL namedD l2 := by
    have := save_inv (d := ⟨l.map (crashFil 0), p⟩) (name := name) (s := s) hc
    rw [← hq] at this; exact this
  refine ⟨h2, fun he => ?_, fun he => ?_⟩
  · have h3 := save_done (d := ⟨l.map (crashFil 0), p⟩) (name := name) (s := s) (by rw [← hq]; exact he)
    rw [← hq] at h3
    rw [read_crash (g := -1) k h2 (fun x hx => by rw [show fget name l2 = _ from h3] at hx; rw [← Option.some.inj hx])]
    rw [readD_3 (d := ⟨l2, -1⟩) h2 h3]
    simp only [app_nil]
  · have h3 := save_keep (d := ⟨l.map (crashFil 0), p⟩) (name := name) (s := s) (by rw [← hq]; exact he)
    rw [← hq] at h3
    have h4 : ∀ x, fget name l2 = some x → x.tail = nilB := fun x hx => by
      have h5 := (show fget name l2 = fget name (l.map (crashFil 0)) from h3).symm.trans hx
      rw [fget_crash] at h5
      obtain ⟨y, _, rfl⟩ := Option.map_eq_some_iff.1 h5
      rfl
    rw [read_crash (g := -1) k h2 h4]
    exact read_other (d := ⟨l.map (crashFil 0), -1⟩) (d' := ⟨l2, -1⟩) ⟨fun _ => h2, fun _ => hc⟩ h3
end Go.Proofs.YtmacceamebdelaaDoor
