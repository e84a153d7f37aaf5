/- DiskMoved: the walk and its law. -/
import Derived.Test.YtmacceamebdelaaDoorDkB
import Derived.Test.YtmacceamebdelaaDoorDisk11
namespace Go.Proofs.YtmacceamebdelaaDoor
open Go.RowKit
set_option linter.unusedVariables false
set_option linter.unusedSimpArgs false

theorem read_other {d d' : Dsk} {n : ByteArray} (hg : GoodL namedD d.files ↔ GoodL namedD d'.files) (h : fget n d'.files = fget n d.files) : readD namedD d' n = readD namedD d n := by
  unfold readD
  by_cases hx : GoodL namedD d.files
  · rw [if_neg (fun k => k (hg.1 hx)), if_neg (fun k => k hx), h]
  · rw [if_pos (fun k => hx (hg.2 k)), if_pos hx]
theorem beqD (a b : ByteArray) : (a.toList == b.toList) = decide (a = b) := by
  rw [Bool.eq_iff_iff]
  simp only [beq_iff_eq, decide_eq_true_eq]
  exact ⟨toList_inj, fun h => by rw [h]⟩
theorem moved_law {d : Dsk} {frm to : ByteArray} {l' : List Fil} {f' : Int} (h : ((⟨l', f'⟩, 0) : Dsk × Int) = renameD namedD d frm to) :
    ∃ x : ByteArray, readD namedD d frm = (x, 0) ∧ readD namedD ⟨l', f'⟩ to = (x, 0) ∧ (frm ≠ to → readD namedD ⟨l', f'⟩ frm = (nilB, 7)) ∧ GoodL namedD l' := by
  rcases step_cases namedD d (renameO namedD frm to) with ⟨_, h1⟩ | ⟨hg, _, h0, h1⟩
  · exact absurd (show (stepD namedD d (renameO namedD frm to)).2 = 0 from (congrArg Prod.snd h).symm) h1
  · have hr : l' = (renameO namedD frm to d.files).1 := congrArg (fun q : Dsk × Int => q.1.files) (h.trans h1)
    have hgood : GoodL namedD l' := by rw [hr]; exact rename_inv hg h0
    cases hn : namedD to with
    | false => rw [renameO_1 hn] at h0; exact absurd h0 (by simp)
    | true =>
      cases hf : fget frm d.files with
      | none => rw [renameO_2 hn hf] at h0; exact absurd h0 (by simp)
      | some x =>
        rw [renameO_3 hn hf] at hr
        simp only at hr
        refine ⟨x.safe ++ x.tail, readD_3 hg hf, ?_, fun hne => ?_, hgood⟩
        · exact readD_3 (d := ⟨l', f'⟩) (f := ⟨to, x.safe, x.tail⟩) hgood (by show fget to l' = _; rw [hr]; simp [getL_put])
        · exact readD_2 (d := ⟨l', f'⟩) hgood (by show fget frm l' = _; rw [hr]; simp [getL_put, getL_del, hne])
theorem step_same {d : Dsk} {op : List Fil → List Fil × Int} {l' : List Fil} {f' e : Int} (h : ((⟨l', f'⟩, e) : Dsk × Int) = stepD namedD d op) (he : e ≠ 0) : l' = d.files ∧ f' = d.fuse := by
  rcases step_cases namedD d op with ⟨h1, _⟩ | ⟨_, _, _, h1⟩
  · have := congrArg Prod.fst h
    rw [h1] at this
    exact ⟨congrArg Dsk.files this, congrArg Dsk.fuse this⟩
  · exact absurd (congrArg Prod.snd (h.trans h1)) he
end Go.Proofs.YtmacceamebdelaaDoor
