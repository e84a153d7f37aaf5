/- The walk of the writer's Bytes. -/
import Derived.Test.YtinhjnbgblieeaaDoorWireWriter
namespace Go.Proofs.YtinhjnbgblieeaaDoor
open Go.RowKit
set_option linter.unusedVariables false

set_option maxRecDepth 100000 in
set_option maxHeartbeats 400000 in
theorem wBytes_err {w : World} {B g : Nat} {v : Value} {l : List UInt8} {er : Int} (hst : WrSt w B g v l er) (he : er ≠ 0) (t : ByteArray) :
    Calls Tryd.prog 39 #[.pointer (some ⟨g, 0, none⟩), .string t] w (WrTo w B g v l er) := by
  have he' : (er == 0) = false := by simpa using he
  have he2 : (er != 0) = true := by simpa using he
  clear he
  obtain ⟨c0, c1, f0, f1⟩ := cell_of_two hst.blk
  go_enter Tryd.func39, Tryd.ntmps39
  go_wp2_with fail
  go_end0
  exact WrTo.same hst

set_option maxRecDepth 100000 in
set_option maxHeartbeats 400000 in
theorem wBytes_good {w : World} {B g : Nat} {v : Value} {l : List UInt8} (hst : WrSt w B g v l 0) (t : ByteArray) (hl : l.length + t.size ≤ 140737488355328) :
    Calls Tryd.prog 39 #[.pointer (some ⟨g, 0, none⟩), .string t] w (WrTo w B g v (l ++ t.data.toList) 0) := by
  have hlt := lt_of_block hst.blk
  obtain ⟨c0, c1, f0, f1⟩ := cell_of_two hst.blk
  have hst1 := hst
  go_enter Tryd.func39, Tryd.ntmps39
  go_wp2_with (first | (at_builtin; refine wpList_append_str (S := WrS g v) rfl _ _ 74 9 rfl info_u8W Tryd.underlying74 Tryd.underlying9 hst1.own (Upd.refl _ _) hst1.le (by omega) (fun k hk => .inl (.inr hk)) rfl rfl ?_; intro v' w2 hown' hgrow hupd hblk; obtain ⟨k0, k1, k2, k3⟩ := hst1.cells2 hgrow; obtain ⟨ao, cp, rfl⟩ := owns_slice hown'))
  go_end0
  have hfin := WrTo.mk0 hst1 hown' hgrow hblk hlt
  rw [List.length_append, toList_length] at hfin
  exact hfin

theorem wBytes_any {w : World} {B g : Nat} {v : Value} {st : List UInt8 × Int} (hst : WrSt w B g v st.1 st.2) (t : ByteArray) (hl : st.1.length + t.size ≤ 140737488355328) :
    Calls Tryd.prog 39 #[.pointer (some ⟨g, 0, none⟩), .string t] w (WrTo w B g v (wByt st t).1 (wByt st t).2) := by
  obtain ⟨l, er⟩ := st
  simp only at hst hl
  unfold wByt
  by_cases he : er = 0
  · subst he
    rw [if_neg (by simp)]; exact wBytes_good hst t hl
  · rw [if_pos he]; exact wBytes_err hst he t

end Go.Proofs.YtinhjnbgblieeaaDoor
