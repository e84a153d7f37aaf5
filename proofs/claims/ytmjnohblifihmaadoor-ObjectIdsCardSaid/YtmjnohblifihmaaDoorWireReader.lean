/- The walks of the reader's methods. -/
import Derived.Test.YtmjnohblifihmaaDoorWireText
namespace Go.Proofs.YtmjnohblifihmaaDoor
open Go.RowKit
set_option linter.unusedVariables false

/-- What the methods do: the answer, and the state behind it. -/
def rNum (st : ByteArray × Int) : Nat × (ByteArray × Int) :=
  if st.2 ≠ 0 then (0, st) else match get st.1.data.toList with
    | none => (0, (st.1, 2))
    | some (n, k) => (n, (st.1.extract k st.1.size, 0))
def rTxt (st : ByteArray × Int) : ByteArray × (ByteArray × Int) :=
  if st.2 ≠ 0 then (⟨#[]⟩, st) else ((getText st.1).1, (st.1.extract (getText st.1).2.1 st.1.size, ((getText st.1).2.2 : Int)))
def rByt (st : ByteArray × Int) (n : Int) : ByteArray × (ByteArray × Int) :=
  if st.2 ≠ 0 then (⟨#[]⟩, st) else if n < 0 ∨ st.1.size < n then (⟨#[]⟩, (st.1, 2)) else (st.1.extract 0 n.toNat, (st.1.extract n.toNat st.1.size, 0))

theorem getText_le (s : ByteArray) : (getText s).2.1 ≤ s.size := by
  unfold getText
  cases hg : get s.data.toList with
  | none => simp
  | some nk =>
    obtain ⟨n, k⟩ := nk
    simp only
    split
    · simp
    · split
      · simp
      · simp only; omega

theorem extract_allR (s : ByteArray) : s.extract 0 s.size = s := by
  apply bs_ext; rw [toList_take, List.take_of_length_le (by rw [toList_length]; omega)]

end Go.Proofs.YtmjnohblifihmaaDoor
