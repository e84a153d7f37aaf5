/- The statements' helper objects; what Encode's answer says. -/
import Derived.Test.YtmjnohblifihmaaObject4
import Derived.Test.YtmjnohblifihmaaObject5
namespace Go.Proofs.Ytmjnohblifihmaa
open Go.RowKit
set_option linter.unusedVariables false
set_option linter.unusedSimpArgs false

theorem enc_ok {o : Obj} (h : (encodeF o).2 = 0) : goodF o = 0 ∧ (encodeF o).1 = ⟨(encO o).toArray⟩ ∧ (encO o).length ≤ 8192 := by
  by_cases h1 : goodF o = 0
  · by_cases h2 : 8192 < (encO o).length
    · rw [encodeF_2 h1 h2] at h; cases h
    · rw [encodeF_3 h1 h2]; exact ⟨h1, rfl, by omega⟩
  · rw [encodeF_1 h1] at h; exact absurd h h1
theorem enc_bad {o : Obj} (h : (encodeF o).2 ≠ 0) : (encodeF o).1 = noB := by
  by_cases h1 : goodF o = 0
  · by_cases h2 : 8192 < (encO o).length
    · rw [encodeF_2 h1 h2]
    · rw [encodeF_3 h1 h2] at h; exact absurd rfl h
  · rw [encodeF_1 h1]
def oA : Obj := ⟨1, ⟨#[97]⟩, [], noB, [], noB, noB, 0, noB⟩
theorem line_no : lineF noB = true := by
  have : hasP badLine noB = false := by rfl
  unfold lineF; rw [this]; rfl
theorem good_oA : goodF oA = 0 := by
  refine (goodF_8 (o := oA) (by decide) ⟨.inl rfl, .inr rfl, .inr ⟨rfl, rfl, rfl⟩, .inr rfl, .inr (.inr ⟨rfl, rfl⟩)⟩ (by decide) (by decide) rfl rfl ?_).trans (if_neg (by decide))
  intro h
  rcases h with h | h | h | h
  · exact absurd h.1 (by decide)
  · exact absurd h.1 (by decide)
  · have : lineF noB = false := h
    rw [line_no] at this; cases this
  · have : lineF noB = false := h
    rw [line_no] at this; cases this
theorem encO_oA : encO oA = [1, 1, 97] := by
  have h1 : enc (1 : Int).toNat = [1] := enc_small 1 (by omega)
  have h2 : enc (⟨#[97]⟩ : ByteArray).size = [1] := enc_small 1 (by omega)
  show enc (1 : Int).toNat ++ bodyO oA = _
  rw [h1, bodyO, if_pos (show oA.kind = 1 from rfl), encT]
  show [1] ++ (enc (⟨#[97]⟩ : ByteArray).size ++ (⟨#[97]⟩ : ByteArray).data.toList) = _
  rw [h2]; rfl
theorem encode_oA : encodeF oA = (⟨#[1, 1, 97]⟩, 0) := by
  rw [encodeF_3 good_oA (by rw [encO_oA]; decide), encO_oA]
theorem rdE_nil (w : World) : rdE w (.slice none 0 0) [] := ⟨rfl, none, 0, rfl, Nat.le_refl _, by decide, fun _ => rfl, fun _ h => by cases h⟩
theorem rdS_nil (w : World) : rdS w (.slice none 0 0) [] := ⟨rfl, none, 0, rfl, Nat.le_refl _, by decide, fun _ => rfl, fun _ h => by cases h⟩
set_option maxRecDepth 100000 in
set_option maxHeartbeats 3200000 in
theorem objects_any (w : World) : Calls Try.prog 7 #[] w fun e w' => e = .returned (.bool true) ∧ Below w.heap.size w w' := by
  have h := encode_any oA (.slice none 0 0) (.slice none 0 0) w (rdE_nil w) (rdS_nil w)
  rw [encode_oA] at h
  obtain ⟨r, hr⟩ : ∃ r : ByteArray, r = ⟨#[1, 1, 97]⟩ := ⟨_, rfl⟩
  have H := Lib.hid (show Calls Try.prog 6 #[.agg #[.int .i64 1, .string ⟨#[97]⟩, .slice none 0 0, .string ⟨#[]⟩, .slice none 0 0, .string ⟨#[]⟩, .string ⟨#[]⟩, .int .i64 0, .string ⟨#[]⟩]] w (fun e w' => e = .returned (.tuple #[.string r, .int .i64 0]) ∧ Below w.heap.size w w') from by rw [hr]; exact h)
  have hoo : (r.toList == [1, 1, 97]) = true := by rw [hr, ByteArray.toList_eq]; rfl
  clear h hr
  go_enter Try.func7, Try.ntmps7
  go_wp2_with fail
  (with_reducible refine H.out.mono ?_)
  rintro e w1 ⟨rfl, hb⟩
  go_wp2_with fail
  go_ret
  exact ⟨rfl, hb⟩
end Go.Proofs.Ytmjnohblifihmaa
