/- The walks of package delta's same and of the closure that inserts. -/
import Derived.Test.YtnggcldpojebkaaDeltaLaw
import Derived.Test.YtnggcldpojebkaaWireBytes
import Derived.Test.YtnggcldpojebkaaRegion
import Derived.Test.YtnggcldpojebkaaRegion2
namespace Go.Proofs.Ytnggcldpojebkaa
open Go.RowKit
set_option linter.unusedVariables false
set_option linter.unusedSimpArgs false

theorem getElem_toList (a : ByteArray) (k : Nat) (h : k < a.size) : a.data.toList[k]'(by rw [toList_length]; exact h) = a[k] := by
  rw [Array.getElem_toList]; rfl
set_option maxRecDepth 100000 in
set_option maxHeartbeats 1600000 in
theorem sameD_any (a b : ByteArray) (w : World) (ha : a.size ≤ 9223372036854775806) (hb : b.size ≤ 9223372036854775806) :
    Calls Try.prog 26 #[.string a, .string b] w fun e w' => e = .returned (.int .i64 ((sameL a.data.toList b.data.toList : Nat) : Int)) ∧ Below w.heap.size w w' := by
  obtain ⟨r, hr⟩ : ∃ r, r = sameL a.data.toList b.data.toList := ⟨_, rfl⟩
  rw [← hr]
  have HR := Lib.hid hr
  clear hr
  go_enter Try.func26, Try.ntmps26
  go_wp2_with fail
  go_loopw [5] (fun i wr => ∃ k : Nat, k ≤ a.size ∧ k ≤ b.size ∧ i = .int .i64 (k : Int) ∧ r = k + sameL (a.data.toList.drop k) (b.data.toList.drop k) ∧ Below w.heap.size w wr) (fun i _ => a.size - (intOf i).toNat)
  case atStart => exact ⟨0, by omega, by omega, rfl, by rw [HR.out]; simp, Below.refl _ _⟩
  case round =>
    obtain ⟨k, hka, hkb, rfl, hrk, hB⟩ := hrel
    have HK := Lib.hid hrk
    have HB := Lib.hid hB
    have HD := Lib.hid hB.drew
    clear hrk hB
    by_cases hla : k < a.size
    · have hda : decide ((k : Int) < (a.size : Int)) = true := by simp; omega
      have hia : (k : Int) < (a.size : Int) := by omega
      have hk0 : (0 : Int) ≤ (k : Int) := by omega
      by_cases hlb : k < b.size
      · have hdb : decide ((k : Int) < (b.size : Int)) = true := by simp; omega
        have hib : (k : Int) < (b.size : Int) := by omega
        have hs := sameL_step (x := a.data.toList) (y := b.data.toList) (n := k) (by rw [toList_length]; exact hla) (by rw [toList_length]; exact hlb)
        rw [getElem_toList a k hla, getElem_toList b k hlb] at hs
        by_cases hab : a[k] = b[k]
        · rw [if_pos hab] at hs
          have HK2 := Lib.hid (show r = (k + 1) + sameL (a.data.toList.drop (k + 1)) (b.data.toList.drop (k + 1)) by rw [HK.out, hs]; omega)
          have hoo : ((a[k].toNat : Int) == (b[k].toNat : Int)) = true := by rw [hab]; simp
          clear hs hab
          go_wp2_with fail
          refine Lone.wp_region_order [(0, false), (1, false), (2, false), (3, false), (4, false), (5, false), (6, false), (7, false), (8, false), (9, false), (10, false), (11, false), (12, false), (13, false), (14, false), (15, false), (16, false), (17, false), (18, false)] (fun w' => True) (by kernel_rfl) (by kernel_rfl) rfl (by kernel_rfl) (by intro _ _ d _ _ h; cases d <;> exact h) (trivial) ?_; simp only [List.map_cons, List.map_nil, List.getElem?_toArray, List.getElem?_cons_zero, List.getElem?_cons_succ, Option.getD_some]
          repeat (first | (refine Lone.ro_q (by rfl) (v := ?_) ?_ ?_; rotate_left; (focus (intro w' hSw; (try dsimp only at hSw); go_simp; try with_reducible rfl)); simp only [Act.put, List.setIfInBounds_toArray, List.set_cons_zero, List.set_cons_succ]) | (refine Lone.ro_skip (by rfl) ?_; simp only [Act.put, List.setIfInBounds_toArray, List.set_cons_zero, List.set_cons_succ]))
          (refine Lone.ro_nil ?_; go_wp2_with fail)
          go_roundw
          case rel => exact ⟨k + 1, by omega, by omega, by first | rfl | go_num, HK2.out, HD.out⟩
          case measure => simp [intOf]; omega
        · rw [if_neg hab] at hs
          have hF : r = k := by rw [HK.out, hs]; rfl
          subst hF
          have hoo : ((a[r].toNat : Int) == (b[r].toNat : Int)) = false := by simp; intro h; exact hab (UInt8.toNat_inj.1 (by omega))
          clear hs hab
          go_wp2_with fail
          refine Lone.wp_region_order [(0, false), (1, false), (2, false), (3, false), (4, false), (5, false), (6, false), (7, false), (8, false), (9, false), (10, false), (11, false), (12, false), (13, false), (14, false), (15, false), (16, false), (17, false), (18, false)] (fun w' => True) (by kernel_rfl) (by kernel_rfl) rfl (by kernel_rfl) (by intro _ _ d _ _ h; cases d <;> exact h) (trivial) ?_; simp only [List.map_cons, List.map_nil, List.getElem?_toArray, List.getElem?_cons_zero, List.getElem?_cons_succ, Option.getD_some]
          repeat (first | (refine Lone.ro_q (by rfl) (v := ?_) ?_ ?_; rotate_left; (focus (intro w' hSw; (try dsimp only at hSw); go_simp; try with_reducible rfl)); simp only [Act.put, List.setIfInBounds_toArray, List.set_cons_zero, List.set_cons_succ]) | (refine Lone.ro_skip (by rfl) ?_; simp only [Act.put, List.setIfInBounds_toArray, List.set_cons_zero, List.set_cons_succ]))
          (refine Lone.ro_nil ?_; go_wp2_with fail)
          go_ret
          exact ⟨rfl, HD.out⟩
      · have hF : r = k := by rw [HK.out, sameL_end (.inr (by rw [toList_length]; omega))]; rfl
        subst hF
        have hdb : decide ((r : Int) < (b.size : Int)) = false := by simp; omega
        have hib : ¬ (r : Int) < (b.size : Int) := by omega
        have hdbn : decide (r < b.size) = false := by simp; omega
        clear hlb
        go_wp2_with fail
        refine Lone.wp_region_order [(0, false), (1, false), (2, false), (3, false), (4, false), (5, false), (6, false), (7, false), (8, false), (9, false), (10, false), (11, false), (12, false), (13, false), (14, false), (15, false), (16, false), (17, false), (18, false)] (fun w' => True) (by kernel_rfl) (by kernel_rfl) rfl (by kernel_rfl) (by intro _ _ d _ _ h; cases d <;> exact h) (trivial) ?_; simp only [List.map_cons, List.map_nil, List.getElem?_toArray, List.getElem?_cons_zero, List.getElem?_cons_succ, Option.getD_some]
        repeat (first | (refine Lone.ro_q (by rfl) (v := ?_) ?_ ?_; rotate_left; (focus (intro w' hSw; (try dsimp only at hSw); go_simp; try with_reducible rfl)); simp only [Act.put, List.setIfInBounds_toArray, List.set_cons_zero, List.set_cons_succ]) | (refine Lone.ro_skip (by rfl) ?_; simp only [Act.put, List.setIfInBounds_toArray, List.set_cons_zero, List.set_cons_succ]))
        (refine Lone.ro_nil ?_; go_wp2_with fail)
        go_ret
        exact ⟨rfl, HD.out⟩
    · have hF : r = k := by rw [HK.out, sameL_end (.inl (by rw [toList_length]; omega))]; rfl
      subst hF
      have hda : decide ((r : Int) < (a.size : Int)) = false := by simp; omega
      have hia : ¬ (r : Int) < (a.size : Int) := by omega
      have hdan : decide (r < a.size) = false := by simp; omega
      clear hla
      go_wp2_with fail
      refine Lone.wp_region_order [(0, false), (1, false), (2, false), (3, false), (4, false), (5, false), (6, false), (7, false), (8, false), (9, false), (10, false), (11, false), (12, false), (13, false), (14, false), (15, false), (16, false), (17, false), (18, false)] (fun w' => True) (by kernel_rfl) (by kernel_rfl) rfl (by kernel_rfl) (by intro _ _ d _ _ h; cases d <;> exact h) (trivial) ?_; simp only [List.map_cons, List.map_nil, List.getElem?_toArray, List.getElem?_cons_zero, List.getElem?_cons_succ, Option.getD_some]
      repeat (first | (refine Lone.ro_q (by rfl) (v := ?_) ?_ ?_; rotate_left; (focus (intro w' hSw; (try dsimp only at hSw); go_simp; try with_reducible rfl)); simp only [Act.put, List.setIfInBounds_toArray, List.set_cons_zero, List.set_cons_succ]) | (refine Lone.ro_skip (by rfl) ?_; simp only [Act.put, List.setIfInBounds_toArray, List.set_cons_zero, List.set_cons_succ]))
      (refine Lone.ro_nil ?_; go_wp2_with fail)
      go_ret
      exact ⟨rfl, HD.out⟩
end Go.Proofs.Ytnggcldpojebkaa
