/- The walks of sum.digit and sum.Unhex. -/
import Derived.Test.YtafgbmeibnhapaaDoorSumUnhexLaw
namespace Go.Proofs.YtafgbmeibnhapaaDoor
open Go.RowKit
set_option linter.unusedVariables false
set_option linter.unusedSimpArgs false

theorem byte_at (s : ByteArray) (i : Nat) (h : i < s.size) : (s[i].toNat : Int) = ((atB s i : Nat) : Int) := by
  have h' : i < s.data.toList.length := by rw [Array.length_toList]; exact h
  have e : s[i] = s.data.toList[i]'h' := rfl
  rw [atB, List.getD, List.getElem?_eq_getElem h', e]; rfl
set_option maxRecDepth 100000 in
set_option maxHeartbeats 400000 in
theorem digit_any (c : Nat) (w : World) (hc : c < 256) :
    Calls Tryd.prog 17 #[.int .u8 (c : Int)] w fun e w' => e = .returned (.int .u8 ((digF c : Nat) : Int)) ∧ w = w' := by
  by_cases h1 : (48 : Int) ≤ (c : Int)
  · by_cases h2 : (c : Int) ≤ 57
    · have hd : digF c = c - 48 := by unfold digF; rw [if_pos (by omega)]
      have he : ((digF c : Nat) : Int) = (c : Int) - 48 := by rw [hd]; omega
      rw [he]
      clear he hd
      go_enter Tryd.func17, Tryd.ntmps17
      go_wp2_with fail
      go_ret
      exact ⟨by first | rfl | (congr 2; omega), rfl⟩
    · by_cases h3 : (97 : Int) ≤ (c : Int)
      · by_cases h4 : (c : Int) ≤ 102
        · have hd : digF c = c - 87 := by unfold digF; rw [if_neg (by omega), if_pos (by omega)]
          have he : ((digF c : Nat) : Int) = (c : Int) - 97 + 10 := by rw [hd]; omega
          rw [he]
          clear he hd
          go_enter Tryd.func17, Tryd.ntmps17
          go_wp2_with fail
          go_ret
          exact ⟨by first | rfl | (congr 2; omega), rfl⟩
        · have hd : digF c = 16 := by unfold digF; rw [if_neg (by omega), if_neg (by omega)]
          rw [hd]
          clear hd
          go_enter Tryd.func17, Tryd.ntmps17
          go_wp2_with fail
          go_ret
          exact ⟨rfl, rfl⟩
      · have hd : digF c = 16 := by unfold digF; rw [if_neg (by omega), if_neg (by omega)]
        rw [hd]
        clear hd
        go_enter Tryd.func17, Tryd.ntmps17
        go_wp2_with fail
        go_ret
        exact ⟨rfl, rfl⟩
  · have hd : digF c = 16 := by unfold digF; rw [if_neg (by omega), if_neg (by omega)]
    rw [hd]
    clear hd
    go_enter Tryd.func17, Tryd.ntmps17
    go_wp2_with fail
    go_ret
    exact ⟨rfl, rfl⟩

theorem unR_unE_congr {s r : ByteArray} {e : Int} (h : unR s = r ∧ unE s = e) : (Ending.returned (.tuple #[.string r, .int .i64 e])) = .returned (.tuple #[.string (unR s), .int .i64 (unE s)]) := by rw [h.1, h.2]

set_option maxRecDepth 100000 in
set_option maxHeartbeats 1600000 in
theorem unhex_any (s : ByteArray) (w : World) (hs : s.size ≤ 281474976710656) :
    Calls Tryd.prog 15 #[.string s] w fun e w' => e = .returned (.tuple #[.string (unR s), .int .i64 (unE s)]) ∧ Below w.heap.size w w' := by
  have hm : (s.size : Int).tmod 2 = ((s.size % 2 : Nat) : Int) := by rw [Int.tmod_eq_emod_of_nonneg (by omega)]; omega
  obtain ⟨r, hr⟩ : ∃ r, r = unR s := ⟨_, rfl⟩
  obtain ⟨x, hx⟩ : ∃ x, x = unE s := ⟨_, rfl⟩
  rw [← hr, ← hx]
  have HR := Lib.hid (show r = unR s ∧ x = unE s from ⟨hr, hx⟩)
  clear hr hx
  by_cases hodd : s.size % 2 = 0
  · have hm0 : (s.size : Int) % 2 = 0 := by omega
    have HO := Lib.hid hodd
    clear hodd hm
    go_enter Tryd.func15, Tryd.ntmps15
    go_wp2_with fail
    go_loopw [2, 3, 4, 5] (fun _ _ v i wr => ∃ k : Nat, 2 * k ≤ s.size ∧ i = .int .i64 ((2 * k : Nat) : Int) ∧ wr.ownsRow w.heap.size 5 1 v k (bvs (unL s k)) ∧ (∀ j, j < k → okP s j = true) ∧ Below w.heap.size w wr) (fun _ _ _ i _ => s.size - (intOf i).toNat)
    case atStart => exact ⟨0, by omega, rfl, World.ownsRow_nil _ _ _ _, fun j hj => by omega, Below.refl _ _⟩
    case round =>
      obtain ⟨k, hk, rfl, hown, hall, hB⟩ := hrel
      have HALL := Lib.hid hall
      clear hall
      obtain ⟨m, hmm⟩ : ∃ m, m = 2 * k := ⟨_, rfl⟩
      rw [← hmm] at hk ⊢
      by_cases hlt : m < s.size
      · have hlt1 : m + 1 < s.size := by have := HO.out; omega
        have hkb : decide ((m : Int) < (s.size : Int)) = true := by simp; omega
        have hki : (m : Int) < (s.size : Int) := by omega
        have hki1 : (m : Int) + 1 < (s.size : Int) := by omega
        have hw1 : IntKind.i64.wrap ((m : Int) + 1) = (m : Int) + 1 := IntWalk.i64_in _ (by omega)
        have hp1 : (0 : Int) ≤ (m : Int) + 1 := by omega
        have ht1 : ((m : Int) + 1).toNat = m + 1 := by omega
        have hsz := hB.size
        have hb0 := byte_at s m hlt
        have hb1 := byte_at s (m + 1) hlt1
        have D0 := Lib.hid (fun w => digit_any (atB s m) w (UInt8.toNat_lt _))
        have D1 := Lib.hid (fun w => digit_any (atB s (m + 1)) w (UInt8.toNat_lt _))
        have HMM := Lib.hid (show m = 2 * k ∧ m + 1 < s.size ∧ digF (atB s m) ≤ 16 ∧ digF (atB s (m + 1)) ≤ 16 from ⟨hmm, hlt1, digF_le _, digF_le _⟩)
        clear hmm
        go_wp2_with fail
        refine wp_region_order [(0, false), (1, false), (2, false), (4, false), (5, false), (6, false), (7, false), (3, true), (8, true), (9, false), (10, false)] (fun w' => True) (by kernel_rfl) (by kernel_rfl) rfl (by kernel_rfl) (by intro _ _ d _ _ h; cases d <;> exact h) (trivial) ?_; simp only [List.map_cons, List.map_nil, List.getElem?_toArray, List.getElem?_cons_zero, List.getElem?_cons_succ, Option.getD_some]
        repeat (first | (refine ro_q (by rfl) (v := ?_) ?_ ?_; rotate_left; (focus (intro w' hSw; (try dsimp only at hSw); go_simp; try with_reducible rfl)); simp only [Act.put, List.setIfInBounds_toArray, List.set_cons_zero, List.set_cons_succ]) | (refine ro_skip (by rfl) ?_; simp only [Act.put, List.setIfInBounds_toArray, List.set_cons_zero, List.set_cons_succ]))
        (refine ro_loud (by rfl) (fun K hK => ?_); go_simp)
        refine (D0.out _).mono ?_
        rintro e w2 ⟨rfl, rfl⟩
        (refine hK.out _ _ (fun _ => True) (fun _ h => h) (trivial) ?_; clear hK K; try simp only [Act.put, List.setIfInBounds_toArray, List.set_cons_zero, List.set_cons_succ])
        repeat (first | (refine ro_q (by rfl) (v := ?_) ?_ ?_; rotate_left; (focus (intro w' hSw; (try dsimp only at hSw); go_simp; try with_reducible rfl)); simp only [Act.put, List.setIfInBounds_toArray, List.set_cons_zero, List.set_cons_succ]) | (refine ro_skip (by rfl) ?_; simp only [Act.put, List.setIfInBounds_toArray, List.set_cons_zero, List.set_cons_succ]))
        (refine ro_loud (by rfl) (fun K hK => ?_); go_simp)
        refine (D1.out _).mono ?_
        rintro e w2 ⟨rfl, rfl⟩
        (refine hK.out _ _ (fun _ => True) (fun _ h => h) (trivial) ?_; clear hK K; try simp only [Act.put, List.setIfInBounds_toArray, List.set_cons_zero, List.set_cons_succ])
        repeat (first | (refine ro_q (by rfl) (v := ?_) ?_ ?_; rotate_left; (focus (intro w' hSw; (try dsimp only at hSw); go_simp; try with_reducible rfl)); simp only [Act.put, List.setIfInBounds_toArray, List.set_cons_zero, List.set_cons_succ]) | (refine ro_skip (by rfl) ?_; simp only [Act.put, List.setIfInBounds_toArray, List.set_cons_zero, List.set_cons_succ]))
        obtain ⟨da, hda⟩ : ∃ da, da = digF (atB s m) := ⟨_, rfl⟩
        obtain ⟨db, hdb⟩ : ∃ db, db = digF (atB s (m + 1)) := ⟨_, rfl⟩
        rw [← hda, ← hdb]
        have HD := Lib.hid (show (da = digF (atB s m) ∧ db = digF (atB s (m + 1))) ∧ okP s k = (decide (da ≤ 15) && decide (db ≤ 15)) ∧ (valP s k = UInt8.ofNat (16 * da + db)) from ⟨⟨hda, hdb⟩, by rw [hda, hdb, HMM.out.1]; rfl, by rw [hda, hdb, HMM.out.1]; rfl⟩)
        have hda16 : da ≤ 16 := by rw [hda]; exact digF_le _
        have hdb16 : db ≤ 16 := by rw [hdb]; exact digF_le _
        clear hda hdb hb0 hb1 D0 D1 hw1 hp1 ht1
        by_cases ha : (15 : Int) < (da : Int)
        · have hz : okP s k = false := by
            have := HD.out.2.1
            rw [this]; simp; omega
          have hr := un_bad (by have := HMM.out; omega) hz
          rw [← HR.out.1, ← HR.out.2] at hr
          have HRR := Lib.hid hr
          clear hz hr
          (refine ro_nil ?_; go_wp2_with fail)
          go_ret2
          exact ⟨(by rw [HRR.out.1, HRR.out.2]; rfl), hB.drew⟩
        · by_cases hb : (15 : Int) < (db : Int)
          · have hz : okP s k = false := by
              have := HD.out.2.1
              rw [this]; simp; omega
            have hr := un_bad (by have := HMM.out; omega) hz
            rw [← HR.out.1, ← HR.out.2] at hr
            have HRR := Lib.hid hr
            clear hz hr
            (refine ro_nil ?_; go_wp2_with fail)
            go_ret2
            exact ⟨(by rw [HRR.out.1, HRR.out.2]; rfl), hB.drew⟩
          · have hz : okP s k = true := by
              have := HD.out.2.1
              rw [this]; simp; omega
            have hvv : bits .or .u8 ((da : Int) * 16) (db : Int) = ((valP s k).toNat : Int) := by
              rw [show (da : Int) * 16 = (da : Int) * 16 % 256 by omega, nib_val _ _ (by omega) (by omega), valP_val hz, HD.out.1.1, HD.out.1.2, HMM.out.1]
            have HZ := Lib.hid hz
            have HK2 := Lib.hid (show m = 2 * k ∧ m + 1 < s.size from ⟨HMM.out.1, HMM.out.2.1⟩)
            have HVV := Lib.hid hvv
            have hkk : k ≤ 140737488355327 := by have := HMM.out; omega
            clear hz HMM HD hvv
            refine ro_nil ?_
            go_wp2_with (first | (at_builtin; refine wpList_append1 rfl _ _ 41 rfl info_u8 Tryd.underlying41 rfl (by decide) (by decide) hown.drew hB.drew (Nat.le_refl _) hsz rfl (by simp [Value.oneCell']) (by omega) rfl rfl ?_; intro v' w2 hown' hB' hlt'))
            rw [HVV.out] at hown'
            have hown2 : w2.ownsRow w.heap.size 5 1 v' (k + 1) (bvs (unL s (k + 1))) := by
              rw [unL_succ, bvs_append, bvs_one]; exact hown'
            have hall2 : ∀ j, j < k + 1 → okP s j = true := fun j hj => by
              by_cases hjk : j = k
              · rw [hjk]; exact HZ.out
              · exact HALL.out j (by omega)
            have hk2 := HK2.out
            exact ⟨⟨_, _, v', _, ⟨k + 1, by omega, rfl, hown2, hall2⟩, rfl, rfl, rfl, by congr 1; omega⟩, by simp only [intOf]; omega⟩
      · have hkb : m = s.size := by omega
        have hkh : k = s.size / 2 := by omega
        have hr := un_good HO.out (by rw [← hkh]; exact HALL.out)
        rw [← HR.out.1, ← HR.out.2, ← hkh] at hr
        have HRR := Lib.hid hr
        have hR := rdRow_of_owns hown
        subst hkb
        have hkb : decide ((s.size : Int) < (s.size : Int)) = false := by simp
        clear hlt hk hmm hkh hr HALL
        go_wp2_with (first | (refine wpList_bytes_string rfl _ _ _ _ rfl Tryd.underlying41 Tryd.underlying5 Tryd.underlying9 (l := unL s k) (n := k) hR rfl ?_))
        go_ret2
        exact ⟨(by rw [HRR.out.1, HRR.out.2]; rfl), hB⟩
  · have hm1 : (s.size : Int) % 2 = 1 := by omega
    have hr := un_odd hodd
    rw [← HR.out.1, ← HR.out.2] at hr
    have HRR := Lib.hid hr
    clear hr hodd hm
    go_enter Tryd.func15, Tryd.ntmps15
    go_wp2_with fail
    go_ret2
    exact ⟨(by rw [HRR.out.1, HRR.out.2]; rfl), Below.refl _ _⟩
end Go.Proofs.YtafgbmeibnhapaaDoor
