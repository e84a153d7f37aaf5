/- The walk of the law WireBack. -/
import Derived.Test.YtafgbmeibnhapaaWireText
import Derived.Test.YtafgbmeibnhapaaWireOnly
namespace Go.Proofs.Ytafgbmeibnhapaa
open Go.RowKit
set_option linter.unusedVariables false

theorem putB_back (b more : ByteArray) (n : Nat) (hn : n < 4611686018427387904) :
    (putB b n).extract 0 b.size = b ∧ get (((putB b n).extract b.size (putB b n).size) ++ more).data.toList = some (n, (enc n).length) := by
  refine ⟨extract_append_left _ _, ?_⟩
  rw [toList_append, toList_drop, putB_toList, List.drop_left' (toList_length b)]
  exact get_enc n _ hn

theorem textB_back (b t more : ByteArray) (ht : t.size ≤ 4096) :
    getText (((textB b t).extract b.size (textB b t).size) ++ more) = (t, (enc t.size).length + t.size, 0) := by
  have hl : (((textB b t).extract b.size (textB b t).size) ++ more).data.toList = enc t.size ++ (t.data.toList ++ more.data.toList) := by
    rw [toList_append, toList_drop, textB_toList, List.drop_left' (toList_length b), List.append_assoc]
  have hz : (((textB b t).extract b.size (textB b t).size) ++ more).size = (enc t.size).length + (t.size + more.size) := by
    rw [← toList_length, hl]; simp
  rw [getText, hl, get_enc _ _ (by omega)]
  simp only
  rw [if_neg (by omega), if_neg (by omega)]
  have e : (((textB b t).extract b.size (textB b t).size) ++ more).extract (enc t.size).length ((enc t.size).length + t.size) = t := by
    apply bs_ext
    rw [toList_extract, hl, List.drop_left' rfl, Nat.add_sub_cancel_left, List.take_left' (toList_length t)]
  rw [e]

set_option maxRecDepth 100000 in
set_option maxHeartbeats 1600000 in
theorem wireBack_walk (b : ByteArray) (hb : b.size ≤ 140737488351232) (n : Int) (hn0 : -9223372036854775808 ≤ n ∧ n ≤ 9223372036854775807) (t : ByteArray) (ht : t.size ≤ 140737488351232)
    (more : ByteArray) (hm : more.size ≤ 140737488351232) (w : World) :
    Calls Try.prog 5 #[.string b, .int .i64 n, .string t, .string more] w fun e w' => e = .returned (.bool true) ∧ Below w.heap.size w w' := by
  by_cases hn : 0 ≤ n ∧ n < 4611686018427387904
  · obtain ⟨h0, h1⟩ := hn
    obtain ⟨hx, hg⟩ := putB_back b more n.toNat (by omega)
    have hpos := enc_pos n.toNat
    have hlen := enc_len9 n.toNat (by omega)
    have hsz := putB_size b n.toNat
    generalize hs : putB b n.toNat = s at *
    generalize (enc n.toNat).length = len at *
    have HG := Lib.hid hg
    have HS := Lib.hid hs
    clear hg hs
    have hss : s.size ≤ 140737488351232 + 9 := by omega
    have hbs : b.size ≤ s.size := by omega
    have HZ : Hid (len = s.size - b.size) := Lib.hid (by omega)
    clear hsz
    by_cases h4 : t.size ≤ 4096
    · have hback := textB_back b t more h4
      have huz := textB_size b t
      have hpos' := enc_pos t.size
      have hlen' := enc_len9 t.size (by omega)
      generalize hu : textB b t = u at *
      generalize (enc t.size).length = len' at *
      have HB := Lib.hid hback
      have HU := Lib.hid hu
      clear hback hu
      have hub : b.size ≤ u.size := by omega
      have hus : u.size ≤ 140737488351232 + 4096 + 9 := by omega
      have HV : Hid (((len' + t.size : Nat) : Int) = (u.size : Int) - (b.size : Int)) := Lib.hid (by omega)
      clear huz
      go_enter Try.func5, Try.ntmps5
      go_wp2_with fail
      refine (put_int _ _ _ (by omega) h0 h1).mono ?_
      rintro e w1 ⟨rfl, hb1⟩
      rw [HS.out]
      go_wp2_with fail
      refine (puts_any _).mono ?_
      rintro e w2 ⟨rfl, hb2⟩
      go_wp2_with fail
      refine (get_any _ _ (by simp only [ByteArray.size_append, ByteArray.size_extract, maxLen]; omega)).mono ?_
      rintro e w3 ⟨rfl, rfl⟩
      rw [HG.out, getV, HZ.out]
      go_wp2_with fail
      have h2 := hb1.trans (hb2.mono hb1.size)
      refine (putText_good _ _ _ (by omega) h4).mono ?_
      rintro e w4 ⟨rfl, hb4⟩
      rw [HU.out]
      go_wp2_with fail
      refine (getText_any _ _ (by simp only [ByteArray.size_append, ByteArray.size_extract]; omega)).mono ?_
      rintro e w5 ⟨rfl, rfl⟩
      rw [HB.out, textV, HV.out]
      go_wp2_with fail
      have h3 := h2.trans (hb4.mono h2.size)
      refine (puts_any _).mono ?_
      rintro e w6 ⟨rfl, hb6⟩
      go_wp2_with fail
      go_ret
      exact ⟨rfl, h3.trans (hb6.mono h3.size)⟩
    · go_enter Try.func5, Try.ntmps5
      go_wp2_with fail
      refine (put_int _ _ _ (by omega) h0 h1).mono ?_
      rintro e w1 ⟨rfl, hb1⟩
      rw [HS.out]
      go_wp2_with fail
      refine (puts_any _).mono ?_
      rintro e w2 ⟨rfl, hb2⟩
      go_wp2_with fail
      refine (get_any _ _ (by simp only [ByteArray.size_append, ByteArray.size_extract, maxLen]; omega)).mono ?_
      rintro e w3 ⟨rfl, rfl⟩
      rw [HG.out, getV, HZ.out]
      go_wp2_with fail
      have h2 := hb1.trans (hb2.mono hb1.size)
      refine (putText_long _ _ _ (by omega)).mono ?_
      rintro e w4 ⟨rfl, rfl⟩
      go_wp2_with fail
      refine (puts_any _).mono ?_
      rintro e w6 ⟨rfl, hb6⟩
      go_wp2_with fail
      go_ret
      exact ⟨rfl, h2.trans (hb6.mono h2.size)⟩
  · by_cases hneg : 0 ≤ n
    all_goals
      by_cases h4 : t.size ≤ 4096
      · have hback := textB_back b t more h4
        have huz := textB_size b t
        have hpos' := enc_pos t.size
        have hlen' := enc_len9 t.size (by omega)
        generalize hu : textB b t = u at *
        generalize (enc t.size).length = len' at *
        have HB := Lib.hid hback
        have HU := Lib.hid hu
        clear hback hu
        have hub : b.size ≤ u.size := by omega
        have hus : u.size ≤ 140737488351232 + 4096 + 9 := by omega
        have HV : Hid (((len' + t.size : Nat) : Int) = (u.size : Int) - (b.size : Int)) := Lib.hid (by omega)
        clear huz
        go_enter Try.func5, Try.ntmps5
        go_wp2_with fail
        refine (put_bad _ _ _ (by omega)).mono ?_
        rintro e w1 ⟨rfl, rfl⟩
        go_wp2_with fail
        refine (puts_any _).mono ?_
        rintro e w2 ⟨rfl, h2⟩
        go_wp2_with fail
        refine (putText_good _ _ _ (by omega) h4).mono ?_
        rintro e w4 ⟨rfl, hb4⟩
        rw [HU.out]
        go_wp2_with fail
        refine (getText_any _ _ (by simp only [ByteArray.size_append, ByteArray.size_extract]; omega)).mono ?_
        rintro e w5 ⟨rfl, rfl⟩
        rw [HB.out, textV, HV.out]
        go_wp2_with fail
        have h3 := h2.trans (hb4.mono h2.size)
        refine (puts_any _).mono ?_
        rintro e w6 ⟨rfl, hb6⟩
        go_wp2_with fail
        go_ret
        exact ⟨rfl, h3.trans (hb6.mono h3.size)⟩
      · go_enter Try.func5, Try.ntmps5
        go_wp2_with fail
        refine (put_bad _ _ _ (by omega)).mono ?_
        rintro e w1 ⟨rfl, rfl⟩
        go_wp2_with fail
        refine (puts_any _).mono ?_
        rintro e w2 ⟨rfl, h2⟩
        go_wp2_with fail
        refine (putText_long _ _ _ (by omega)).mono ?_
        rintro e w4 ⟨rfl, rfl⟩
        go_wp2_with fail
        refine (puts_any _).mono ?_
        rintro e w6 ⟨rfl, hb6⟩
        go_wp2_with fail
        go_ret
        exact ⟨rfl, h2.trans (hb6.mono h2.size)⟩
end Go.Proofs.Ytafgbmeibnhapaa
