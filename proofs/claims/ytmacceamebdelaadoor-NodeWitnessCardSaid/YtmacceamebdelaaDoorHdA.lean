/- Texts put together: HeadLaw Head1 HeadLaw2 Head2 Head3. -/
import Derived.Test.YtmacceamebdelaaDoorBas
import Derived.Test.YtmacceamebdelaaDoorStB
import Derived.Test.YtmacceamebdelaaDoorMer
/-! HeadLaw -/
namespace Go.Proofs.YtmacceamebdelaaDoor
set_option linter.unusedVariables false
set_option linter.unusedSimpArgs false

def goodH (n : Int) (r : ByteArray) : Int := if n < 0 ∨ 200 < n then 3 else if r.size ≠ 32 then 2 else 0
def headB (n : Int) (r : ByteArray) : ByteArray := ⟨(enc n.toNat ++ r.data.toList).toArray⟩
def textF (n : Int) (r : ByteArray) : ByteArray × Int := if goodH n r ≠ 0 then (noB, goodH n r) else (headB n r, 0)
def hrdA (b : ByteArray) : Nat × (ByteArray × Int) := rNum (b, 0)
def hrdB (b : ByteArray) : ByteArray × (ByteArray × Int) := rByt (hrdA b).2 32
/-- What Read gives: size, root, error. -/
def hreadF (b : ByteArray) : (Int × ByteArray) × Int :=
  if (hrdB b).2.2 ≠ 0 ∨ 0 < (hrdB b).2.1.size then ((0, noB), 2) else
  if goodH (hrdA b).1 (hrdB b).1 ≠ 0 then ((0, noB), goodH (hrdA b).1 (hrdB b).1) else (((hrdA b).1, (hrdB b).1), 0)
theorem goodH_ok {n : Int} {r : ByteArray} (h : goodH n r = 0) : 0 ≤ n ∧ n ≤ 200 ∧ r.size = 32 := by
  unfold goodH at h
  by_cases a : n < 0 ∨ 200 < n
  · rw [if_pos a] at h; exact absurd h (by decide)
  · rw [if_neg a] at h
    by_cases b : r.size ≠ 32
    · rw [if_pos b] at h; exact absurd h (by decide)
    · exact ⟨by omega, by omega, by omega⟩
theorem goodH_of {n : Int} {r : ByteArray} (h : 0 ≤ n) (h1 : n ≤ 200) (h2 : r.size = 32) : goodH n r = 0 := by
  unfold goodH
  rw [if_neg (by omega), if_neg (by omega)]
theorem textF_ok {n : Int} {r : ByteArray} (h : goodH n r = 0) : textF n r = (headB n r, 0) := by
  unfold textF
  rw [if_neg (fun k => k h)]
theorem textF_inv {n : Int} {r : ByteArray} (h : (textF n r).2 = 0) : goodH n r = 0 := by
  unfold textF at h
  by_cases g : goodH n r = 0
  · exact g
  · rw [if_pos g] at h; exact absurd h g
theorem headB_size {n : Int} {r : ByteArray} (h : goodH n r = 0) : (headB n r).size ≤ 41 := by
  obtain ⟨h0, h1, h2⟩ := goodH_ok h
  rw [← toList_length, headB, toList_mk, List.length_append, toList_length, h2]
  have := enc_len9 n.toNat (by omega)
  omega
theorem read_text {n : Int} {r : ByteArray} (h : goodH n r = 0) : hreadF (headB n r) = ((n, r), 0) := by
  obtain ⟨h0, h1, h2⟩ := goodH_ok h
  have hs : (headB n r).data.toList = enc n.toNat ++ r.data.toList := rfl
  obtain ⟨e1, e2⟩ : ∃ s', rNum (headB n r, 0) = (n.toNat, (s', 0)) ∧ s'.data.toList = r.data.toList := rNum_fwd (by omega) hs
  obtain ⟨e3, e4⟩ := e2
  obtain ⟨s2, e5, e6⟩ : ∃ s', rByt (e1, 0) 32 = (r, (s', 0)) ∧ s'.data.toList = [] := rByt_fwd h2 (by rw [e4]; simp)
  have a1 : hrdA (headB n r) = (n.toNat, (e1, 0)) := e3
  have a2 : hrdB (headB n r) = (r, (s2, 0)) := by unfold hrdB; rw [a1]; exact e5
  have hz : s2.size = 0 := by rw [← toList_length, e6]; rfl
  unfold hreadF
  rw [a2, a1]
  have hn : ((n.toNat : Nat) : Int) = n := by omega
  simp only [hn, h, hz]
  simp
theorem read_more {n : Int} {r : ByteArray} (x : UInt8) (h : goodH n r = 0) : hreadF (headB n r ++ ⟨#[x]⟩) = ((0, noB), 2) := by
  obtain ⟨h0, h1, h2⟩ := goodH_ok h
  have hs : (headB n r ++ ⟨#[x]⟩ : ByteArray).data.toList = enc n.toNat ++ (r.data.toList ++ [x]) := by rw [toList_append]; simp [headB]
  obtain ⟨e1, e3, e4⟩ : ∃ s', rNum (headB n r ++ ⟨#[x]⟩, 0) = (n.toNat, (s', 0)) ∧ s'.data.toList = r.data.toList ++ [x] := rNum_fwd (by omega) hs
  obtain ⟨s2, e5, e6⟩ : ∃ s', rByt (e1, 0) 32 = (r, (s', 0)) ∧ s'.data.toList = [x] := rByt_fwd h2 e4
  have a1 : hrdA (headB n r ++ ⟨#[x]⟩) = (n.toNat, (e1, 0)) := e3
  have a2 : hrdB (headB n r ++ ⟨#[x]⟩) = (r, (s2, 0)) := by unfold hrdB; rw [a1]; exact e5
  have hz : s2.size = 1 := by rw [← toList_length, e6]; rfl
  unfold hreadF
  rw [a2]
  rw [if_pos (.inr (by show 0 < s2.size; omega))]
theorem read_inv {b : ByteArray} (h : (hreadF b).2 = 0) : goodH (hreadF b).1.1 (hreadF b).1.2 = 0 ∧ headB (hreadF b).1.1 (hreadF b).1.2 = b := by
  unfold hreadF at h ⊢
  by_cases c : (hrdB b).2.2 ≠ 0 ∨ 0 < (hrdB b).2.1.size
  · rw [if_pos c] at h; exact absurd h (by decide)
  · rw [if_neg c] at h ⊢
    by_cases g : goodH (hrdA b).1 (hrdB b).1 ≠ 0
    · rw [if_pos g] at h; exact absurd h g
    · rw [if_neg g]
      refine ⟨by simpa using g, ?_⟩
      have hb2 : (hrdB b).2.2 = 0 := by have := c; simp only [not_or] at this; simpa using this.1
      have hz : (hrdB b).2.1.size = 0 := by have := c; simp only [not_or] at this; omega
      have ha2 : (hrdA b).2.2 = 0 := rByt_ok (st := (hrdA b).2) (n := 32) hb2
      have ea : hrdA b = ((hrdA b).1, ((hrdA b).2.1, 0)) := by rw [← ha2]
      have k1 := rNum_bwd (s := b) ha2
      have e2 : rByt ((hrdA b).2.1, 0) 32 = hrdB b := by unfold hrdB; rw [← ha2]
      have k2 := rByt_bwd (s := (hrdA b).2.1) (by rw [e2]; exact hb2)
      rw [e2] at k2
      refine bs_ext ?_
      show enc ((((hrdA b).1 : Nat) : Int)).toNat ++ (hrdB b).1.data.toList = b.data.toList
      rw [Int.toNat_natCast]
      have k3 : b.data.toList = enc (hrdA b).1 ++ (hrdA b).2.1.data.toList := k1.1
      have k4 : (hrdB b).2.1.data.toList = [] := by
        apply List.eq_nil_of_length_eq_zero; rw [toList_length]; exact hz
      rw [k3, k2.1, k4, List.append_nil]
theorem read_bad {b : ByteArray} (h : (hreadF b).2 ≠ 0) : (hreadF b).1 = (0, noB) := by
  unfold hreadF at h ⊢
  by_cases c : (hrdB b).2.2 ≠ 0 ∨ 0 < (hrdB b).2.1.size
  · rw [if_pos c]
  · rw [if_neg c] at h ⊢
    by_cases g : goodH (hrdA b).1 (hrdB b).1 ≠ 0
    · rw [if_pos g]
    · rw [if_neg g] at h; exact absurd rfl h
theorem headB_inj {n m : Int} {r s : ByteArray} (h : goodH n r = 0) (g : goodH m s = 0) (e : headB n r = headB m s) : n = m ∧ r = s := by
  have a := read_text h
  have b := read_text g
  rw [e, b] at a
  simp only [Prod.mk.injEq] at a
  exact ⟨a.1.1.symm, a.1.2.symm⟩
end Go.Proofs.YtmacceamebdelaaDoor
/-! Head1 -/
namespace Go.Proofs.YtmacceamebdelaaDoor
open Go.RowKit
set_option linter.unusedVariables false
set_option linter.unusedSimpArgs false

theorem goodH_1 {n : Int} {r : ByteArray} (h : n < 0 ∨ 200 < n) : goodH n r = 3 := by unfold goodH; rw [if_pos h]
theorem goodH_2 {n : Int} {r : ByteArray} (h : ¬ (n < 0 ∨ 200 < n)) (h2 : r.size ≠ 32) : goodH n r = 2 := by unfold goodH; rw [if_neg h, if_pos h2]
theorem goodH_3 {n : Int} {r : ByteArray} (h : ¬ (n < 0 ∨ 200 < n)) (h2 : r.size = 32) : goodH n r = 0 := by unfold goodH; rw [if_neg h, if_neg (by omega)]
theorem head_cells {w : World} {n : Nat} {a b : Value} (h : w.heap[n]? = some (.cells #[a, b] 28 (0, 0))) :
    w.cell? ⟨n, 0, none⟩ = some a ∧ w.cell? ⟨n, 1, none⟩ = some b ∧ w.frozen? ⟨n, 0, none⟩ = false ∧ w.frozen? ⟨n, 1, none⟩ = false := by
  simp [World.cell?, World.frozen?, h]
set_option maxRecDepth 100000 in
set_option maxHeartbeats 3200000 in
theorem goodHead_any (n : Int) (r : ByteArray) (w : World) :
    Calls Tryd.prog 23 #[.agg #[.int .i64 n, .string r]] w fun e w' => e = .returned (.int .i64 (goodH n r)) ∧ Below w.heap.size w w' := by
  obtain ⟨F, hF⟩ : ∃ F, F = goodH n r := ⟨_, rfl⟩
  rw [← hF]
  have HF := Lib.hid hF
  have HW0 := Lib.hid ((Below.refl w.heap.size w).alloc (Nat.le_refl _) (.cells #[.int .i64 n, .string r] 28))
  clear hF
  by_cases h0 : n < 0
  · have f0 : decide (n < 0) = true := decide_eq_true h0
    have hF := HF.out.trans (goodH_1 (.inl h0))
    subst hF
    go_enter Tryd.func23, Tryd.ntmps23
    go_wp2_with fail
    go_ret
    exact ⟨rfl, HW0.out⟩
  · have f0 : decide (n < 0) = false := decide_eq_false h0
    by_cases h1 : 200 < n
    · have f1 : decide (200 < n) = true := decide_eq_true h1
      have hF := HF.out.trans (goodH_1 (.inr h1))
      subst hF
      go_enter Tryd.func23, Tryd.ntmps23
      go_wp2_with fail
      go_ret
      exact ⟨rfl, HW0.out⟩
    · have f1 : decide (200 < n) = false := decide_eq_false h1
      by_cases h2 : r.size = 32
      · have f2 : ((r.size : Int) == 32) = true := by rw [h2]; rfl
        have f3 : ((r.size : Int) != 32) = false := by rw [bne, f2]; rfl
        have hF := HF.out.trans (goodH_3 (by omega) h2)
        subst hF
        clear h2
        go_enter Tryd.func23, Tryd.ntmps23
        go_wp2_with fail
        go_ret
        exact ⟨rfl, HW0.out⟩
      · have f2 : ((r.size : Int) == 32) = false := beq_eq_false_iff_ne.2 (by omega)
        have f3 : ((r.size : Int) != 32) = true := by rw [bne, f2]; rfl
        have hF := HF.out.trans (goodH_2 (by omega) h2)
        subst hF
        go_enter Tryd.func23, Tryd.ntmps23
        go_wp2_with fail
        go_ret
        exact ⟨rfl, HW0.out⟩
theorem textF_bad {n : Int} {r : ByteArray} (h : goodH n r ≠ 0) : textF n r = (noB, goodH n r) := by unfold textF; rw [if_pos h]
set_option maxRecDepth 100000 in
set_option maxHeartbeats 3200000 in
theorem textHead_any (n : Int) (r : ByteArray) (w : World) :
    Calls Tryd.prog 13 #[.agg #[.int .i64 n, .string r]] w fun e w' => e = .returned (.tuple #[.string (textF n r).1, .int .i64 (textF n r).2]) ∧ Below w.heap.size w w' := by
  obtain ⟨F, hF⟩ : ∃ F, F = textF n r := ⟨_, rfl⟩
  rw [← hF]
  have HF := Lib.hid hF
  obtain ⟨W, hW⟩ : ∃ W, w.alloc (.cells #[.int .i64 n, .string r] 28) = W := ⟨_, rfl⟩
  have hg0 : W.heap[w.heap.size]? = some (.cells #[.int .i64 n, .string r] 28 (0, 0)) := by rw [← hW]; exact heap_alloc_new _ _
  have HG := Lib.hid (fun wr (h : Below W.heap.size W wr) => blk_below hg0 h)
  have HW0 := Lib.hid (show Below w.heap.size w W by rw [← hW]; exact (Below.refl _ _).alloc (Nat.le_refl _) _)
  obtain ⟨c0, c1, _, _⟩ := head_cells hg0
  clear hF hg0
  have hgd := goodHead_any n r W
  obtain ⟨ge, hge⟩ : ∃ ge, ge = goodH n r := ⟨_, rfl⟩
  rw [← hge] at hgd
  have HGE := Lib.hid hge
  clear hge
  go_enter Tryd.func13, Tryd.ntmps13
  go_wp2_with fail
  (with_reducible refine hgd.mono ?_)
  rintro e w0 ⟨rfl, hb⟩
  have HB0 := Lib.hid hb
  clear hb hgd c0 c1 hW
  by_cases hz : ge = 0
  · subst hz
    have hF := HF.out.trans (textF_ok HGE.out.symm)
    subst hF
    obtain ⟨E, hE⟩ : ∃ E, E = enc n.toNat ++ r.data.toList := ⟨_, rfl⟩
    have HBD := Lib.hid (goodH_ok HGE.out.symm)
    have hn0 : 0 ≤ n := HBD.out.1
    have hn1 : n ≤ 200 := HBD.out.2.1
    have HBIG := Lib.hid (show E.length ≤ 4000 by rw [hE, List.length_append, toList_length, HBD.out.2.2]; have := enc_len9 n.toNat (by omega); omega)
    have HE2 := Lib.hid (show E = [] ++ (enc n.toNat ++ (r.data.toList ++ [])) by rw [List.append_nil]; exact hE)
    have HHB := Lib.hid (show headB n r = ⟨E.toArray⟩ by rw [hE]; rfl)
    obtain ⟨w1, hw1⟩ : ∃ w1, w1 = w0 := ⟨_, rfl⟩
    obtain ⟨X, hX⟩ : ∃ X, w0.alloc (.cells #[.slice none 0 0, .int .i64 0] 71) = X := ⟨_, rfl⟩
    have hbx : Below w0.heap.size w0 X := by rw [← hX]; exact (Below.refl _ _).alloc (Nat.le_refl _) _
    have HB2 := Lib.hid (HB0.out.trans (hbx.mono HB0.out.size))
    have HBG := Lib.hid HB0.out.size
    have HS2 := Lib.hid (show WrSt X W.heap.size w0.heap.size (.slice none 0 0) [] 0 from ⟨by rw [← hX]; exact heap_alloc_new _ _, World.ownsRow_nil _ _ _ _, by simp [Value.ownBlock], HB2.out.size⟩)
    clear hE hbx hw1
    have HWGE := Lib.hid hX
    obtain ⟨c0, c1, _, _⟩ := head_cells (HG.out _ HB2.out)
    have HC3 := Lib.hid (wNumber_good HS2.out (n) (by omega) (by omega) (by have h := HBIG.out; rw [HE2.out, List.length_append] at h; omega))
    go_wp2_with fail
    (with_reducible refine HC3.out.mono ?_)
    rintro e w3 hto
    obtain ⟨rfl, v3, hs3, hb3, hx3⟩ := hto.use HBG.out HS2.out
    have HB3 := Lib.hid (HB2.out.trans hb3)
    have HS3 := Lib.hid hs3
    have HX3 := Lib.hid hx3
    have HE3 := Lib.hid (HE2.out.trans (List.append_assoc _ _ _).symm)
    clear hs3 hb3 hx3 HC3 hto
    clear c0 c1
    obtain ⟨c0, c1, _, _⟩ := head_cells (HG.out _ HB3.out)
    have HC4 := Lib.hid (wBytes_good HS3.out r (by have h := HBIG.out; rw [HE3.out, List.length_append] at h; have := HBD.out.2.2; omega))
    go_wp2_with fail
    (with_reducible refine HC4.out.mono ?_)
    rintro e w4 hto
    obtain ⟨rfl, v4, hs4, hb4, hx4⟩ := hto.use HBG.out HS3.out
    have HB4 := Lib.hid (HB3.out.trans hb4)
    have HS4 := Lib.hid hs4
    have HX4 := Lib.hid hx4
    have HE4 := Lib.hid (HE3.out.trans (List.append_assoc _ _ _).symm)
    clear hs4 hb4 hx4 HC4 hto
    clear c0 c1
    obtain ⟨c0, c1, _, _⟩ := head_cells (HG.out _ HB4.out)
    have HEE := Lib.hid (HE4.out.trans (List.append_nil _))
    have hfin := HS4.out
    rw [← HEE.out] at hfin
    have HDN := Lib.hid (wDone_any (st := (E, 0)) hfin)
    rw [show doneV (E, (0 : Int)) = .tuple #[.string ⟨E.toArray⟩, .int .i64 0] from rfl] at HDN
    obtain ⟨z, hz⟩ : ∃ z : ByteArray, z = ⟨E.toArray⟩ := ⟨_, rfl⟩
    rw [← hz] at HDN
    have HZ := Lib.hid hz
    clear hfin hz
    go_wp2_with fail
    (with_reducible refine HDN.out.mono ?_)
    rintro e wd ⟨rfl, q, rfl⟩
    have HBE := Lib.hid (HW0.out.trans ((below_drewN HB4.out q).mono HW0.out.size))
    go_wp2_with fail
    go_ret2
    exact ⟨by rw [HHB.out, ← HZ.out]; rfl, HBE.out⟩
  · have n1 : (ge == 0) = false := beq_eq_false_iff_ne.2 hz
    have n2 : (ge != 0) = true := by rw [bne, n1]; rfl
    have hF := HF.out.trans (textF_bad (by rw [← HGE.out]; exact hz))
    rw [← HGE.out] at hF
    subst hF
    clear hz
    go_wp2_with fail
    go_ret2
    exact ⟨rfl, HW0.out.trans (HB0.out.mono HW0.out.size)⟩
theorem readF_e {b : ByteArray} (h : (hrdB b).2.2 ≠ 0) : hreadF b = ((0, noB), 2) := by unfold hreadF; rw [if_pos (.inl h)]
theorem readF_l {b : ByteArray} (h : 0 < (hrdB b).2.1.size) : hreadF b = ((0, noB), 2) := by unfold hreadF; rw [if_pos (.inr h)]
theorem readF_g {b : ByteArray} (h : (hrdB b).2.2 = 0) (h1 : (hrdB b).2.1.size = 0) : hreadF b = if goodH (hrdA b).1 (hrdB b).1 ≠ 0 then ((0, noB), goodH (hrdA b).1 (hrdB b).1) else ((((hrdA b).1 : Int), (hrdB b).1), 0) := by
  unfold hreadF; rw [if_neg (by rw [h, h1]; simp)]
theorem rByt_le' (x : ByteArray × Int) (n : Int) : (rByt x n).2.1.size ≤ x.1.size := by
  unfold rByt
  split
  · exact Nat.le_refl _
  · split
    · exact Nat.le_refl _
    · simp only [ByteArray.size_extract]; omega
theorem rNum_le' (x : ByteArray × Int) : (rNum x).2.1.size ≤ x.1.size := by
  unfold rNum
  split
  · exact Nat.le_refl _
  · split
    · exact Nat.le_refl _
    · simp only [ByteArray.size_extract]; omega
set_option maxRecDepth 100000 in
set_option maxHeartbeats 3200000 in
theorem readHead_any (b : ByteArray) (w : World) (hs : b.size ≤ 9223372036854775807) (hs2 : b.size ≤ 4611686018427387904) :
    Calls Tryd.prog 21 #[.string b] w fun e w' => e = .returned (.tuple #[.agg #[.int .i64 (hreadF b).1.1, .string (hreadF b).1.2], .int .i64 (hreadF b).2]) ∧ Below w.heap.size w w' := by
  obtain ⟨F, hF⟩ : ∃ F, F = hreadF b := ⟨_, rfl⟩
  rw [← hF]
  have HF := Lib.hid hF
  clear hF
  obtain ⟨W, hW⟩ : ∃ W, w.alloc (.cells #[.int .i64 0, .string ⟨#[]⟩] 28) = W := ⟨_, rfl⟩
  have gR0 : W.heap[w.heap.size]? = some (.cells #[.int .i64 0, .string ⟨#[]⟩] 28 (0, 0)) := by rw [← hW]; exact heap_alloc_new _ _
  have hb1 : Below w.heap.size w W := by rw [← hW]; exact (Below.refl _ _).alloc (Nat.le_refl _) _
  have HW0 := Lib.hid hb1
  have HGR := Lib.hid (fun wr (h : Below W.heap.size W wr) => blk_below gR0 h)
  have HRDA := Lib.hid (read_any b W)
  clear hb1 gR0
  go_enter Tryd.func21, Tryd.ntmps21
  go_wp2_with fail
  (with_reducible refine HRDA.out.mono ?_)
  rintro e w1 ⟨rfl, hr1, hb1, hz1⟩
  have HB1 := Lib.hid hb1
  have HN1 := Lib.hid (rNumber_any hr1 (by show b.size ≤ _; unfold maxLen; omega))
  have hle1 := rNum_le' (b, 0)
  obtain ⟨⟨K, st1⟩, hq1⟩ : ∃ q, q = hrdA b := ⟨_, rfl⟩
  rw [show rNum (b, 0) = hrdA b from rfl, ← hq1] at HN1 hle1
  have HQ1 := Lib.hid hq1
  have hle2 := rByt_le' st1 32
  obtain ⟨⟨R, st2⟩, hq2⟩ : ∃ q, q = hrdB b := ⟨_, rfl⟩
  have hq3 : rByt st1 32 = (R, st2) := by rw [hq2]; unfold hrdB; rw [← hq1]
  rw [hq3] at hle2
  obtain ⟨sb, er⟩ := st2
  have HQ2 := Lib.hid hq2
  have HQ3 := Lib.hid hq3
  have HLE := Lib.hid (show st1.1.size ≤ 4611686018427387904 from Nat.le_trans hle1 hs2)
  have HSB := Lib.hid (show sb.size ≤ 9223372036854775807 from Nat.le_trans hle2 (Nat.le_trans hle1 (by show b.size ≤ _; omega)))
  obtain ⟨g, hgd⟩ : ∃ g, W.heap.size = g := ⟨_, rfl⟩
  rw [hgd] at HN1 hr1 hz1 ⊢
  clear hW hr1 hq1 hq2 hq3 hle1 hle2 HRDA hb1
  go_wp2_with fail
  (with_reducible refine HN1.out.mono ?_)
  rintro e w2 ⟨rfl, hr2, hu2⟩
  have HB2 := Lib.hid (HB1.out.trans (hu2.below (by omega) (fun k hk => by omega)))
  have hby := rBytes_any hr2 HLE.out 32
  rw [HQ3.out] at hby
  have HBY := Lib.hid hby
  clear hu2 hby
  go_wp2_with fail
  (with_reducible refine HBY.out.mono ?_)
  rintro e w3 ⟨rfl, hr3, hu3⟩
  have HB3 := Lib.hid (HB2.out.trans (hu3.below (by have := HB2.out.size; omega) (fun k hk => by omega)))
  clear hu3 hr2
  have hbx : Below w3.heap.size w3 (w3.alloc (.cells #[.int .i64 (K : Int), .string R] 28)) := (Below.refl _ _).alloc (Nat.le_refl _) _
  have hgx : (w3.alloc (.cells #[.int .i64 (K : Int), .string R] 28)).heap[w3.heap.size]? = some (.cells #[.int .i64 (K : Int), .string R] 28 (0, 0)) := heap_alloc_new _ _
  have HB4 := Lib.hid (HB3.out.trans (hbx.mono HB3.out.size))
  have hr4 := hr3.below hbx
  have HBD := Lib.hid (rBad_any hr4)
  have HLF := Lib.hid (rLeft_any hr4)
  clear hr3 hbx
  skip
  go_wp2_with fail
  (with_reducible refine HBD.out.mono ?_)
  rintro e w0 ⟨rfl, rfl⟩
  have gx4 := hgx
  have HG4 := Lib.hid hgx
  clear gx4
  obtain ⟨w4, hw4⟩ : ∃ w4, w3.alloc (.cells #[.int .i64 (K : Int), .string R] 28) = w4 := ⟨_, rfl⟩
  rw [hw4] at HB4 HG4 hr4 HLF hgx ⊢
  obtain ⟨x0, x1, _, _⟩ := head_cells hgx
  clear HBD hgx hw4
  by_cases her : er = 0
  · subst her
    by_cases hl : 0 < sb.size
    · have hF : F = ((0, noB), 2) := by rw [HF.out]; exact readF_l (by rw [← HQ2.out]; exact hl)
      subst hF
      have h1 : decide ((0 : Int) < (sb.size : Int)) = true := decide_eq_true (by omega)
      have h2 : decide (0 < sb.size) = true := decide_eq_true hl
      clear hl
      go_wp2_with fail
      (with_reducible refine HLF.out.mono ?_)
      rintro e w0 ⟨rfl, rfl⟩
      have gR := HGR.out _ HB4.out
      go_wp2_with (refine wpList_store_blk (by rfl) 28 (.tmp 2) (.tmp 22) rfl w.heap.size #[.int .i64 0, .string ⟨#[]⟩] rfl rfl (old := _) gR (by kernel_rfl) rfl (by simp [Value.oneCell']) ?_; intro wz gz uz)
      obtain ⟨r0, r1, _, _⟩ := head_cells gz
      refine bodyPost_ret (v := .tuple #[.agg #[.int .i64 0, .string ⟨#[]⟩], .int .i64 (2)]) ?_ rfl ⟨rfl, below_upd (HW0.out.trans (HB4.out.mono HW0.out.size)) uz (Nat.le_refl _) (by have := HW0.out.size; have := HB4.out.size; omega)⟩
      simp [results, Tryd.f21, go_sem, r0, r1]
    · have hF := HF.out.trans (readF_g (by rw [← HQ2.out]) (by rw [← HQ2.out]; show sb.size = 0; omega))
      have h1 : decide ((0 : Int) < (sb.size : Int)) = false := decide_eq_false (by omega)
      have h2 : decide (0 < sb.size) = false := decide_eq_false hl
      rw [← HQ2.out, ← HQ1.out] at hF
      have hgd := goodHead_any (K : Int) R w4
      obtain ⟨ge, hge⟩ : ∃ ge, ge = goodH (K : Int) R := ⟨_, rfl⟩
      simp only at hF
      rw [← hge] at hgd hF
      have HFG := Lib.hid hF
      clear hl hge hF
      go_wp2_with fail
      (with_reducible refine HLF.out.mono ?_)
      rintro e w0 ⟨rfl, rfl⟩
      go_wp2_with fail
      (with_reducible refine hgd.mono ?_)
      rintro e w5 ⟨rfl, hb⟩
      have HB5 := Lib.hid (HB4.out.trans (hb.mono HB4.out.size))
      have HG5 := Lib.hid (blk_below HG4.out hb)
      clear hb hgd x0 x1
      by_cases hz : ge = 0
      · have hF := HFG.out.trans (if_neg (by simpa using hz))
        subst hF hz
        obtain ⟨x0, x1, _, _⟩ := head_cells HG5.out
        have gR := HGR.out _ HB5.out
        go_wp2_with (refine wpList_store_blk (by rfl) 28 (.tmp 2) (.tmp 29) rfl w.heap.size #[.int .i64 (K : Int), .string R] rfl rfl (old := _) gR (by kernel_rfl) rfl (by simp [Value.oneCell']) ?_; intro wz gz uz)
        obtain ⟨r0, r1, _, _⟩ := head_cells gz
        refine bodyPost_ret (v := .tuple #[.agg #[.int .i64 (K : Int), .string R], .int .i64 (0)]) ?_ rfl ⟨rfl, below_upd (HW0.out.trans (HB5.out.mono HW0.out.size)) uz (Nat.le_refl _) (by have := HW0.out.size; have := HB5.out.size; omega)⟩
        simp [results, Tryd.f21, go_sem, r0, r1]
      · have hF := HFG.out.trans (if_pos hz)
        subst hF
        have n1 : (ge == 0) = false := beq_eq_false_iff_ne.2 hz
        have n2 : (ge != 0) = true := by rw [bne, n1]; rfl
        clear hz
        have gR := HGR.out _ HB5.out
        go_wp2_with (refine wpList_store_blk (by rfl) 28 (.tmp 2) (.tmp 27) rfl w.heap.size #[.int .i64 0, .string ⟨#[]⟩] rfl rfl (old := _) gR (by kernel_rfl) rfl (by simp [Value.oneCell']) ?_; intro wz gz uz)
        obtain ⟨r0, r1, _, _⟩ := head_cells gz
        refine bodyPost_ret (v := .tuple #[.agg #[.int .i64 0, .string ⟨#[]⟩], .int .i64 (ge)]) ?_ rfl ⟨rfl, below_upd (HW0.out.trans (HB5.out.mono HW0.out.size)) uz (Nat.le_refl _) (by have := HW0.out.size; have := HB5.out.size; omega)⟩
        simp [results, Tryd.f21, go_sem, r0, r1]
  · have h1 : (er == 0) = false := beq_eq_false_iff_ne.2 her
    have h2 : (er != 0) = true := by rw [bne, h1]; rfl
    have hF : F = ((0, noB), 2) := by rw [HF.out]; exact readF_e (by rw [← HQ2.out]; exact her)
    subst hF
    clear her
    have gR := HGR.out _ HB4.out
    go_wp2_with (refine wpList_store_blk (by rfl) 28 (.tmp 2) (.tmp 22) rfl w.heap.size #[.int .i64 0, .string ⟨#[]⟩] rfl rfl (old := _) gR (by kernel_rfl) rfl (by simp [Value.oneCell']) ?_; intro wz gz uz)
    obtain ⟨r0, r1, _, _⟩ := head_cells gz
    refine bodyPost_ret (v := .tuple #[.agg #[.int .i64 0, .string ⟨#[]⟩], .int .i64 (2)]) ?_ rfl ⟨rfl, below_upd (HW0.out.trans (HB4.out.mono HW0.out.size)) uz (Nat.le_refl _) (by have := HW0.out.size; have := HB4.out.size; omega)⟩
    simp [results, Tryd.f21, go_sem, r0, r1]
end Go.Proofs.YtmacceamebdelaaDoor
/-! HeadLaw2 -/
namespace Go.Proofs.YtmacceamebdelaaDoor
set_option linter.unusedVariables false
set_option linter.unusedSimpArgs false

def encB (s : Stp) : ByteArray := ⟨(encS s).toArray⟩
def leavesG : List Stp → List ByteArray → List ByteArray × Int
  | [], acc => (acc, 0)
  | s :: r, acc => if goodS s ≠ 0 then ([], goodS s) else leavesG r (acc ++ [encB s])
def leavesF (l : List Stp) : List ByteArray × Int := leavesG l []
def ofF (l : List Stp) : (Int × ByteArray) × Int :=
  if 200 < l.length then ((0, noB), 6) else if (leavesF l).2 ≠ 0 then ((0, noB), (leavesF l).2) else ((l.length, rootF (leavesF l).1), 0)
theorem leavesG_ok : ∀ (l : List Stp) (acc : List ByteArray), (leavesG l acc).2 = 0 → (∀ s ∈ l, goodS s = 0) ∧ leavesG l acc = (acc ++ l.map encB, 0)
  | [], acc, _ => ⟨(fun _ h => by cases h), (by simp [leavesG])⟩
  | s :: r, acc, h => by
    unfold leavesG at h ⊢
    by_cases g : goodS s ≠ 0
    · rw [if_pos g] at h; exact absurd h g
    · rw [if_neg g] at h ⊢
      obtain ⟨h1, h2⟩ := leavesG_ok r _ h
      refine ⟨fun t ht => ?_, by rw [h2]; simp⟩
      rcases List.mem_cons.1 ht with rfl | ht
      · simpa using g
      · exact h1 t ht
theorem leavesG_of : ∀ (l : List Stp) (acc : List ByteArray), (∀ s ∈ l, goodS s = 0) → leavesG l acc = (acc ++ l.map encB, 0)
  | [], acc, _ => by simp [leavesG]
  | s :: r, acc, h => by
    unfold leavesG
    rw [if_neg (by have := h s (by simp); simpa using this), leavesG_of r _ (fun t ht => h t (by simp [ht]))]
    simp
theorem leavesG_bad : ∀ (l : List Stp) (acc : List ByteArray), (leavesG l acc).2 ≠ 0 → (leavesG l acc).1 = []
  | [], acc, h => absurd rfl h
  | s :: r, acc, h => by
    unfold leavesG at h ⊢
    by_cases g : goodS s ≠ 0
    · rw [if_pos g]
    · rw [if_neg g] at h ⊢
      exact leavesG_bad r _ h
theorem leavesF_ok {l : List Stp} (h : (leavesF l).2 = 0) : (∀ s ∈ l, goodS s = 0) ∧ leavesF l = (l.map encB, 0) := by
  obtain ⟨h1, h2⟩ := leavesG_ok l [] h
  exact ⟨h1, by unfold leavesF; rw [h2]; simp⟩
theorem leavesF_of {l : List Stp} (h : ∀ s ∈ l, goodS s = 0) : leavesF l = (l.map encB, 0) := by
  unfold leavesF; rw [leavesG_of l [] h]; simp
theorem ofF_ok {l : List Stp} (h : (ofF l).2 = 0) : l.length ≤ 200 ∧ (∀ s ∈ l, goodS s = 0) ∧ ofF l = (((l.length : Int), rootF (l.map encB)), 0) := by
  unfold ofF at h ⊢
  by_cases c : 200 < l.length
  · rw [if_pos c] at h; exact absurd h (by decide)
  · rw [if_neg c] at h ⊢
    by_cases g : (leavesF l).2 ≠ 0
    · rw [if_pos g] at h; exact absurd h g
    · rw [if_neg g]
      obtain ⟨h1, h2⟩ := leavesF_ok (l := l) (by simpa using g)
      exact ⟨by omega, h1, by rw [h2]⟩
theorem ofF_of {l : List Stp} (h : l.length ≤ 200) (h1 : ∀ s ∈ l, goodS s = 0) : ofF l = (((l.length : Int), rootF (l.map encB)), 0) := by
  unfold ofF
  rw [if_neg (by omega), leavesF_of h1, if_neg (by simp)]
theorem ofF_bad {l : List Stp} (h : (ofF l).2 ≠ 0) : (ofF l).1 = (0, noB) := by
  unfold ofF at h ⊢
  by_cases c : 200 < l.length
  · rw [if_pos c]
  · rw [if_neg c] at h ⊢
    by_cases g : (leavesF l).2 ≠ 0
    · rw [if_pos g]
    · rw [if_neg g] at h; exact absurd rfl h
end Go.Proofs.YtmacceamebdelaaDoor
/-! Head2 -/
namespace Go.Proofs.YtmacceamebdelaaDoor
open Go.RowKit
set_option linter.unusedVariables false
set_option linter.unusedSimpArgs false

theorem leavesG_cons_bad {s : Stp} {r : List Stp} {acc : List ByteArray} (h : goodS s ≠ 0) : leavesG (s :: r) acc = ([], goodS s) := by unfold leavesG; rw [if_pos h]
theorem leavesG_cons {s : Stp} {r : List Stp} {acc : List ByteArray} (h : goodS s = 0) : leavesG (s :: r) acc = leavesG r (acc ++ [encB s]) := by rw [leavesG, if_neg (by simpa using h)]
theorem drop_getD {α : Type} (l : List α) (k : Nat) (d : α) (h : k < l.length) : l.drop k = l.getD k d :: l.drop (k + 1) := by
  rw [List.drop_eq_getElem_cons h, List.getD, List.getElem?_eq_getElem h]; rfl
def RetL (w : World) (r : List ByteArray × Int) (e : Ending) (w' : World) : Prop := ∃ v, e = .returned (.tuple #[v, .int .i64 r.2]) ∧ w'.ownsRow w.heap.size 9 1 v r.1.length (svs r.1) ∧ Below w.heap.size w w'
theorem ofF_1 {l : List Stp} (h : 200 < l.length) : ofF l = ((0, noB), 6) := by unfold ofF; rw [if_pos h]
theorem ofF_2 {l : List Stp} (h : ¬ 200 < l.length) (h2 : (leavesF l).2 ≠ 0) : ofF l = ((0, noB), (leavesF l).2) := by unfold ofF; rw [if_neg h, if_pos h2]
theorem ofF_3 {l : List Stp} (h : ¬ 200 < l.length) (h2 : (leavesF l).2 = 0) : ofF l = (((l.length : Int), rootF (leavesF l).1), 0) := by unfold ofF; rw [if_neg h, if_neg (by simpa using h2)]
theorem leaves_smalls {l : List Stp} (h : (leavesF l).2 = 0) : smalls (leavesF l).1 := by
  obtain ⟨h1, h2⟩ := leavesF_ok h
  rw [h2]
  intro x hx
  obtain ⟨s, hs, rfl⟩ := List.mem_map.1 hx
  show (encS s).toArray.size ≤ _
  rw [List.size_toArray]
  have := encS_length (h1 s hs)
  omega
theorem leaves_len {l : List Stp} (h : (leavesF l).2 = 0) : (leavesF l).1.length = l.length := by
  obtain ⟨h1, h2⟩ := leavesF_ok h
  rw [h2]; simp
set_option maxRecDepth 100000 in
set_option maxHeartbeats 3200000 in
theorem emptyHd_any (w : World) (ht : Tab w) :
    Calls Tryd.prog 11 #[] w fun e w' => e = .returned (.agg #[.int .i64 0, .string (rootF [])]) ∧ Below w.heap.size w w' := by
  obtain ⟨W, hW⟩ : ∃ W, w.alloc (.cells #[.int .i64 0, .string ⟨#[]⟩] 28) = W := ⟨_, rfl⟩
  have gR0 : W.heap[w.heap.size]? = some (.cells #[.int .i64 0, .string ⟨#[]⟩] 28 (0, 0)) := by rw [← hW]; exact heap_alloc_new _ _
  have hb1 : Below w.heap.size w W := by rw [← hW]; exact (Below.refl _ _).alloc (Nat.le_refl _) _
  have HW0 := Lib.hid hb1
  have HGR := Lib.hid (fun wr (h : Below W.heap.size W wr) => blk_below gR0 h)
  have hro := root_any 0 [] (.slice none 0 0) W (Nat.le_refl _) (by omega) (rdS_nil0 _) (fun _ h => by cases h) (ht.below hb1)
  clear hb1 gR0 ht
  go_enter Tryd.func11, Tryd.ntmps11
  go_wp2_with fail
  (with_reducible refine hro.mono ?_)
  rintro e w1 ⟨rfl, hb⟩
  have HB1 := Lib.hid hb
  clear hb hro
  have gR := HGR.out _ HB1.out
  go_wp2_with (refine wpList_store_blk (by rfl) 28 (.tmp 0) (.tmp 2) rfl w.heap.size #[.int .i64 0, .string (rootF [])] rfl rfl (old := _) gR (by kernel_rfl) rfl (by simp [Value.oneCell']) ?_; intro wz gz uz)
  obtain ⟨r0, r1, _, _⟩ := head_cells gz
  refine bodyPost_ret (v := .agg #[.int .i64 0, .string (rootF [])]) ?_ rfl ⟨rfl, below_upd (HW0.out.trans (HB1.out.mono HW0.out.size)) uz (Nat.le_refl _) (by have := HW0.out.size; have := HB1.out.size; omega)⟩
  simp [results, Tryd.f11, go_sem, r0, r1]
end Go.Proofs.YtmacceamebdelaaDoor
/-! Head3 -/
namespace Go.Proofs.YtmacceamebdelaaDoor
open Go.RowKit
set_option linter.unusedVariables false
set_option linter.unusedSimpArgs false

theorem of_nil : ofF [] = ((0, rootF []), 0) := rfl
theorem good_nil : goodH 0 (rootF []) = 0 := goodH_of (by decide) (by decide) (root32 _)
theorem headB_nil : (headB 0 (rootF [])).size = 33 := by
  rw [← toList_length, headB, toList_mk, List.length_append, toList_length, root32, show enc (Int.toNat 0) = [0] from enc_small 0 (by decide)]; rfl
end Go.Proofs.YtmacceamebdelaaDoor
