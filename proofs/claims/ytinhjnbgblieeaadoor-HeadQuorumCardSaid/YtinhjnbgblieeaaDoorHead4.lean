/- The walk of package head's Mark. -/
import Derived.Test.YtinhjnbgblieeaaDoorHeadLaw3
import Derived.Test.YtinhjnbgblieeaaDoorHdA
import Derived.Test.YtinhjnbgblieeaaDoorBas
import Derived.Test.YtinhjnbgblieeaaDoorSha
namespace Go.Proofs.YtinhjnbgblieeaaDoor
open Go.RowKit
set_option linter.unusedVariables false
set_option linter.unusedSimpArgs false

theorem mark_cells {w : World} {n : Nat} {a b : Value} (h : w.heap[n]? = some (.cells #[a, b] 47 (0, 0))) :
    w.cell? ⟨n, 0, none⟩ = some a ∧ w.cell? ⟨n, 1, none⟩ = some b ∧ w.frozen? ⟨n, 0, none⟩ = false ∧ w.frozen? ⟨n, 1, none⟩ = false := by
  simp [World.cell?, World.frozen?, h]
def mkC (p : Int × ByteArray) : List Value := [.int .i64 p.1, .string p.2]
theorem mkC_len (p : Int × ByteArray) : (mkC p).length = 2 := rfl
theorem mkC_one (p : Int × ByteArray) : ∀ y ∈ mkC p, y.oneCell' = true := by
  intro y hy
  simp [mkC] at hy
  rcases hy with rfl | rfl <;> rfl
section
variable {sl : ByteArray → ByteArray → ByteArray} {who n : Int} {key r : ByteArray}
theorem markF_1 (h : goodH n r ≠ 0) : markF sl who key n r = ((0, noB), goodH n r) := by unfold markF; rw [textF_bad h, if_pos h]
theorem markF_2 (h : goodH n r = 0) (h2 : who < 0 ∨ 4 ≤ who) : markF sl who key n r = ((0, noB), 3) := by unfold markF; rw [textF_ok h, if_neg (by simp), if_pos h2]
theorem markF_3 (h : goodH n r = 0) (h2 : ¬ (who < 0 ∨ 4 ≤ who)) : markF sl who key n r = ((who, sl key (headW ++ headB n r)), 0) := by unfold markF; rw [textF_ok h, if_neg (by simp), if_neg h2]
end
set_option maxRecDepth 100000 in
set_option maxHeartbeats 3200000 in
theorem markHd_any (who : Int) (key : ByteArray) (n : Int) (r : ByteArray) (w : World) (hk : key.size ≤ 140737488355328) (ht : Tab w) :
    Calls Tryd.prog 20 #[.int .i64 who, .string key, .agg #[.int .i64 n, .string r]] w fun e w' => e = .returned (.tuple #[.agg #[.int .i64 (markF sealF who key n r).1.1, .string (markF sealF who key n r).1.2], .int .i64 (markF sealF who key n r).2]) ∧ Below w.heap.size w w' := by
  obtain ⟨F, hF⟩ : ∃ F, F = markF sealF who key n r := ⟨_, rfl⟩
  rw [← hF]
  have HF := Lib.hid hF
  clear hF
  obtain ⟨W, hW⟩ : ∃ W, (w.alloc (.cells #[.int .i64 n, .string r] 41)).alloc (.cells #[.int .i64 0, .string ⟨#[]⟩] 47) = W := ⟨_, rfl⟩
  have hb1 : Below w.heap.size w W := by rw [← hW]; exact ((Below.refl _ _).alloc (Nat.le_refl _) _).alloc (by simp) _
  have gH0 : W.heap[w.heap.size]? = some (.cells #[.int .i64 n, .string r] 41 (0, 0)) := by rw [← hW]; exact heap_old (heap_alloc_new _ _)
  have gR0 : W.heap[w.heap.size + 1]? = some (.cells #[.int .i64 0, .string ⟨#[]⟩] 47 (0, 0)) := by rw [← hW]; exact heap_new (by simp)
  have HW0 := Lib.hid hb1
  have HGR := Lib.hid (fun wr (h : Below W.heap.size W wr) => blk_below gR0 h)
  have HB0 := Lib.hid (Below.refl W.heap.size W)
  obtain ⟨c0, c1, _, _⟩ := head_cells gH0
  have HT := Lib.hid (ht.below hb1)
  have HKS := Lib.hid hk
  have htx := textHead_any n r W
  clear hb1 gR0 gH0 ht hk
  go_enter Tryd.func20, Tryd.ntmps20
  go_wp2_with fail
  (with_reducible refine (htx).mono ?_)
  rintro e w1 ⟨rfl, hb⟩
  have HB1 := Lib.hid (HB0.out.trans (hb.mono HB0.out.size))
  have HL1 := Lib.hid hb
  clear hb
  clear htx hW c0 c1
  by_cases hg : goodH n r = 0
  · have HG := Lib.hid hg
    have HSZ := Lib.hid (headB_size hg)
    rw [textF_ok hg]
    obtain ⟨T, hT⟩ : ∃ T, T = headB n r := ⟨_, rfl⟩
    rw [← hT] at HSZ ⊢
    have HTT := Lib.hid hT
    clear hg hT
    by_cases h0 : who < 0 ∨ 4 ≤ who
    · have hF := HF.out.trans (markF_2 HG.out h0)
      subst hF
      by_cases h1 : who < 0
      · have d0 : decide (who < 0) = true := decide_eq_true h1
        have gR := HGR.out _ HB1.out
        go_wp2_with (refine wpList_store_blk (by rfl) 47 (.tmp 6) (.tmp 25) rfl (w.heap.size + 1) #[.int .i64 0, .string ⟨#[]⟩] rfl rfl (old := _) gR (by kernel_rfl) rfl (by simp [Value.oneCell']) ?_; intro wz gz uz)
        obtain ⟨r0, r1, _, _⟩ := mark_cells gz
        refine bodyPost_ret (v := .tuple #[.agg #[.int .i64 0, .string ⟨#[]⟩], .int .i64 (3)]) ?_ rfl ⟨rfl, below_upd (HW0.out.trans (HB1.out.mono HW0.out.size)) uz (by omega) (by have := HW0.out.size; have := HB1.out.size; omega)⟩
        simp [results, Tryd.f20, go_sem, r0, r1]
      · have d0 : decide (who < 0) = false := decide_eq_false h1
        have d1 : decide (4 ≤ who) = true := decide_eq_true (by omega)
        have gR := HGR.out _ HB1.out
        go_wp2_with (refine wpList_store_blk (by rfl) 47 (.tmp 6) (.tmp 25) rfl (w.heap.size + 1) #[.int .i64 0, .string ⟨#[]⟩] rfl rfl (old := _) gR (by kernel_rfl) rfl (by simp [Value.oneCell']) ?_; intro wz gz uz)
        obtain ⟨r0, r1, _, _⟩ := mark_cells gz
        refine bodyPost_ret (v := .tuple #[.agg #[.int .i64 0, .string ⟨#[]⟩], .int .i64 (3)]) ?_ rfl ⟨rfl, below_upd (HW0.out.trans (HB1.out.mono HW0.out.size)) uz (by omega) (by have := HW0.out.size; have := HB1.out.size; omega)⟩
        simp [results, Tryd.f20, go_sem, r0, r1]
    · have hF := HF.out.trans (markF_3 HG.out h0)
      rw [← HTT.out] at hF
      obtain ⟨Z, hZ⟩ : ∃ Z, Z = sealF key (headW ++ T) := ⟨_, rfl⟩
      rw [← hZ] at hF
      subst hF
      have d0 : decide (who < 0) = false := decide_eq_false (by omega)
      have d1 : decide (4 ≤ who) = false := decide_eq_false (by omega)
      have hts : T.size ≤ 41 := HSZ.out
      have hse := seal_any key (headW ++ T) w1 (by rw [ByteArray.size_append]; have := HSZ.out; have e : headW.size = 4 := rfl; omega) HKS.out (HT.out.below HB1.out)
      rw [← hZ] at hse
      clear h0 hZ
      unfold headW at hse
      go_wp2_with fail
      (with_reducible refine (hse).mono ?_)
      rintro e w2 ⟨rfl, hb⟩
      have HB2 := Lib.hid (HB1.out.trans (hb.mono HB1.out.size))
      have HL2 := Lib.hid hb
      clear hb
      clear hse
      have gR := HGR.out _ HB2.out
      go_wp2_with (refine wpList_store_blk (by rfl) 47 (.tmp 6) (.tmp 31) rfl (w.heap.size + 1) #[.int .i64 who, .string Z] rfl rfl (old := _) gR (by kernel_rfl) rfl (by simp [Value.oneCell']) ?_; intro wz gz uz)
      obtain ⟨r0, r1, _, _⟩ := mark_cells gz
      refine bodyPost_ret (v := .tuple #[.agg #[.int .i64 who, .string Z], .int .i64 (0)]) ?_ rfl ⟨rfl, below_upd (HW0.out.trans (HB2.out.mono HW0.out.size)) uz (by omega) (by have := HW0.out.size; have := HB2.out.size; omega)⟩
      simp [results, Tryd.f20, go_sem, r0, r1]
  · have hF := HF.out.trans (markF_1 hg)
    rw [textF_bad hg]
    obtain ⟨ge, hge⟩ : ∃ ge, ge = goodH n r := ⟨_, rfl⟩
    rw [← hge] at hF hg ⊢
    subst hF
    have n1 : (ge == 0) = false := beq_eq_false_iff_ne.2 hg
    have n2 : (ge != 0) = true := by rw [bne, n1]; rfl
    clear hg hge
    have gR := HGR.out _ HB1.out
    go_wp2_with (refine wpList_store_blk (by rfl) 47 (.tmp 6) (.tmp 17) rfl (w.heap.size + 1) #[.int .i64 0, .string ⟨#[]⟩] rfl rfl (old := _) gR (by kernel_rfl) rfl (by simp [Value.oneCell']) ?_; intro wz gz uz)
    obtain ⟨r0, r1, _, _⟩ := mark_cells gz
    refine bodyPost_ret (v := .tuple #[.agg #[.int .i64 0, .string ⟨#[]⟩], .int .i64 (ge)]) ?_ rfl ⟨rfl, below_upd (HW0.out.trans (HB1.out.mono HW0.out.size)) uz (by omega) (by have := HW0.out.size; have := HB1.out.size; omega)⟩
    simp [results, Tryd.f20, go_sem, r0, r1]
end Go.Proofs.YtinhjnbgblieeaaDoor
