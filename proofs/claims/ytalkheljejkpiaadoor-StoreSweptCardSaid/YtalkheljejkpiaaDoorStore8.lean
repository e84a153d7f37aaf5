/- The walk of package store's Ids. -/
import Derived.Test.YtalkheljejkpiaaDoorOwnK
import Derived.Test.YtalkheljejkpiaaDoorStore5
import Derived.Test.YtalkheljejkpiaaDoorCut
import Derived.Test.YtalkheljejkpiaaDoorSumUnhex
namespace Go.Proofs.YtalkheljejkpiaaDoor
open Go.RowKit
set_option linter.unusedVariables false
set_option linter.unusedSimpArgs false

/-- The id of a file, where it names an object that is there. -/
noncomputable def id1 (d : Dsk) (f : Fil) : List ByteArray := if (cutF f.name).2 = true ∧ unE (cutF f.name).1 = 0 ∧ (getF d (unR (cutF f.name).1)).2 = 0 then [unR (cutF f.name).1] else []
noncomputable def idsG (d : Dsk) (l : List Fil) : List ByteArray := l.flatMap (id1 d)
section
variable {d : Dsk} {f : Fil} {s : ByteArray}
theorem id1_1 (h : cutF f.name = (s, false)) : id1 d f = [] := by unfold id1; rw [h, if_neg (fun k => by cases k.1)]
theorem id1_2 (h : cutF f.name = (s, true)) (h2 : unE s ≠ 0) : id1 d f = [] := by unfold id1; rw [h, if_neg (fun k => h2 k.2.1)]
theorem id1_3 (h : cutF f.name = (s, true)) (h2 : (getF d (unR s)).2 ≠ 0) : id1 d f = [] := by unfold id1; rw [h, if_neg (fun k => h2 k.2.2)]
theorem id1_4 (h : cutF f.name = (s, true)) (h2 : unE s = 0) (h3 : (getF d (unR s)).2 = 0) : id1 d f = [unR s] := by unfold id1; rw [h, if_pos ⟨rfl, h2, h3⟩]
theorem id1_len (d : Dsk) (f : Fil) : (id1 d f).length ≤ 1 := by unfold id1; split <;> simp
theorem idsG_len (d : Dsk) : ∀ l : List Fil, (idsG d l).length ≤ l.length
  | [] => Nat.le_refl _
  | f :: l => by
    have := idsG_len d l
    have := id1_len d f
    simp only [idsG, List.flatMap_cons, List.length_append, List.length_cons] at *; omega
theorem idsG_take {l : List Fil} {k : Nat} (h : k < l.length) : idsG d (l.take (k + 1)) = idsG d (l.take k) ++ id1 d (l.getD k zeroFil) := by
  unfold idsG
  rw [List.take_add_one, List.getD, List.getElem?_eq_getElem h, List.flatMap_append]
  simp only [Option.toList, List.flatMap_cons, List.flatMap_nil, List.append_nil, Option.getD_some]
end
set_option maxRecDepth 100000 in
set_option maxHeartbeats 3200000 in
theorem sids_any (l : List Fil) (fuse : Int) (v : Value) (w : World) (hr : rdF w v l) (hsm : ∀ f ∈ l, f.name.size ≤ 281474976710656) (hl : l.length ≤ 400) (ht : Tab w) :
    Calls Tryd.prog 31 #[.agg #[v, .int .i64 fuse]] w fun e w' => ∃ v', e = .returned v' ∧ w'.ownsRow w.heap.size 9 1 v' (idsG ⟨l, fuse⟩ l).length (svs (idsG ⟨l, fuse⟩ l)) ∧ Below w.heap.size w w' := by
  obtain ⟨ao, cp, rfl⟩ := rd_form hr
  obtain ⟨W, hW⟩ : ∃ W, w.alloc (.cells #[.slice ao l.length cp, .int .i64 fuse] 38) = W := ⟨_, rfl⟩
  have hbW : Below w.heap.size w W := by rw [← hW]; exact (Below.refl _ _).alloc (Nat.le_refl _) _
  have g0 : W.heap[w.heap.size]? = some (.cells #[.slice ao l.length cp, .int .i64 fuse] 38 (0, 0)) := by rw [← hW]; exact heap_alloc_new _ _
  have HG := Lib.hid (fun w' (h : Below W.heap.size W w') => blk_below g0 h)
  have HDR := Lib.hid (fun w' (h : Below W.heap.size W w') => (hr.below hbW).below h)
  have HT := Lib.hid (fun w' (h : Below W.heap.size W w') => ht.below (hbW.trans (h.mono hbW.size)))
  have HW0 := Lib.hid hbW
  have HSM := Lib.hid hsm
  have HLL := Lib.hid hl
  have HB0 := Lib.hid (Below.refl W.heap.size W)
  obtain ⟨c0, c1, z0, z1⟩ := cell_of_two g0
  clear hr hbW g0 ht hsm hl
  go_enter Tryd.func31, Tryd.ntmps31
  go_wp2_with fail
  go_loopw [3, 15] (fun vl i wr => ∃ k : Nat, k ≤ l.length ∧ i = .int .i64 (k : Int) ∧ Hid (wr.ownsRow W.heap.size 9 1 vl (idsG ⟨l, fuse⟩ (l.take k)).length (svs (idsG ⟨l, fuse⟩ (l.take k)))) ∧ Hid (Below W.heap.size W wr)) (fun _ i _ => l.length - (intOf i).toNat)
  case atStart => exact ⟨0, Nat.zero_le _, rfl, Lib.hid (World.ownsRow_nil _ _ _ _), HB0⟩
  case round =>
    clear HB0 hW c0 c1 z0 z1
    obtain ⟨k, hk, rfl, HO, HB1⟩ := hrel
    by_cases hkl : k < l.length
    · have HKL := Lib.hid hkl
      have kb : decide ((k : Int) < (l.length : Int)) = true := decide_eq_true (by omega)
      have ki : (k : Int) < (l.length : Int) := by omega
      have kz : (0 : Int) ≤ (k : Int) := by omega
      have k4 : (k : Int) < 400 := by have := HLL.out; omega
      obtain ⟨b, off, hae, hblt, hcell⟩ := rdF_at (HDR.out _ HB1.out) (by omega)
      obtain ⟨x, hx⟩ : ∃ x, x = l.getD k zeroFil := ⟨_, rfl⟩
      obtain ⟨d0, d1, d2⟩ := hcell k hkl
      rw [← hx] at d0 d1 d2
      subst hae
      have HNZ := Lib.hid (show x.name.size ≤ 281474976710656 by rw [hx, List.getD, List.getElem?_eq_getElem hkl]; exact HSM.out _ (List.getElem_mem hkl))
      have HSN := Lib.hid (show idsG ⟨l, fuse⟩ (l.take (k + 1)) = idsG ⟨l, fuse⟩ (l.take k) ++ id1 ⟨l, fuse⟩ x by rw [hx]; exact idsG_take hkl)
      have HIL := Lib.hid (idsG_len ⟨l, fuse⟩ (l.take k))
      have hcut := fun wx => cut_any x.name wx (by have := HNZ.out; omega)
      have hcz := cutF_size x.name
      obtain ⟨⟨s, ok⟩, hq⟩ : ∃ q, q = cutF x.name := ⟨_, rfl⟩
      rw [← hq] at hcut hcz
      have HCT := Lib.hid hcut
      have HCQ := Lib.hid hq.symm
      have HCZ := Lib.hid (show s.size ≤ 281474976710656 from Nat.le_trans hcz HNZ.out)
      clear hcut hcz hq hx hcell hkl
      go_wp2_with (refine wpList_store_blk (by rfl) 92 (.tmp 5) (.tmp 18) rfl wr.heap.size #[.string x.name, .string x.safe, .string x.tail] rfl rfl (old := _) (heap_alloc_new _ _) (by kernel_rfl) rfl (by simp [Value.oneCell']) ?_; intro w2 gy uy; have hbz := below_upd ((Below.refl wr.heap.size wr).alloc (Nat.le_refl _) _) uy (Nat.le_refl _) (by simp); have HB2 := Lib.hid (HB1.out.trans (hbz.mono HB1.out.size)); have HO2 := Lib.hid (owns_below HO.out hbz); obtain ⟨f0, f1, f2⟩ := three_cells gy; clear gy uy hbz)
      clear d0 d1 d2
      (with_reducible refine (HCT.out w2).mono ?_)
      rintro e wz ⟨rfl, rfl⟩
      clear HCT
      cases ok with
      | false =>
        go_wp2_with fail
        exact ⟨⟨k + 1, HKL.out, rfl, (Lib.hid (by rw [HSN.out, id1_1 HCQ.out, List.append_nil]; exact HO2.out)), HB2⟩, meas_step (n := l.length) _ rfl HKL.out⟩
      | true =>
        have hun := unhex_any s wz HCZ.out
        have hrz := unR_size s
        obtain ⟨r, hr0⟩ : ∃ r, r = unR s := ⟨_, rfl⟩
        obtain ⟨e, he0⟩ : ∃ e, e = unE s := ⟨_, rfl⟩
        rw [← hr0, ← he0] at hun
        rw [← hr0] at hrz
        have HC := Lib.hid hun
        have HRZ := Lib.hid (show r.size ≤ 9223372036854775807 by have := HCZ.out; omega)
        have HR0 := Lib.hid hr0
        have HE0 := Lib.hid he0
        clear hun hrz hr0 he0
        go_wp2_with fail
        (with_reducible refine HC.out.mono ?_)
        rintro e1 w3 ⟨rfl, hb⟩
        have HB3 := Lib.hid (HB2.out.trans (hb.mono HB2.out.size))
        have HO3 := Lib.hid (owns_below HO2.out hb)
        clear HC hb f0 f1 f2
        by_cases he : e = 0
        · subst he
          have hgt := sget_any l fuse _ w3 (HDR.out _ HB3.out) r HRZ.out (HT.out _ HB3.out)
          obtain ⟨⟨gs, ge⟩, hg⟩ : ∃ q, q = getF ⟨l, fuse⟩ r := ⟨_, rfl⟩
          rw [← hg] at hgt
          have HC := Lib.hid hgt
          have HGE := Lib.hid (show (getF ⟨l, fuse⟩ (unR s)).2 = ge by rw [← HR0.out, ← hg])
          clear hgt hg
          obtain ⟨c0, c1, z0, z1⟩ := cell_of_two (HG.out _ HB3.out)
          go_wp2_with fail
          (with_reducible refine HC.out.mono ?_)
          rintro e1 w4 ⟨rfl, hb⟩
          have HB4 := Lib.hid (HB3.out.trans (hb.mono HB3.out.size))
          have HO4 := Lib.hid (owns_below HO3.out hb)
          clear HC hb c0 c1 z0 z1
          by_cases hge : ge = 0
          · subst hge
            have HNX := Lib.hid (show id1 ⟨l, fuse⟩ x = [r] by rw [HR0.out]; exact id1_4 HCQ.out HE0.out.symm HGE.out)
            have hlt : (idsG ⟨l, fuse⟩ (l.take k)).length + 1 ≤ 401 := by have h1 := HIL.out; have h2 := HLL.out; rw [List.length_take] at h1; omega
            have hby : ((idsG ⟨l, fuse⟩ (l.take k)).length + 1) * 16 ≤ 140737488355328 := by omega
            go_wp2_with (first | (at_builtin; refine wpList_append1 (w0 := W) (B := W.heap.size) (by rfl) _ _ 22 rfl info_string Tryd.underlying22 rfl (by decide) (by decide) HO4.out HB4.out (Nat.le_refl _) HB4.out.size (cs := #[.string r]) rfl (by simp [Value.oneCell']) hby rfl rfl ?_; intro v5 w5 ho5 hb5 _; have HO5 := Lib.hid ho5; have HB5 := Lib.hid hb5; clear ho5 hb5))
            exact ⟨⟨k + 1, HKL.out, rfl, (Lib.hid (by rw [HSN.out, HNX.out, svs_appendP, List.length_append]; exact HO5.out)), HB5⟩, meas_step (n := l.length) _ rfl HKL.out⟩
          · have n1 : (ge == 0) = false := beq_eq_false_iff_ne.2 hge
            have n2 : (ge != 0) = true := by rw [bne, n1]; rfl
            have HNX := Lib.hid (id1_3 (d := ⟨l, fuse⟩) HCQ.out (by rw [HGE.out]; exact hge))
            clear hge
            go_wp2_with fail
            exact ⟨⟨k + 1, HKL.out, rfl, (Lib.hid (by rw [HSN.out, HNX.out, List.append_nil]; exact HO4.out)), HB4⟩, meas_step (n := l.length) _ rfl HKL.out⟩
        · have n1 : (e == 0) = false := beq_eq_false_iff_ne.2 he
          have n2 : (e != 0) = true := by rw [bne, n1]; rfl
          have HNX := Lib.hid (id1_2 (d := ⟨l, fuse⟩) HCQ.out (by rw [← HE0.out]; exact he))
          clear he
          go_wp2_with fail
          exact ⟨⟨k + 1, HKL.out, rfl, (Lib.hid (by rw [HSN.out, HNX.out, List.append_nil]; exact HO3.out)), HB3⟩, meas_step (n := l.length) _ rfl HKL.out⟩
    · have kb : decide ((k : Int) < (l.length : Int)) = false := decide_eq_false (by omega)
      have kb2 : decide (k < l.length) = false := decide_eq_false hkl
      have HO2 := HO.out
      rw [List.take_of_length_le (by omega)] at HO2
      have HO3 := Lib.hid HO2
      clear hkl HO2 HO
      go_wp2_with fail
      go_ret
      exact ⟨_, rfl, owns_base HO3.out HW0.out.size, HW0.out.trans (HB1.out.mono HW0.out.size)⟩
end Go.Proofs.YtalkheljejkpiaaDoor
