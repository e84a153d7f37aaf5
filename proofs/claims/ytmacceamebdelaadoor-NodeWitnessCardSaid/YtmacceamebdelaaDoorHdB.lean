/- Texts put together: HeadLaw3 Head4 Head5. -/
import Derived.Test.YtmacceamebdelaaDoorHdA
import Derived.Test.YtmacceamebdelaaDoorStA
import Derived.Test.YtmacceamebdelaaDoorBas
import Derived.Test.YtmacceamebdelaaDoorSha
import Derived.Test.YtmacceamebdelaaDoorStB
/-! HeadLaw3 -/
namespace Go.Proofs.YtmacceamebdelaaDoor
set_option linter.unusedVariables false
set_option linter.unusedSimpArgs false

section
variable (sl : ByteArray → ByteArray → ByteArray)
def headW : ByteArray := ⟨#[104, 101, 97, 100]⟩
def markF (who : Int) (key : ByteArray) (n : Int) (r : ByteArray) : (Int × ByteArray) × Int :=
  if (textF n r).2 ≠ 0 then ((0, noB), (textF n r).2) else if who < 0 ∨ 4 ≤ who then ((0, noB), 3) else ((who, sl key (headW ++ (textF n r).1)), 0)
/-- A row of marks: the number of a witness, and its seal. -/
def mkW (M : List (Int × ByteArray)) (k : Nat) : Int := (M.getD k (0, noB)).1
def mkS (M : List (Int × ByteArray)) (k : Nat) : ByteArray := (M.getD k (0, noB)).2
def rowH (ws : List ByteArray) (t : ByteArray) (M : List (Int × ByteArray)) (k : Nat) : Int :=
  if mkW M k < 0 ∨ min (ws.length : Int) 4 ≤ mkW M k ∨ (0 < k ∧ mkW M k ≤ mkW M (k - 1)) then 3 else if sl (ws.getD (mkW M k).toNat noB) (headW ++ t) ≠ mkS M k then 13 else 0
def checkHF (ws : List ByteArray) (n : Int) (r : ByteArray) (M : List (Int × ByteArray)) : Int :=
  if (textF n r).2 ≠ 0 then (textF n r).2 else if firstE (rowH sl ws (textF n r).1 M) 0 M.length ≠ 0 then firstE (rowH sl ws (textF n r).1 M) 0 M.length else if M.length < 3 then 13 else 0
/-- The marks of the witnesses below k that are among who. -/
def marksF (ws : List ByteArray) (t : ByteArray) (who : List Int) : Nat → List (Int × ByteArray)
  | 0 => []
  | k + 1 => if (k : Int) ∈ who then marksF ws t who k ++ [((k : Int), sl (ws.getD k noB) (headW ++ t))] else marksF ws t who k
def GoodM (ws : List ByteArray) (t : ByteArray) (k : Nat) (M : List (Int × ByteArray)) : Prop :=
  (∀ p ∈ M, 0 ≤ p.1 ∧ p.1 < (k : Int) ∧ p.2 = sl (ws.getD p.1.toNat noB) (headW ++ t)) ∧ (M.map Prod.fst).Pairwise (· < ·)
theorem marksF_good (ws : List ByteArray) (t : ByteArray) (who : List Int) : ∀ k, GoodM sl ws t k (marksF sl ws t who k)
  | 0 => ⟨fun _ h => (by cases h), List.Pairwise.nil⟩
  | k + 1 => by
    obtain ⟨h1, h2⟩ := marksF_good ws t who k
    unfold marksF
    split
    · refine ⟨fun p hp => ?_, ?_⟩
      · rcases List.mem_append.1 hp with hp | hp
        · have := h1 p hp; exact ⟨this.1, by omega, this.2.2⟩
        · obtain rfl := List.mem_singleton.1 hp
          exact ⟨by show (0 : Int) ≤ (k : Int); omega, by show (k : Int) < _; omega, by show _ = sl (ws.getD ((k : Int)).toNat noB) _; rw [Int.toNat_natCast]⟩
      · rw [List.map_append]
        refine List.pairwise_append.2 ⟨h2, by simp, fun a ha b hb => ?_⟩
        obtain rfl := List.mem_singleton.1 hb
        obtain ⟨p, hp, rfl⟩ := List.mem_map.1 ha
        exact (h1 p hp).2.1
    · exact ⟨fun p hp => by have := h1 p hp; exact ⟨this.1, by omega, this.2.2⟩, h2⟩
theorem marksF_len (ws : List ByteArray) (t : ByteArray) (who : List Int) : ∀ k, (marksF sl ws t who k).length ≤ k
  | 0 => Nat.le_refl _
  | k + 1 => by
    have := marksF_len ws t who k
    unfold marksF
    split
    · rw [List.length_append]; show _ + 1 ≤ _; omega
    · omega
theorem rowH_good {ws : List ByteArray} {t : ByteArray} {M : List (Int × ByteArray)} (h : GoodM sl ws t 4 M) (hw : 4 ≤ ws.length) {k : Nat} (hk : k < M.length) : rowH sl ws t M k = 0 := by
  obtain ⟨h1, h2⟩ := h
  have e : M.getD k (0, noB) = M[k] := by rw [List.getD, List.getElem?_eq_getElem hk]; rfl
  have hp := h1 M[k] (List.getElem_mem hk)
  unfold rowH mkW mkS
  rw [e, if_neg, if_neg (by rw [hp.2.2]; simp)]
  rintro (a | a | ⟨a, b⟩)
  · omega
  · have : min (ws.length : Int) 4 = 4 := by omega
    omega
  · have e2 : M.getD (k - 1) (0, noB) = M[k - 1] := by rw [List.getD, List.getElem?_eq_getElem (by omega)]; rfl
    rw [e2] at b
    have := List.pairwise_iff_getElem.1 h2 (k - 1) k (by simp; omega) (by simpa using hk) (by omega)
    simp only [List.getElem_map] at this
    omega
theorem checkHF_good {ws : List ByteArray} {n : Int} {r : ByteArray} {M : List (Int × ByteArray)} (hg : goodH n r = 0) (h : GoodM sl ws (headB n r) 4 M) (hw : 4 ≤ ws.length) : checkHF sl ws n r M = if M.length < 3 then 13 else 0 := by
  unfold checkHF
  rw [textF_ok hg]
  rw [if_neg (by simp), firstE_all (fun j _ hj => rowH_good sl h hw (by omega)), if_neg (by simp)]
theorem checkHF_other {ws : List ByteArray} {n : Int} {r q : ByteArray} {M : List (Int × ByteArray)} (hg : goodH n r = 0) (hq : q.size = 32) (h : GoodM sl ws (headB n r) 4 M) (hw : 4 ≤ ws.length) (hM : 0 < M.length) :
    checkHF sl ws n q M = 13 ∨ sl (ws.getD (mkW M 0).toNat noB) (headW ++ headB n r) = sl (ws.getD (mkW M 0).toNat noB) (headW ++ headB n q) := by
  obtain ⟨h0, h1, _⟩ := goodH_ok hg
  have hg2 : goodH n q = 0 := goodH_of h0 h1 hq
  have e : M.getD 0 (0, noB) = M[0] := by rw [List.getD, List.getElem?_eq_getElem hM]; rfl
  have hp := h.1 M[0] (List.getElem_mem hM)
  by_cases c : sl (ws.getD (mkW M 0).toNat noB) (headW ++ headB n r) = sl (ws.getD (mkW M 0).toNat noB) (headW ++ headB n q)
  · exact .inr c
  · left
    have hr : rowH sl ws (headB n q) M 0 = 13 := by
      unfold rowH
      rw [if_neg, if_pos]
      · intro k
        apply c
        unfold mkW mkS at *
        rw [e] at *
        rw [k, hp.2.2]
      · unfold mkW
        rw [e]
        rintro (a | a | ⟨a, b⟩)
        · omega
        · have : min (ws.length : Int) 4 = 4 := by omega
          omega
        · omega
    have hf := firstE_at (f := rowH sl ws (headB n q) M) (k := 0) (by rw [hr]; decide) (k0 := 0) (c := M.length) (Nat.le_refl _) (by omega) (fun j a b => by omega)
    unfold checkHF
    rw [textF_ok hg2]
    rw [if_neg (by simp), if_pos (by rw [hf, hr]; decide), hf, hr]
end
end Go.Proofs.YtmacceamebdelaaDoor
/-! Head4 -/
namespace Go.Proofs.YtmacceamebdelaaDoor
open Go.RowKit
set_option linter.unusedVariables false
set_option linter.unusedSimpArgs false

theorem mark_cells {w : World} {n : Nat} {a b : Value} (h : w.heap[n]? = some (.cells #[a, b] 39 (0, 0))) :
    w.cell? ⟨n, 0, none⟩ = some a ∧ w.cell? ⟨n, 1, none⟩ = some b ∧ w.frozen? ⟨n, 0, none⟩ = false ∧ w.frozen? ⟨n, 1, none⟩ = false := by
  simp [World.cell?, World.frozen?, h]
def mkC (p : Int × ByteArray) : List Value := [.int .i64 p.1, .string p.2]
theorem mkC_len (p : Int × ByteArray) : (mkC p).length = 2 := rfl
theorem mkC_one (p : Int × ByteArray) : ∀ y ∈ mkC p, y.oneCell' = true := by
  intro y hy
  simp [mkC] at hy
  rcases hy with rfl | rfl <;> rfl
section
variable {sl : ByteArray → ByteArray → ByteArray} {who n : Int} {key r : ByteArray}
theorem markF_1 (h : goodH n r ≠ 0) : markF sl who key n r = ((0, noB), goodH n r) := by unfold markF; rw [textF_bad h, if_pos h]
theorem markF_2 (h : goodH n r = 0) (h2 : who < 0 ∨ 4 ≤ who) : markF sl who key n r = ((0, noB), 3) := by unfold markF; rw [textF_ok h, if_neg (by simp), if_pos h2]
theorem markF_3 (h : goodH n r = 0) (h2 : ¬ (who < 0 ∨ 4 ≤ who)) : markF sl who key n r = ((who, sl key (headW ++ headB n r)), 0) := by unfold markF; rw [textF_ok h, if_neg (by simp), if_neg h2]
end
set_option maxRecDepth 100000 in
set_option maxHeartbeats 3200000 in
theorem markHd_any (who : Int) (key : ByteArray) (n : Int) (r : ByteArray) (w : World) (hk : key.size ≤ 140737488355328) (ht : Tab w) :
    Calls Tryd.prog 8 #[.int .i64 who, .string key, .agg #[.int .i64 n, .string r]] w fun e w' => e = .returned (.tuple #[.agg #[.int .i64 (markF sealF who key n r).1.1, .string (markF sealF who key n r).1.2], .int .i64 (markF sealF who key n r).2]) ∧ Below w.heap.size w w' := by
  obtain ⟨F, hF⟩ : ∃ F, F = markF sealF who key n r := ⟨_, rfl⟩
  rw [← hF]
  have HF := Lib.hid hF
  clear hF
  obtain ⟨W, hW⟩ : ∃ W, (w.alloc (.cells #[.int .i64 n, .string r] 28)).alloc (.cells #[.int .i64 0, .string ⟨#[]⟩] 39) = W := ⟨_, rfl⟩
  have hb1 : Below w.heap.size w W := by rw [← hW]; exact ((Below.refl _ _).alloc (Nat.le_refl _) _).alloc (by simp) _
  have gH0 : W.heap[w.heap.size]? = some (.cells #[.int .i64 n, .string r] 28 (0, 0)) := by rw [← hW]; exact heap_old (heap_alloc_new _ _)
  have gR0 : W.heap[w.heap.size + 1]? = some (.cells #[.int .i64 0, .string ⟨#[]⟩] 39 (0, 0)) := by rw [← hW]; exact heap_new (by simp)
  have HW0 := Lib.hid hb1
  have HGR := Lib.hid (fun wr (h : Below W.heap.size W wr) => blk_below gR0 h)
  have HB0 := Lib.hid (Below.refl W.heap.size W)
  obtain ⟨c0, c1, _, _⟩ := head_cells gH0
  have HT := Lib.hid (ht.below hb1)
  have HKS := Lib.hid hk
  have htx := textHead_any n r W
  clear hb1 gR0 gH0 ht hk
  go_enter Tryd.func8, Tryd.ntmps8
  go_wp2_with fail
  (with_reducible refine (htx).mono ?_)
  rintro e w1 ⟨rfl, hb⟩
  have HB1 := Lib.hid (HB0.out.trans (hb.mono HB0.out.size))
  have HL1 := Lib.hid hb
  clear hb
  clear htx hW c0 c1
  by_cases hg : goodH n r = 0
  · have HG := Lib.hid hg
    have HSZ := Lib.hid (headB_size hg)
    rw [textF_ok hg]
    obtain ⟨T, hT⟩ : ∃ T, T = headB n r := ⟨_, rfl⟩
    rw [← hT] at HSZ ⊢
    have HTT := Lib.hid hT
    clear hg hT
    by_cases h0 : who < 0 ∨ 4 ≤ who
    · have hF := HF.out.trans (markF_2 HG.out h0)
      subst hF
      by_cases h1 : who < 0
      · have d0 : decide (who < 0) = true := decide_eq_true h1
        have gR := HGR.out _ HB1.out
        go_wp2_with (refine wpList_store_blk (by rfl) 39 (.tmp 6) (.tmp 25) rfl (w.heap.size + 1) #[.int .i64 0, .string ⟨#[]⟩] rfl rfl (old := _) gR (by kernel_rfl) rfl (by simp [Value.oneCell']) ?_; intro wz gz uz)
        obtain ⟨r0, r1, _, _⟩ := mark_cells gz
        refine bodyPost_ret (v := .tuple #[.agg #[.int .i64 0, .string ⟨#[]⟩], .int .i64 (3)]) ?_ rfl ⟨rfl, below_upd (HW0.out.trans (HB1.out.mono HW0.out.size)) uz (by omega) (by have := HW0.out.size; have := HB1.out.size; omega)⟩
        simp [results, Tryd.f8, go_sem, r0, r1]
      · have d0 : decide (who < 0) = false := decide_eq_false h1
        have d1 : decide (4 ≤ who) = true := decide_eq_true (by omega)
        have gR := HGR.out _ HB1.out
        go_wp2_with (refine wpList_store_blk (by rfl) 39 (.tmp 6) (.tmp 25) rfl (w.heap.size + 1) #[.int .i64 0, .string ⟨#[]⟩] rfl rfl (old := _) gR (by kernel_rfl) rfl (by simp [Value.oneCell']) ?_; intro wz gz uz)
        obtain ⟨r0, r1, _, _⟩ := mark_cells gz
        refine bodyPost_ret (v := .tuple #[.agg #[.int .i64 0, .string ⟨#[]⟩], .int .i64 (3)]) ?_ rfl ⟨rfl, below_upd (HW0.out.trans (HB1.out.mono HW0.out.size)) uz (by omega) (by have := HW0.out.size; have := HB1.out.size; omega)⟩
        simp [results, Tryd.f8, go_sem, r0, r1]
    · have hF := HF.out.trans (markF_3 HG.out h0)
      rw [← HTT.out] at hF
      obtain ⟨Z, hZ⟩ : ∃ Z, Z = sealF key (headW ++ T) := ⟨_, rfl⟩
      rw [← hZ] at hF
      subst hF
      have d0 : decide (who < 0) = false := decide_eq_false (by omega)
      have d1 : decide (4 ≤ who) = false := decide_eq_false (by omega)
      have hts : T.size ≤ 41 := HSZ.out
      have hse := seal_any key (headW ++ T) w1 (by rw [ByteArray.size_append]; have := HSZ.out; have e : headW.size = 4 := rfl; omega) HKS.out (HT.out.below HB1.out)
      rw [← hZ] at hse
      clear h0 hZ
      unfold headW at hse
      go_wp2_with fail
      (with_reducible refine (hse).mono ?_)
      rintro e w2 ⟨rfl, hb⟩
      have HB2 := Lib.hid (HB1.out.trans (hb.mono HB1.out.size))
      have HL2 := Lib.hid hb
      clear hb
      clear hse
      have gR := HGR.out _ HB2.out
      go_wp2_with (refine wpList_store_blk (by rfl) 39 (.tmp 6) (.tmp 31) rfl (w.heap.size + 1) #[.int .i64 who, .string Z] rfl rfl (old := _) gR (by kernel_rfl) rfl (by simp [Value.oneCell']) ?_; intro wz gz uz)
      obtain ⟨r0, r1, _, _⟩ := mark_cells gz
      refine bodyPost_ret (v := .tuple #[.agg #[.int .i64 who, .string Z], .int .i64 (0)]) ?_ rfl ⟨rfl, below_upd (HW0.out.trans (HB2.out.mono HW0.out.size)) uz (by omega) (by have := HW0.out.size; have := HB2.out.size; omega)⟩
      simp [results, Tryd.f8, go_sem, r0, r1]
  · have hF := HF.out.trans (markF_1 hg)
    rw [textF_bad hg]
    obtain ⟨ge, hge⟩ : ∃ ge, ge = goodH n r := ⟨_, rfl⟩
    rw [← hge] at hF hg ⊢
    subst hF
    have n1 : (ge == 0) = false := beq_eq_false_iff_ne.2 hg
    have n2 : (ge != 0) = true := by rw [bne, n1]; rfl
    clear hg hge
    have gR := HGR.out _ HB1.out
    go_wp2_with (refine wpList_store_blk (by rfl) 39 (.tmp 6) (.tmp 17) rfl (w.heap.size + 1) #[.int .i64 0, .string ⟨#[]⟩] rfl rfl (old := _) gR (by kernel_rfl) rfl (by simp [Value.oneCell']) ?_; intro wz gz uz)
    obtain ⟨r0, r1, _, _⟩ := mark_cells gz
    refine bodyPost_ret (v := .tuple #[.agg #[.int .i64 0, .string ⟨#[]⟩], .int .i64 (ge)]) ?_ rfl ⟨rfl, below_upd (HW0.out.trans (HB1.out.mono HW0.out.size)) uz (by omega) (by have := HW0.out.size; have := HB1.out.size; omega)⟩
    simp [results, Tryd.f8, go_sem, r0, r1]
end Go.Proofs.YtmacceamebdelaaDoor
/-! Head5 -/
namespace Go.Proofs.YtmacceamebdelaaDoor
open Go.RowKit
set_option linter.unusedVariables false
set_option linter.unusedSimpArgs false

theorem marks_at {w : World} {ao : Option Addr} {cap : Nat} {M : List (Int × ByteArray)} (hr : rdG 2 mkC w (.slice ao M.length cap) M) (h : 0 < M.length) :
    ∃ b off, ao = some ⟨b, off, none⟩ ∧ b < w.heap.size ∧ ∀ k, k < M.length → w.cell? ⟨b, off + k * 2, none⟩ = some (.int .i64 (mkW M k)) ∧ w.cell? ⟨b, off + k * 2 + 1, none⟩ = some (.string (mkS M k)) := by
  obtain ⟨b, off, h1, h2, hc⟩ := rdG_at mkC_len (by decide) (0, noB) hr h
  refine ⟨b, off, h1, h2, fun k hk => ⟨hc k hk 0 _ rfl, by rw [Nat.add_assoc]; exact hc k hk 1 _ rfl⟩⟩
section
variable {sl : ByteArray → ByteArray → ByteArray} {ws : List ByteArray} {n : Int} {r : ByteArray} {M : List (Int × ByteArray)} {k : Nat}
theorem checkHF_1 (h : (textF n r).2 ≠ 0) : checkHF sl ws n r M = (textF n r).2 := by unfold checkHF; rw [if_pos h]
theorem checkHF_2 (h : (textF n r).2 = 0) {e : Int} (hk : k < M.length) (ha : ∀ j, j < k → rowH sl ws (textF n r).1 M j = 0) (h0 : e ≠ 0) (he : rowH sl ws (textF n r).1 M k = e) : checkHF sl ws n r M = e := by
  have hf := firstE_at (f := rowH sl ws (textF n r).1 M) (k := k) (by rw [he]; exact h0) (k0 := 0) (c := M.length) (Nat.zero_le _) (by omega) (fun j _ hj => ha j hj)
  unfold checkHF; rw [if_neg (fun k => k h), if_pos (by rw [hf, he]; exact h0), hf, he]
theorem checkHF_3 (h : (textF n r).2 = 0) (ha : ∀ j, j < M.length → rowH sl ws (textF n r).1 M j = 0) : checkHF sl ws n r M = if M.length < 3 then 13 else 0 := by
  have hf := firstE_all (f := rowH sl ws (textF n r).1 M) (k0 := 0) (c := M.length) (fun j _ hj => ha j (by omega))
  unfold checkHF; rw [if_neg (fun k => k h), if_neg (fun k => k hf)]
variable {t : ByteArray}
theorem rowH_3 (h : mkW M k < 0 ∨ min (ws.length : Int) 4 ≤ mkW M k ∨ (0 < k ∧ mkW M k ≤ mkW M (k - 1))) : rowH sl ws t M k = 3 := by unfold rowH; rw [if_pos h]
theorem rowH_13 (h : ¬ (mkW M k < 0 ∨ min (ws.length : Int) 4 ≤ mkW M k ∨ (0 < k ∧ mkW M k ≤ mkW M (k - 1)))) (h2 : sl (ws.getD (mkW M k).toNat noB) (headW ++ t) ≠ mkS M k) : rowH sl ws t M k = 13 := by unfold rowH; rw [if_neg h, if_pos h2]
theorem rowH_0 (h : ¬ (mkW M k < 0 ∨ min (ws.length : Int) 4 ≤ mkW M k ∨ (0 < k ∧ mkW M k ≤ mkW M (k - 1)))) (h2 : sl (ws.getD (mkW M k).toNat noB) (headW ++ t) = mkS M k) : rowH sl ws t M k = 0 := by unfold rowH; rw [if_neg h, if_neg (fun k => k h2)]
end
end Go.Proofs.YtmacceamebdelaaDoor
