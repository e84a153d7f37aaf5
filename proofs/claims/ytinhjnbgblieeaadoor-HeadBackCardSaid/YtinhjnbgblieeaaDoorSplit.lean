/- strings.SplitSeq at one byte for a parting. -/
import Derived.Test.YtinhjnbgblieeaaDoorRangeBox
import Derived.Lib.Bytealg
import Derived.Laws.Externs
import Derived.Lib.Hide
import Derived.Test.YtinhjnbgblieeaaDoorKit
import Derived.Shelf.Abstract
import Derived.Shelf.RegionOpen
import Derived.WalkKit
import Derived.OwnWalkIn
import Derived.TacticsInMore
import Derived.LoopNIn
import Derived.LoopIn
namespace Go.Proofs.YtinhjnbgblieeaaDoor
open Go.RowKit Go.Shelf
attribute [local go_sem] Oper.semAt_some
set_option linter.unusedVariables false
set_option linter.unusedSimpArgs false

def slashAt (s : ByteArray) : Int := Lib.indexByte s.data.toList 47
set_option maxRecDepth 100000 in
set_option maxHeartbeats 3200000 in
theorem indexByteS_any (s : ByteArray) (w : World) : Calls Tryd.prog 89 #[.string s, .int .u8 47] w fun e w' => e = .returned (.int .i64 (slashAt s)) ∧ w' = w := by
  go_enter Tryd.func89, Tryd.ntmps89
  go_wp2
  rw [run_callFunc_extern Tryd.func93 (by kernel_rfl) (by kernel_rfl) (by kernel_rfl) (e := Extern.BytealgIndexByte.indexByte) (by kernel_rfl), Lib.run_indexByteString]
  simp only [Result.andThen]
  rw [Oper.upon_value]
  go_wp2
  go_ret
  exact ⟨rfl, rfl⟩
theorem slash_self : slashAt ⟨#[47]⟩ = 0 := by decide +kernel
set_option maxRecDepth 100000 in
set_option maxHeartbeats 3200000 in
theorem indexL_any (s : ByteArray) (w : World) : Calls Tryd.prog 86 #[.string s, .string ⟨#[47]⟩] w fun e w' => e = .returned (.int .i64 (slashAt s)) ∧ w' = w := by
  have HC := Lib.hid (indexByteS_any s w)
  obtain ⟨r, hr⟩ : ∃ r, r = slashAt s := ⟨_, rfl⟩
  have HR := Lib.hid hr
  rw [← hr] at HC ⊢
  by_cases h : s.toList = [47]
  · have hb : (([47] : List UInt8) == s.toList) = true := by rw [h]; rfl
    have h0 : r = 0 := by
      rw [hr]
      have : s = ⟨#[47]⟩ := by
        rw [ByteArray.toList_eq] at h
        exact bs_ext (a := s) (b := ⟨#[47]⟩) h
      rw [this]; exact slash_self
    subst h0
    clear hr
    go_enter Tryd.func86, Tryd.ntmps86
    go_wp2_with fail
    go_ret
    exact ⟨rfl, rfl⟩
  · have hb : (([47] : List UInt8) == s.toList) = false := beq_eq_false_iff_ne.2 (fun e => h e.symm)
    clear hr h
    go_enter Tryd.func86, Tryd.ntmps86
    go_wp2_with fail
    refine HC.out.mono ?_
    rintro e w' ⟨rfl, rfl⟩
    go_wp2_with fail
    go_ret
    exact ⟨rfl, rfl⟩
set_option maxRecDepth 100000 in
set_option maxHeartbeats 3200000 in
theorem indexT_any (s : ByteArray) (w : World) : Calls Tryd.prog 80 #[.string s, .string ⟨#[47]⟩] w fun e w' => e = .returned (.int .i64 (slashAt s)) ∧ w' = w := by
  go_enter Tryd.func80, Tryd.ntmps80
  go_wp2_with fail
  (with_reducible refine (indexL_any s w).mono ?_)
  rintro e w' ⟨rfl, rfl⟩
  go_wp2_with fail
  go_ret
  exact ⟨rfl, rfl⟩

/-- The pieces of a text between the slashes. -/
def cutN : Nat → ByteArray → List ByteArray
  | 0, s => [s]
  | n + 1, s => if slashAt s < 0 then [s] else s.extract 0 (slashAt s).toNat :: cutN n (s.extract ((slashAt s).toNat + 1) s.size)
def pieces (s : ByteArray) : List ByteArray := cutN s.size s
theorem index_bound : ∀ (l : List UInt8) (c : UInt8), Lib.indexByte l c < (l.length : Int)
  | [], c => by simp [Lib.indexByte]
  | b :: l, c => by
    have := index_bound l c
    unfold Lib.indexByte
    simp only [List.length_cons]
    split
    · omega
    · split <;> omega
theorem slash_bound (s : ByteArray) : slashAt s < (s.size : Int) := index_bound _ _
theorem slash_ge (s : ByteArray) : -1 ≤ slashAt s := Lib.indexByte_ge _ _
def curOf (B : Nat) (w : World) : Nat := match w.cell? ⟨B, 0, none⟩ with | some (.string s) => s.size | _ => 0
theorem curOf_eq {B : Nat} {w : World} {s : ByteArray} (h : w.cell? ⟨B, 0, none⟩ = some (.string s)) : curOf B w = s.size := by unfold curOf; rw [h]
theorem cell_set_ne {w : World} {b B o : Nat} {u v : Value} (hne : b ≠ B) (h : w.cell? ⟨b, o, none⟩ = some v) : (w.setCell ⟨B, 0, none⟩ u).cell? ⟨b, o, none⟩ = some v := by
  have hb := Below.heap_setCell w ⟨B, 0, none⟩ u b hne
  unfold World.cell? at h ⊢
  rw [hb]
  exact h
set_option maxRecDepth 100000 in
set_option maxHeartbeats 3200000 in
theorem split_seq (Bs Bp Bq n₀ n : Nat) (hn : 1 ≤ n) (s : ByteArray) (hss : s.size ≤ 4611686018427387904) (w : World) (hs : w.cell? ⟨Bs, 0, none⟩ = some (.string s)) (hf : w.frozen? ⟨Bs, 0, none⟩ = false) (hp : w.cell? ⟨Bp, 0, none⟩ = some (.string ⟨#[47]⟩)) (hq : w.cell? ⟨Bq, 0, none⟩ = some (.int .i64 0))
    (hsn : Bs < n₀) (hpn : Bp < n₀) (hqn : Bq < n₀) (hps : Bp ≠ Bs) (hqs : Bq ≠ Bs) :
    BoxSeq Fence.wide n Tryd.prog 78 #[.pointer (some ⟨Bp, 0, none⟩), .pointer (some ⟨Bs, 0, none⟩), .pointer (some ⟨Bq, 0, none⟩)] Bs n₀ (fun xs => xs = pieces s) (fun pre => pre <+: pieces s) w := by
  intro l J Jx W hW hJ hJx hJB hY h0
  refine callsIn_of_wp Tryd.func78 rfl trivial ?_ rfl
  simp only [Tryd.ntmps78, List.size_toArray, List.length_cons, List.length_nil, Nat.reduceAdd, Nat.reduceSub, Array.replicate_succ, Array.replicate_zero, List.push_toArray, List.append_toArray, List.nil_append, List.cons_append]
  have s0 := (hW.cell (p := ⟨Bs, 0, none⟩) (World.block_lt_of_cell? w _ hs)).trans hs
  have p0 := (hW.cell (p := ⟨Bp, 0, none⟩) (World.block_lt_of_cell? w _ hp)).trans hp
  have q0 := (hW.cell (p := ⟨Bq, 0, none⟩) (World.block_lt_of_cell? w _ hq)).trans hq
  have hf0 : W.frozen? ⟨Bs, 0, none⟩ = false := (hW.frozen (p := ⟨Bs, 0, none⟩) (World.block_lt_of_cell? w _ hs)).trans hf
  gi_wp2
  gi_loopw [] (fun wr => ∃ (pre : List ByteArray) (cur : ByteArray) (m : Nat), wr.cell? ⟨Bs, 0, none⟩ = some (.string cur) ∧ wr.frozen? ⟨Bs, 0, none⟩ = false ∧ wr.cell? ⟨Bp, 0, none⟩ = some (.string ⟨#[47]⟩) ∧ wr.cell? ⟨Bq, 0, none⟩ = some (.int .i64 0) ∧ cur.size ≤ m ∧ m ≤ s.size ∧ pieces s = pre ++ cutN m cur ∧ J pre wr) (fun wr => curOf Bs wr)
  case atStart => exact ⟨[], s, s.size, s0, hf0, p0, q0, Nat.le_refl _, Nat.le_refl _, rfl, h0⟩
  case round =>
    obtain ⟨pre, cur, m, s1, hf1, p1, q1, hm, hms, hpc, hJ1⟩ := hrel
    obtain ⟨i, hi⟩ : ∃ i, i = slashAt cur := ⟨_, rfl⟩
    have HIX := Lib.hid (indexT_any cur wr)
    rw [← hi] at HIX
    by_cases hneg : i < 0
    · have hnb : decide (i < 0) = true := decide_eq_true hneg
      have hcut : cutN m cur = [cur] := by
        cases m with
        | zero => rfl
        | succ m => unfold cutN; rw [if_pos (by rw [← hi]; exact hneg)]
      rw [hcut] at hpc
      have HPC := Lib.hid hpc
      obtain ⟨fn, tmps, assign, body, hy, hR⟩ := hY pre cur wr hJ1
      clear hi hcut hpc hm
      gi_wp2_with (refine ⟨trivial, ?_⟩; gi_at_call 80; refine (callsIn_wide.2 HIX.out).mono ?_; rintro e w' ⟨rfl, rfl⟩)
      refine hR.mono ?_
      rintro e W3 (⟨rfl, hJ3, hk3⟩ | ⟨rfl, hJx3⟩)
      · gi_wp2
        go_end0
        exact ⟨⟨_, rfl⟩, .inl ⟨_, HPC.out.symm, hJ3⟩⟩
      · gi_wp2
        go_end0
        exact ⟨⟨_, rfl⟩, .inr ⟨_, by rw [HPC.out]; exact List.prefix_rfl, hJx3⟩⟩
    · have hnb : decide (i < 0) = false := decide_eq_false hneg
      obtain ⟨k, hk⟩ : ∃ k : Nat, i = (k : Int) := ⟨i.toNat, by omega⟩
      subst hk
      have hkb := slash_bound cur
      rw [← hi] at hkb
      obtain ⟨m', rfl⟩ : ∃ m', m = m' + 1 := ⟨m - 1, by omega⟩
      have hcut : cutN (m' + 1) cur = cur.extract 0 k :: cutN m' (cur.extract (k + 1) cur.size) := by
        rw [cutN, if_neg (by rw [← hi]; omega), ← hi]; rfl
      rw [hcut] at hpc
      have HMS := Lib.hid hms
      have hsz : (cur.extract (k + 1) cur.size).size ≤ m' := by rw [ByteArray.size_extract]; omega
      have HPC := Lib.hid hpc
      have HSZ := Lib.hid hsz
      obtain ⟨fn, tmps, assign, body, hy, hR⟩ := hY pre (cur.extract 0 k) wr hJ1
      have hk1 : (k : Int) ≤ (cur.size : Int) := by omega
      have hk2 : (k : Int) + 1 ≤ (cur.size : Int) := by omega
      have hkw : IntKind.i64.wrap ((k : Int) + 1) = (k : Int) + 1 := by rw [IntKind.wrap_i64]; omega
      have hkw0 : IntKind.i64.wrap (k : Int) = (k : Int) := by rw [IntKind.wrap_i64]; omega
      clear hi hcut hpc hm hsz hms hneg
      gi_wp2_with (refine ⟨trivial, ?_⟩; gi_at_call 80; refine (callsIn_wide.2 HIX.out).mono ?_; rintro e w' ⟨rfl, rfl⟩)
      refine hR.mono ?_
      rintro e W3 (⟨rfl, hJ3, hk3⟩ | ⟨rfl, hJx3⟩)
      · have s3 := (hk3.cell (p := ⟨Bs, 0, none⟩) hsn).trans s1
        have p3 := (hk3.cell (p := ⟨Bp, 0, none⟩) hpn).trans p1
        have q3 := (hk3.cell (p := ⟨Bq, 0, none⟩) hqn).trans q1
        have f3 := (hk3.frozen (p := ⟨Bs, 0, none⟩) hsn).trans hf1
        gi_wp2
        have sN := World.cell?_setCell_same' W3 ⟨Bs, 0, none⟩ (.string (cur.extract (k + 1) cur.size)) (by rw [s3]; rfl)
        refine ⟨⟨pre ++ [cur.extract 0 k], cur.extract (k + 1) cur.size, m', sN, by rw [World.frozen?_setCell]; exact f3, cell_set_ne hps p3, cell_set_ne hqs q3, HSZ.out, by have := HMS.out; omega, by rw [HPC.out, List.append_assoc]; rfl, hJB _ _ _ hJ3⟩, ?_⟩
        rw [curOf_eq sN, curOf_eq s1, ByteArray.size_extract]
        omega
      · gi_wp2
        refine bodyPost_ret (results_none rfl _ _ _) rfl ?_
        exact ⟨⟨_, rfl⟩, .inr ⟨_, ⟨_, by rw [HPC.out, List.append_assoc]; rfl⟩, hJx3⟩⟩
/-- strings.SplitSeq hands back the closure over three new boxes. -/
theorem splitSeq_any (s : ByteArray) (w : World) : Calls Tryd.prog 69 #[.string s, .string ⟨#[47]⟩, .int .i64 0] w fun e w' =>
    e = .returned (.func (.func 78) #[] #[.pointer (some ⟨w.heap.size + 1, 0, none⟩), .pointer (some ⟨w.heap.size, 0, none⟩), .pointer (some ⟨w.heap.size + 2, 0, none⟩)]) ∧
    w' = ((w.alloc (.cells #[.string s] 9)).alloc (.cells #[.string ⟨#[47]⟩] 9)).alloc (.cells #[.int .i64 0] 3) := by
  go_enter Tryd.func69, Tryd.ntmps69
  go_wp2_with fail
  go_ret
  exact ⟨rfl, rfl⟩
set_option maxRecDepth 100000 in
set_option maxHeartbeats 3200000 in
theorem SplitSeq_any (s : ByteArray) (w : World) : Calls Tryd.prog 50 #[.string s, .string ⟨#[47]⟩] w fun e w' =>
    e = .returned (.func (.func 78) #[] #[.pointer (some ⟨w.heap.size + 1, 0, none⟩), .pointer (some ⟨w.heap.size, 0, none⟩), .pointer (some ⟨w.heap.size + 2, 0, none⟩)]) ∧
    w' = ((w.alloc (.cells #[.string s] 9)).alloc (.cells #[.string ⟨#[47]⟩] 9)).alloc (.cells #[.int .i64 0] 3) := by
  go_enter Tryd.func50, Tryd.ntmps50
  go_wp2_with fail
  (with_reducible refine (splitSeq_any s w).mono ?_)
  rintro e w' ⟨rfl, rfl⟩
  go_wp2_with fail
  go_ret
  exact ⟨rfl, rfl⟩
end Go.Proofs.YtinhjnbgblieeaaDoor
