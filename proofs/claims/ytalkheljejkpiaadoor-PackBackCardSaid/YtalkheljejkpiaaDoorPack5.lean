/- The walks of the keep's twins, turned, packs. -/
import Derived.Test.YtalkheljejkpiaaDoorPack4
import Derived.Test.YtalkheljejkpiaaDoorObB
import Derived.Deep.DeepAppendWide
namespace Go.Proofs.YtalkheljejkpiaaDoor
open Go.RowKit
set_option linter.unusedVariables false
set_option linter.unusedSimpArgs false

def tw (l : List ByteArray) (i k : Nat) : Prop := l.getD i noB ≠ l.getD k noB ∧ sumF (l.getD i noB) = sumF (l.getD k noB)
/-- Two unlike texts of one sum. -/
def Tw (l : List ByteArray) : Prop := ∃ i k, k < i ∧ i < l.length ∧ tw l i k
theorem Tw_of {l : List ByteArray} {x y : ByteArray} (hx : x ∈ l) (hy : y ∈ l) (h : x ≠ y) (hs : sumF x = sumF y) : Tw l := by
  obtain ⟨i, hi, rfl⟩ := List.getElem_of_mem hx
  obtain ⟨k, hk, rfl⟩ := List.getElem_of_mem hy
  have e : ∀ j (hj : j < l.length), l.getD j noB = l[j] := fun j hj => by rw [List.getD, List.getElem?_eq_getElem hj]; rfl
  rcases Nat.lt_trichotomy i k with h1 | h1 | h1
  · exact ⟨k, i, h1, hk, by unfold tw; rw [e _ hi, e _ hk]; exact ⟨fun a => h a.symm, hs.symm⟩⟩
  · subst h1; exact absurd rfl h
  · exact ⟨i, k, h1, hi, by unfold tw; rw [e _ hi, e _ hk]; exact ⟨h, hs⟩⟩
theorem decode_oA : decodeF ⟨#[1, 1, 97]⟩ = (oA, 0) := by
  have := decode_encode good_oA (by rw [encO_oA]; decide)
  rwa [encO_oA] at this
theorem write_oA : (writeF sumF [⟨#[1, 1, 97]⟩] []).2 = 0 := by
  have hw : checkWr [⟨#[1, 1, 97]⟩] = 0 := checkWr_all (fun j hj => by
    obtain rfl : j = 0 := by simpa using hj
    refine rowWr_3 ?_ rfl
    show (decodeF ⟨#[1, 1, 97]⟩).2 = 0
    rw [decode_oA])
  rw [writeF_3 (by simp) hw]
section
variable {P : Program} {w w0 : World} {B : Nat}
/-- 'append(s, x...)', up to 1.6 * 2^47 bytes. -/
theorem wp_append_rdW {o : Oper} {a : Act} {K : Act → World → Prop} {Q : Exit → Act → World → Prop} (s x : Operand) (t : TypeId)
    (ho : o.op = .call { callee := .builtin .append, args := #[s, x], argTypes := #[t, t] })
    {base : Nat} {e : TypeId} {z : Value} {bytes size : Nat} (hinf : infoIs P e z size bytes) (ht : P.underlying t = some (.slice e)) (hzs : z.cells.size = size) (hsz : 0 < size)
    {v : Value} {n m : Nat} {xs ys : List Value} {u : Value} (hown : w.ownsRow base e size v n xs) (hbel : Below B w0 w) (hB : B ≤ base) (hb : base ≤ w.heap.size)
    (hr : rdRow w size u m ys) (h1 : ∀ y ∈ ys, y.oneCell' = true) (hbytes : ((n + m) + (n + m) / 4 + 192) * bytes ≤ 281474976710656) (hle : n + m ≤ maxLen)
    (hs : a.eval s = v) (hx : a.eval x = u)
    (h : ∀ v' w', w'.ownsRow base e size v' (n + m) (xs ++ ys) → Below B w0 w' → K (a.put o.dst v') w') : o.wp P a w K Q := by
  obtain ⟨i, hi, hz, hsize, hbt⟩ := info_parts hinf
  obtain ⟨hl, ao, cap, rfl, hle2, hm, hz0, hc⟩ := hr
  cases ao with
  | none =>
    have hcap := hz0 rfl
    have hm0 : m = 0 := by omega
    subst hcap hm0
    have hy : ys = [] := List.eq_nil_of_length_eq_zero (by rw [hl, Nat.zero_mul])
    subst hy
    have hrun := run_append_owned_none (P := P) w base t o.type e i size ht hi v n xs hown
    unfold Oper.wp execOp
    simp only [ho, resolve, invoke, builtin, Sem.run_bind, Sem.run_pure, Result.andThen_ok, List.map_toArray, List.map_cons, List.map_nil, hs, hx, hrun]
    exact h v w (by simpa using hown) hbel
  | some ad =>
    refine wp_append_own_wide _ s x t ho base e i z size bytes ht hi hz hsize hbt hzs hsz v n xs hs hown ad m cap ys hx hl (hc ad rfl) h1 hle hbytes hb ?_
    intro v' w' hown' hgrow _
    refine h v' w' hown' (hbel.grown hgrow (by have := hbel.size; omega) ?_)
    intro k hk
    have := (hown.lt k hk).1; omega
end
set_option maxRecDepth 100000 in
set_option maxHeartbeats 3200000 in
theorem packs_any (w : World) (ht : Tab w) : Calls Tryd.prog 11 #[] w fun e w' => e = .returned (.bool true) ∧ Below w.heap.size w w' := by
  have HT := Lib.hid (fun wr (h : Below w.heap.size w wr) => ht.below h)
  obtain ⟨x, hx⟩ : ∃ x : ByteArray, (⟨#[1, 1, 97]⟩ : ByteArray) = x := ⟨_, rfl⟩
  have HX := Lib.hid hx
  obtain ⟨W, hW⟩ : ∃ W, w.alloc (.cells #[.string x] 9) = W := ⟨_, rfl⟩
  have hb1 : Below w.heap.size w W := by rw [← hW]; exact (Below.refl _ _).alloc (Nat.le_refl _) _
  have hr1 : rdS W (.slice (some ⟨w.heap.size, 0, none⟩) 1 1) [x] := by
    have := rdS_owns (ss := [x]) (owns_new w x)
    rw [hW] at this; exact this
  have hsm : smalls [x] := fun s hs => by rw [List.mem_singleton.1 hs, ← HX.out]; decide
  have HC1 := Lib.hid (write_any [x] [] _ (.slice none 0 0) W hr1 (rdS_nil _) hsm (fun _ h => by cases h) (HT.out _ hb1))
  have HW1 := Lib.hid hb1
  obtain ⟨⟨s, e0⟩, hq⟩ : ∃ q, q = writeF sumF [x] [] := ⟨_, rfl⟩
  have he0 : e0 = 0 := by have := write_oA; rw [HX.out, ← hq] at this; exact this
  subst he0
  rw [← hq] at HC1
  have hrb := read_back sumF sumF_size (outs := []) hq.symm (fun _ h => by cases h)
  have HRB := Lib.hid hrb
  have hsz := write_size sumF sumF_size hq.symm
  have HSZ := Lib.hid (show s.size ≤ 140737488355328 by refine Nat.le_trans hsz ?_; rw [← HX.out]; decide)
  have hoo := beq_yes x
  clear hx hb1 hr1 hsm ht hq hrb hsz
  go_enter Tryd.func11, Tryd.ntmps11
  go_wp2_with fail
  rw [HX.out, hW]
  (with_reducible refine HC1.out.mono ?_)
  rintro e w2 ⟨rfl, hb⟩
  have HB2 := Lib.hid (HW1.out.trans (hb.mono HW1.out.size))
  have HC2 := Lib.hid (read_any' s [] (.slice none 0 0) w2 HSZ.out (rdS_nil _) (fun _ h => by cases h) (HT.out _ HB2.out))
  rw [HRB.out] at HC2
  clear hb HC1 hW
  go_wp2_with fail
  (with_reducible refine HC2.out.mono ?_)
  rintro e w3 ⟨v, rfl, hr, hb⟩
  have HB3 := Lib.hid (HB2.out.trans (hb.mono HB2.out.size))
  obtain ⟨b, off, cap, rfl, hlt, hc⟩ := rdS_all hr (by simp)
  have e0 : w3.cell? ⟨b, off, none⟩ = some (.string x) := hc 0 (by simp)
  clear hb HC2 hr hc
  rw [HX.out] at *
  go_wp2_with fail
  go_ret
  exact ⟨rfl, HB3.out⟩
theorem rdB_one {w : World} {n : Nat} {q : UInt8} (h : w.heap[n]? = some (.cells #[.int .u8 (q.toNat : Int)] 5 (0, 0))) : rdRow w 1 (.slice (some ⟨n, 0, none⟩) 1 1) 1 (bvs [q]) := by
  refine ⟨rfl, some ⟨n, 0, none⟩, 1, rfl, Nat.le_refl _, by decide, (fun h => by cases h), fun b hb j u hu => ?_⟩
  obtain rfl := Option.some.inj hb
  have hj : j = 0 := by have := (List.getElem?_eq_some_iff.1 hu).1; simpa [bvs] using this
  subst hj
  have : u = .int .u8 (q.toNat : Int) := by simpa [bvs] using hu.symm
  subst this
  simp [World.cell?, Addr.add, h]
set_option maxRecDepth 100000 in
set_option maxHeartbeats 3200000 in
theorem turned_any (s : ByteArray) (at_ : Nat) (by_ : Int) (w : World) (h1 : at_ < s.size) (h2 : s.size ≤ 140737488355328) (h3 : 0 ≤ by_) (h4 : by_ < 256) :
    Calls Tryd.prog 15 #[.string s, .int .i64 (at_ : Int), .int .u8 by_] w fun e w' => (∃ t : ByteArray, t.size = s.size ∧ e = .returned (.string t)) ∧ Below w.heap.size w w' := by
  obtain ⟨c, hc⟩ : ∃ c : UInt8, by_ = (c.toNat : Int) := ⟨UInt8.ofNat by_.toNat, by rw [UInt8.toNat_ofNat']; omega⟩
  subst hc
  obtain ⟨p1, hp1⟩ : ∃ p, s.extract 0 at_ = p := ⟨_, rfl⟩
  obtain ⟨a1, ha1⟩ : ∃ a1, a1 = at_ + 1 := ⟨_, rfl⟩
  have hw : IntKind.i64.wrap ((at_ : Int) + 1) = (a1 : Int) := by rw [IntWalk.i64_in _ (by omega)]; omega
  obtain ⟨p2, hp2⟩ : ∃ p, s.extract a1 s.size = p := ⟨_, rfl⟩
  have hz1 : p1.size = at_ := by rw [← hp1, ByteArray.size_extract]; omega
  have hz2 : p2.size = s.size - a1 := by rw [← hp2, ByteArray.size_extract]; omega
  have hat : (at_ : Int) < (s.size : Int) := by omega
  have hat0 : (0 : Int) ≤ (at_ : Int) := by omega
  have hle : at_ ≤ s.size := by omega
  have hle2 : a1 ≤ s.size := by omega
  have HA1 := Lib.hid ha1
  clear ha1
  by_cases h0 : c = 0
  · have n1 : ((c.toNat : Int) == 0) = true := by rw [h0]; rfl
    clear h0
    obtain ⟨q, hq⟩ : ∃ q, q = s[at_] ^^^ (1 : UInt8) := ⟨_, rfl⟩
    have hx : bits .xor .u8 (s[at_].toNat : Int) 1 = (q.toNat : Int) := by rw [hq]; exact xor_u8 _ 1
    obtain ⟨p0, hp0⟩ : ∃ p, (⟨[q].toArray⟩ : ByteArray) = p := ⟨_, rfl⟩
    have hz0 : p0.size = 1 := by rw [← hp0]; rfl
    clear hq
    go_enter Tryd.func15, Tryd.ntmps15
    go_wp2_with fail
    refine Lone.wp_region_order [(0, false), (1, false), (2, false), (3, false), (4, false), (5, false), (6, false), (7, false), (11, false), (12, false), (13, false), (14, false), (8, true), (9, false), (10, false), (15, false), (16, false)] (fun _ => True) (by kernel_rfl) (by kernel_rfl) rfl (by kernel_rfl) (by intro _ _ d _ _ h; cases d <;> exact h) (trivial) ?_; simp only [List.map_cons, List.map_nil, List.getElem?_toArray, List.getElem?_cons_zero, List.getElem?_cons_succ, Option.getD_some]
    repeat (first | (refine Lone.ro_q (by rfl) (v := ?_) ?_ ?_; rotate_left; (focus (intro w' hSw; (try dsimp only at hSw); go_simp; try with_reducible rfl)); simp only [Act.put, List.setIfInBounds_toArray, List.set_cons_zero, List.set_cons_succ]) | (refine Lone.ro_skip (by rfl) ?_; simp only [Act.put, List.setIfInBounds_toArray, List.set_cons_zero, List.set_cons_succ]))
    (refine Lone.ro_loud (by rfl) (fun K hK => ?_); go_simp)
    have hb1 : Below w.heap.size w (w.drew.alloc (.cells #[.int .u8 (q.toNat : Int)] 5)) := (Below.refl w.heap.size w).drew.alloc (Nat.le_refl _) _
    have hr1 : rdRow (w.drew.alloc (.cells #[.int .u8 (q.toNat : Int)] 5)) 1 (.slice (some ⟨w.heap.size, 0, none⟩) 1 1) 1 (bvs [q]) := rdB_one (heap_alloc_new w.drew _)
    have HB1 := Lib.hid hb1
    (refine hK.out _ _ (fun w' => rdRow w' 1 (.slice (some ⟨w.heap.size, 0, none⟩) 1 1) 1 (bvs [q])) (.inl fun _ _ => trivial) (hr1) ?_; clear hK K; try simp only [Act.put, List.setIfInBounds_toArray, List.set_cons_zero, List.set_cons_succ])
    clear hr1 hb1
    refine Lone.ro_q (by rfl) (v := .string p0) (fun w' hSw => by have hk := run_bytes_string (P := Tryd.prog) (src := 65) (e := 5) (dst := 9) Tryd.underlying65 Tryd.underlying5 Tryd.underlying9 hSw; rw [hp0] at hk; simp only [execOp, Act.eval, List.getElem?_toArray, List.getElem?_cons_zero, List.getElem?_cons_succ, Array.getD_eq_getD_getElem?, Option.getD_some, Option.map_some, Option.map_none, Sem.run_bind, hk, Result.andThen, Sem.run_pure]) ?_; simp only [Act.put, List.setIfInBounds_toArray, List.set_cons_zero, List.set_cons_succ]
    refine Lone.ro_q (by rfl) (v := .string (p1 ++ p0)) (fun w' hSw => by go_simp <;> omega) ?_; simp only [Act.put, List.setIfInBounds_toArray, List.set_cons_zero, List.set_cons_succ]
    refine Lone.ro_q (by rfl) (v := .string (p1 ++ p0 ++ p2)) (fun w' hSw => by go_simp <;> omega) ?_; simp only [Act.put, List.setIfInBounds_toArray, List.set_cons_zero, List.set_cons_succ]
    repeat (first | (refine Lone.ro_q (by rfl) (v := ?_) ?_ ?_; rotate_left; (focus (intro w' hSw; (try dsimp only at hSw); go_simp; try with_reducible rfl)); simp only [Act.put, List.setIfInBounds_toArray, List.set_cons_zero, List.set_cons_succ]) | (refine Lone.ro_skip (by rfl) ?_; simp only [Act.put, List.setIfInBounds_toArray, List.set_cons_zero, List.set_cons_succ]))
    refine Lone.ro_nil ?_
    go_wp2_with fail
    go_ret
    exact ⟨⟨p1 ++ p0 ++ p2, by rw [ByteArray.size_append, ByteArray.size_append]; have := HA1.out; omega, rfl⟩, HB1.out⟩
  · have n1 : ((c.toNat : Int) == 0) = false := beq_eq_false_iff_ne.2 (fun e => h0 (UInt8.toNat_inj.1 (by have h80 : (0 : UInt8).toNat = 0 := rfl; omega)))
    clear h0
    obtain ⟨q, hq⟩ : ∃ q, q = s[at_] ^^^ c := ⟨_, rfl⟩
    have hx : bits .xor .u8 (s[at_].toNat : Int) (c.toNat : Int) = (q.toNat : Int) := by rw [hq]; exact xor_u8 _ _
    obtain ⟨p0, hp0⟩ : ∃ p, (⟨[q].toArray⟩ : ByteArray) = p := ⟨_, rfl⟩
    have hz0 : p0.size = 1 := by rw [← hp0]; rfl
    clear hq
    go_enter Tryd.func15, Tryd.ntmps15
    go_wp2_with fail
    refine Lone.wp_region_order [(0, false), (1, false), (2, false), (3, false), (4, false), (5, false), (6, false), (7, false), (11, false), (12, false), (13, false), (14, false), (8, true), (9, false), (10, false), (15, false), (16, false)] (fun _ => True) (by kernel_rfl) (by kernel_rfl) rfl (by kernel_rfl) (by intro _ _ d _ _ h; cases d <;> exact h) (trivial) ?_; simp only [List.map_cons, List.map_nil, List.getElem?_toArray, List.getElem?_cons_zero, List.getElem?_cons_succ, Option.getD_some]
    repeat (first | (refine Lone.ro_q (by rfl) (v := ?_) ?_ ?_; rotate_left; (focus (intro w' hSw; (try dsimp only at hSw); go_simp; try with_reducible rfl)); simp only [Act.put, List.setIfInBounds_toArray, List.set_cons_zero, List.set_cons_succ]) | (refine Lone.ro_skip (by rfl) ?_; simp only [Act.put, List.setIfInBounds_toArray, List.set_cons_zero, List.set_cons_succ]))
    (refine Lone.ro_loud (by rfl) (fun K hK => ?_); go_simp)
    have hb1 : Below w.heap.size w (w.drew.alloc (.cells #[.int .u8 (q.toNat : Int)] 5)) := (Below.refl w.heap.size w).drew.alloc (Nat.le_refl _) _
    have hr1 : rdRow (w.drew.alloc (.cells #[.int .u8 (q.toNat : Int)] 5)) 1 (.slice (some ⟨w.heap.size, 0, none⟩) 1 1) 1 (bvs [q]) := rdB_one (heap_alloc_new w.drew _)
    have HB1 := Lib.hid hb1
    (refine hK.out _ _ (fun w' => rdRow w' 1 (.slice (some ⟨w.heap.size, 0, none⟩) 1 1) 1 (bvs [q])) (.inl fun _ _ => trivial) (hr1) ?_; clear hK K; try simp only [Act.put, List.setIfInBounds_toArray, List.set_cons_zero, List.set_cons_succ])
    clear hr1 hb1
    refine Lone.ro_q (by rfl) (v := .string p0) (fun w' hSw => by have hk := run_bytes_string (P := Tryd.prog) (src := 65) (e := 5) (dst := 9) Tryd.underlying65 Tryd.underlying5 Tryd.underlying9 hSw; rw [hp0] at hk; simp only [execOp, Act.eval, List.getElem?_toArray, List.getElem?_cons_zero, List.getElem?_cons_succ, Array.getD_eq_getD_getElem?, Option.getD_some, Option.map_some, Option.map_none, Sem.run_bind, hk, Result.andThen, Sem.run_pure]) ?_; simp only [Act.put, List.setIfInBounds_toArray, List.set_cons_zero, List.set_cons_succ]
    refine Lone.ro_q (by rfl) (v := .string (p1 ++ p0)) (fun w' hSw => by go_simp <;> omega) ?_; simp only [Act.put, List.setIfInBounds_toArray, List.set_cons_zero, List.set_cons_succ]
    refine Lone.ro_q (by rfl) (v := .string (p1 ++ p0 ++ p2)) (fun w' hSw => by go_simp <;> omega) ?_; simp only [Act.put, List.setIfInBounds_toArray, List.set_cons_zero, List.set_cons_succ]
    repeat (first | (refine Lone.ro_q (by rfl) (v := ?_) ?_ ?_; rotate_left; (focus (intro w' hSw; (try dsimp only at hSw); go_simp; try with_reducible rfl)); simp only [Act.put, List.setIfInBounds_toArray, List.set_cons_zero, List.set_cons_succ]) | (refine Lone.ro_skip (by rfl) ?_; simp only [Act.put, List.setIfInBounds_toArray, List.set_cons_zero, List.set_cons_succ]))
    refine Lone.ro_nil ?_
    go_wp2_with fail
    go_ret
    exact ⟨⟨p1 ++ p0 ++ p2, by rw [ByteArray.size_append, ByteArray.size_append]; have := HA1.out; omega, rfl⟩, HB1.out⟩
set_option maxRecDepth 100000 in
set_option maxHeartbeats 3200000 in
theorem twins_any (l : List ByteArray) (v : Value) (w : World) (hr : rdS w v l) (ht : Tab w) :
    Calls Tryd.prog 14 #[v] w fun e w' => (∃ r : Bool, e = .returned (.bool r) ∧ (r = true ↔ Tw l)) ∧ Below w.heap.size w w' := by
  have HL := Lib.hid (fun wr (h : Below w.heap.size w wr) => hr.below h)
  have HT := Lib.hid (fun wr (h : Below w.heap.size w wr) => ht.below h)
  have HLN := Lib.hid (rdS_len hr)
  have HB0 := Lib.hid (Below.refl w.heap.size w)
  obtain ⟨a1, a2, rfl⟩ := rd_form hr
  clear hr ht
  go_enter Tryd.func14, Tryd.ntmps14
  go_wp2_with fail
  go_loopw [3] (fun s3 wr => ∃ i : Nat, i ≤ l.length ∧ s3 = .int .i64 (i : Int) ∧ Hid (∀ i', i' < i → ∀ k, k < i' → ¬ tw l i' k) ∧ Hid (Below w.heap.size w wr)) (fun s3 _ => l.length - (intOf s3).toNat)
  case atStart => exact ⟨0, Nat.zero_le _, rfl, Lib.hid fun i hi => absurd hi (Nat.not_lt_zero _), HB0⟩
  case round =>
    clear HB0
    obtain ⟨i, hi, rfl, HALL, HB1⟩ := hrel
    by_cases hil : i < l.length
    · have HIL := Lib.hid hil
      have ib : decide ((i : Int) < (l.length : Int)) = true := decide_eq_true (by omega)
      have ii : (i : Int) < (l.length : Int) := by omega
      have iz : (0 : Int) ≤ (i : Int) := by omega
      have hI1 : i + 1 ≤ l.length := hil
      have hi63 : (i : Int) + 1 ≤ 9223372036854775807 := by have := HLN.out; omega
      obtain ⟨b, off, hb, _, _⟩ := rdS_at' (HL.out _ HB1.out) (by omega)
      subst hb
      obtain ⟨x, hx⟩ : ∃ x, x = l.getD i noB := ⟨_, rfl⟩
      have HX := Lib.hid (fun wr (h : Below w.heap.size w wr) => ((rdS_cl (HL.out wr h) HIL.out).trans (by rw [← hx]) : wr.cell? ⟨b, off + i, none⟩ = some (.string x)))
      have HXE := Lib.hid hx
      clear hx hil
      go_wp2_with fail
      go_loopw [4] (fun s4 wr => ∃ k : Nat, k ≤ i ∧ s4 = .int .i64 (k : Int) ∧ Hid (∀ k', k' < k → ¬ tw l i k') ∧ Hid (Below w.heap.size w wr)) (fun s4 _ => i - (intOf s4).toNat)
      case atStart => exact ⟨0, Nat.zero_le _, rfl, Lib.hid fun k hk => absurd hk (Nat.not_lt_zero _), HB1⟩
      case round =>
        clear HB1
        obtain ⟨k, hk, rfl, HALK, HB2⟩ := hrel
        by_cases hki : k < i
        · have HKI := Lib.hid hki
          have kb : decide ((k : Int) < (i : Int)) = true := decide_eq_true (by omega)
          have kb2 : decide (k < i) = true := decide_eq_true hki
          have kl : (k : Int) < (l.length : Int) := by omega
          have kz : (0 : Int) ≤ (k : Int) := by omega
          have hK1 : k + 1 ≤ i := hki
          obtain ⟨y, hy⟩ : ∃ y, y = l.getD k noB := ⟨_, rfl⟩
          have HY := Lib.hid (fun wr (h : Below w.heap.size w wr) => ((rdS_cl (HL.out wr h) (Nat.lt_trans HKI.out HIL.out)).trans (by rw [← hy]) : wr.cell? ⟨b, off + k, none⟩ = some (.string y)))
          have HYE := Lib.hid hy
          have HBd := Lib.hid (below_drew HB2.out)
          have e0 := HX.out _ HBd.out
          have e1 := HY.out _ HBd.out
          clear hy hki
          by_cases hxy : x = y
          · subst hxy
            have m1 := beq_yes x
            have m2 : (x.toList != x.toList) = false := by rw [bne, m1]; rfl
            have HALL2 := Lib.hid (show ∀ k', k' < k + 1 → ¬ tw l i k' from fun k' hk' => by
              by_cases hkk : k' = k
              · rw [hkk]; exact fun h => h.1 (by rw [← HXE.out, ← HYE.out])
              · exact HALK.out k' (by omega))
            go_wp2_with fail
            refine Lone.wp_region_order [(0, false), (1, false), (2, false), (3, false), (4, false), (5, false), (6, false), (7, false), (8, false), (9, false), (10, false), (11, false), (12, false), (13, false), (15, false), (16, false), (17, false), (18, false), (14, true), (19, true), (20, false), (21, false)] (fun w' => w'.cell? ⟨b, off + i, none⟩ = some (.string x) ∧ w'.cell? ⟨b, off + k, none⟩ = some (.string x)) (by kernel_rfl) (by kernel_rfl) rfl (by kernel_rfl) (by intro _ _ d _ _ h; cases d <;> exact h) (⟨e0, e1⟩) ?_; simp only [List.map_cons, List.map_nil, List.getElem?_toArray, List.getElem?_cons_zero, List.getElem?_cons_succ, Option.getD_some]
            repeat (first | (refine Lone.ro_q (by rfl) (v := ?_) ?_ ?_; rotate_left; (focus (intro w' hSw; (try dsimp only at hSw); go_simp; try with_reducible rfl)); simp only [Act.put, List.setIfInBounds_toArray, List.set_cons_zero, List.set_cons_succ]) | (refine Lone.ro_skip (by rfl) ?_; simp only [Act.put, List.setIfInBounds_toArray, List.set_cons_zero, List.set_cons_succ]))
            (refine Lone.ro_skipL (by rfl) ⟨e0, e1⟩ ?_; simp only [Act.put, List.setIfInBounds_toArray, List.set_cons_zero, List.set_cons_succ])
            (refine Lone.ro_skipL (by rfl) ⟨e0, e1⟩ ?_; simp only [Act.put, List.setIfInBounds_toArray, List.set_cons_zero, List.set_cons_succ])
            repeat (first | (refine Lone.ro_q (by rfl) (v := ?_) ?_ ?_; rotate_left; (focus (intro w' hSw; (try dsimp only at hSw); go_simp; try with_reducible rfl)); simp only [Act.put, List.setIfInBounds_toArray, List.set_cons_zero, List.set_cons_succ]) | (refine Lone.ro_skip (by rfl) ?_; simp only [Act.put, List.setIfInBounds_toArray, List.set_cons_zero, List.set_cons_succ]))
            (refine Lone.ro_nil ?_; go_wp2_with fail)
            have HBz := Lib.hid HBd.out
            go_roundw
            case rel => exact ⟨k + 1, hK1, rfl, HALL2, HBz⟩
            case measure => exact meas_step (n := i) _ rfl HKI.out
          · have m1 := beq_no hxy
            have m2 : (x.toList != y.toList) = true := by rw [bne, m1]; rfl
            obtain ⟨sx, hsx⟩ : ∃ s, s = sumF x := ⟨_, rfl⟩
            obtain ⟨sy, hsy⟩ : ∃ s, s = sumF y := ⟨_, rfl⟩
            have HIX := Lib.hid (fun wr (h : Below w.heap.size w wr) => id_any x wr (HT.out wr h))
            have HIY := Lib.hid (fun wr (h : Below w.heap.size w wr) => id_any y wr (HT.out wr h))
            rw [← hsx] at HIX
            rw [← hsy] at HIY
            have HSX := Lib.hid hsx
            have HSY := Lib.hid hsy
            have HXY := Lib.hid hxy
            clear hsx hsy hxy
            go_wp2_with fail
            refine Lone.wp_region_order [(0, false), (1, false), (2, false), (3, false), (4, false), (5, false), (6, false), (7, false), (8, false), (9, false), (10, false), (11, false), (12, false), (13, false), (15, false), (16, false), (17, false), (18, false), (14, true), (19, true), (20, false), (21, false)] (fun w' => w'.cell? ⟨b, off + i, none⟩ = some (.string x) ∧ w'.cell? ⟨b, off + k, none⟩ = some (.string y)) (by kernel_rfl) (by kernel_rfl) rfl (by kernel_rfl) (by intro _ _ d _ _ h; cases d <;> exact h) (⟨e0, e1⟩) ?_; simp only [List.map_cons, List.map_nil, List.getElem?_toArray, List.getElem?_cons_zero, List.getElem?_cons_succ, Option.getD_some]
            repeat (first | (refine Lone.ro_q (by rfl) (v := ?_) ?_ ?_; rotate_left; (focus (intro w' hSw; (try dsimp only at hSw); go_simp; try with_reducible rfl)); simp only [Act.put, List.setIfInBounds_toArray, List.set_cons_zero, List.set_cons_succ]) | (refine Lone.ro_skip (by rfl) ?_; simp only [Act.put, List.setIfInBounds_toArray, List.set_cons_zero, List.set_cons_succ]))
            (refine Lone.ro_loud (by rfl) (fun K hK => ?_); go_simp)
            (with_reducible refine (HIX.out _ HBd.out).mono ?_)
            rintro e w4 ⟨rfl, hb⟩
            have HB4 := Lib.hid (HBd.out.trans (hb.mono HBd.out.size))
            clear hb HIX e0 e1
            have e0 := HX.out _ HB4.out
            have e1 := HY.out _ HB4.out
            (refine hK.out _ _ (fun w' => w'.cell? ⟨b, off + i, none⟩ = some (.string x) ∧ w'.cell? ⟨b, off + k, none⟩ = some (.string y)) (.inl fun _ h => h) (⟨e0, e1⟩) ?_; clear hK K; try simp only [Act.put, List.setIfInBounds_toArray, List.set_cons_zero, List.set_cons_succ])
            repeat (first | (refine Lone.ro_q (by rfl) (v := ?_) ?_ ?_; rotate_left; (focus (intro w' hSw; (try dsimp only at hSw); go_simp; try with_reducible rfl)); simp only [Act.put, List.setIfInBounds_toArray, List.set_cons_zero, List.set_cons_succ]) | (refine Lone.ro_skip (by rfl) ?_; simp only [Act.put, List.setIfInBounds_toArray, List.set_cons_zero, List.set_cons_succ]))
            (refine Lone.ro_loud (by rfl) (fun K hK => ?_); go_simp)
            (with_reducible refine (HIY.out _ HB4.out).mono ?_)
            rintro e w5 ⟨rfl, hb⟩
            have HB5 := Lib.hid (HB4.out.trans (hb.mono HB4.out.size))
            clear hb HIY e0 e1
            have e0 := HX.out _ HB5.out
            have e1 := HY.out _ HB5.out
            (refine hK.out _ _ (fun w' => w'.cell? ⟨b, off + i, none⟩ = some (.string x) ∧ w'.cell? ⟨b, off + k, none⟩ = some (.string y)) (.inl fun _ h => h) (⟨e0, e1⟩) ?_; clear hK K; try simp only [Act.put, List.setIfInBounds_toArray, List.set_cons_zero, List.set_cons_succ])
            by_cases hs : sx = sy
            · have q1 : (sx.toList == sy.toList) = true := by rw [hs]; exact beq_yes _
              have HTW := Lib.hid (show Tw l from ⟨i, k, HKI.out, HIL.out, by unfold tw; rw [← HXE.out, ← HYE.out]; exact ⟨HXY.out, by rw [← HSX.out, ← HSY.out]; exact hs⟩⟩)
              clear hs
              repeat (first | (refine Lone.ro_q (by rfl) (v := ?_) ?_ ?_; rotate_left; (focus (intro w' hSw; (try dsimp only at hSw); go_simp; try with_reducible rfl)); simp only [Act.put, List.setIfInBounds_toArray, List.set_cons_zero, List.set_cons_succ]) | (refine Lone.ro_skip (by rfl) ?_; simp only [Act.put, List.setIfInBounds_toArray, List.set_cons_zero, List.set_cons_succ]))
              refine Lone.ro_nil ?_
              clear m1 m2 q1 e0 e1
              go_wp2_with fail
              go_ret
              exact ⟨⟨true, rfl, ⟨fun _ => HTW.out, fun _ => rfl⟩⟩, HB5.out⟩
            · have q1 : (sx.toList == sy.toList) = false := beq_no hs
              have HALL2 := Lib.hid (show ∀ k', k' < k + 1 → ¬ tw l i k' from fun k' hk' => by
                by_cases hkk : k' = k
                · rw [hkk]; exact fun h => hs (by rw [HSX.out, HSY.out, HXE.out, HYE.out]; exact h.2)
                · exact HALK.out k' (by omega))
              clear hs
              repeat (first | (refine Lone.ro_q (by rfl) (v := ?_) ?_ ?_; rotate_left; (focus (intro w' hSw; (try dsimp only at hSw); go_simp; try with_reducible rfl)); simp only [Act.put, List.setIfInBounds_toArray, List.set_cons_zero, List.set_cons_succ]) | (refine Lone.ro_skip (by rfl) ?_; simp only [Act.put, List.setIfInBounds_toArray, List.set_cons_zero, List.set_cons_succ]))
              refine Lone.ro_nil ?_
              clear m1 m2 q1 e0 e1
              go_wp2_with fail
              have HBz := Lib.hid HB5.out
              go_roundw
              case rel => exact ⟨k + 1, hK1, rfl, HALL2, HBz⟩
              case measure => exact meas_step (n := i) _ rfl HKI.out
        · have kb : decide ((k : Int) < (i : Int)) = false := decide_eq_false (by omega)
          have kb2 : decide (k < i) = false := decide_eq_false hki
          have HALL2 := Lib.hid (show ∀ i', i' < i + 1 → ∀ k', k' < i' → ¬ tw l i' k' from fun i' hi' k' hk' => by
            by_cases hii : i' = i
            · subst hii; exact HALK.out k' (by omega)
            · exact HALL.out i' (by omega) k' hk')
          clear hki
          go_wp2_with fail
          exact ⟨⟨i + 1, hI1, rfl, HALL2, HB2⟩, meas_step (n := l.length) _ rfl HIL.out⟩
    · have ib : decide ((i : Int) < (l.length : Int)) = false := decide_eq_false (by omega)
      have ib2 : decide (i < l.length) = false := decide_eq_false hil
      have HNT := Lib.hid (show ¬ Tw l from fun ⟨i', k, h1, h2, h3⟩ => HALL.out i' (by omega) k h1 h3)
      clear hil
      go_wp2_with fail
      go_ret
      exact ⟨⟨false, rfl, ⟨fun h => Bool.noConfusion h, fun h => absurd h HNT.out⟩⟩, HB1.out⟩
end Go.Proofs.YtalkheljejkpiaaDoor
