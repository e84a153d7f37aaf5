/- The walk of sum.Add. -/
import Derived.Test.YtinhjnbgblieeaaDoorSumGood
import Derived.Test.YtinhjnbgblieeaaDoorBytes
namespace Go.Proofs.YtinhjnbgblieeaaDoor
open Go.RowKit
set_option linter.unusedVariables false
set_option linter.unusedSimpArgs false

/-- The heads behind n blocks. -/
def blkN (hd : Hd) (b : ByteArray) : Nat → Hd
  | 0 => hd
  | n + 1 => blockF (blkN hd b n) (b.extract (64 * n) (64 * n + 64))
theorem blkN_ok (hd : Hd) (b : ByteArray) (h : hd.ok) : ∀ n, (blkN hd b n).ok
  | 0 => h
  | n + 1 => blockF_ok _ _
/-- What Add answers. -/
def addOk (s : St) (b : ByteArray) : Bool := goodB s && (decide ((b.size : Int) ≤ 576460752303423488) && decide (s.many + b.size < 1152921504606846976))
def addF (s : St) (b : ByteArray) : St :=
  let x := s.rest ++ b
  ⟨blkN s.heads x (x.size / 64), x.extract (64 * (x.size / 64)) x.size, s.many + b.size⟩
def noSt : St := ⟨⟨0, 0, 0, 0, 0, 0, 0, 0⟩, ⟨#[]⟩, 0⟩
theorem block10 {w : World} {g : Nat} {s : St} {t : TypeId} (h : w.heap[g]? = some (.cells (stCells s).toArray t (0, 0))) :
    w.cell? ⟨g, 0, none⟩ = some (.int .u32 s.heads.a) ∧ w.cell? ⟨g, 1, none⟩ = some (.int .u32 s.heads.b) ∧ w.cell? ⟨g, 2, none⟩ = some (.int .u32 s.heads.c) ∧ w.cell? ⟨g, 3, none⟩ = some (.int .u32 s.heads.d) ∧
    w.cell? ⟨g, 4, none⟩ = some (.int .u32 s.heads.e) ∧ w.cell? ⟨g, 5, none⟩ = some (.int .u32 s.heads.f) ∧ w.cell? ⟨g, 6, none⟩ = some (.int .u32 s.heads.g) ∧ w.cell? ⟨g, 7, none⟩ = some (.int .u32 s.heads.h) ∧
    w.cell? ⟨g, 8, none⟩ = some (.string s.rest) ∧ w.cell? ⟨g, 9, none⟩ = some (.int .i64 s.many) := by
  refine ⟨?_, ?_, ?_, ?_, ?_, ?_, ?_, ?_, ?_, ?_⟩ <;> rw [row_cell h] <;> rfl

/-- The blocks of Add: the state at work, the answer. -/
structure AddW (w wr : World) (s r : St) : Prop where
  h0 : wr.heap[w.heap.size]? = some (.cells (stCells s).toArray 105 (0, 0))
  h1 : wr.heap[w.heap.size + 1]? = some (.cells (stCells r).toArray 105 (0, 0))
  bel : Below w.heap.size w wr
theorem AddW.below' {w wr wn : World} {s r : St} (h : AddW w wr s r) (hb : Below wr.heap.size wr wn) : AddW w wn s r := by
  have l0 := lt_of_block h.h0
  have l1 := lt_of_block h.h1
  exact ⟨by rw [hb.block _ l0]; exact h.h0, by rw [hb.block _ l1]; exact h.h1, h.bel.trans (hb.mono (by omega))⟩
theorem addW_start (w : World) (s r : St) : AddW w ((w.alloc (.cells (stCells s).toArray 105)).alloc (.cells (stCells r).toArray 105)) s r :=
  ⟨by rw [Below.heap_alloc _ _ _ (by simp)]; exact heap_alloc_new _ _, by have := heap_alloc_new (w.alloc (.cells (stCells s).toArray 105)) (.cells (stCells r).toArray 105); simpa using this, ((Below.refl _ _).alloc (Nat.le_refl _) _).alloc (by simp) _⟩
theorem AddW.drew {w wr : World} {s r : St} (h : AddW w wr s r) : AddW w wr.drew s r := ⟨h.h0, h.h1, h.bel.drew⟩

theorem AddW.many {w wr : World} {s r : St} (h : AddW w wr s r) (v : Int) : AddW w (wr.setCell ⟨w.heap.size, 9, none⟩ (.int .i64 v)) ⟨s.heads, s.rest, v⟩ r :=
  ⟨row_set h.h0 9 _, by rw [Below.heap_setCell _ _ _ _ (by simp)]; exact h.h1, h.bel.setCell (Nat.le_refl _) _⟩
theorem AddW.rest {w wr : World} {s r : St} (h : AddW w wr s r) (v : ByteArray) : AddW w (wr.setCell ⟨w.heap.size, 8, none⟩ (.string v)) ⟨s.heads, v, s.many⟩ r :=
  ⟨row_set h.h0 8 _, by rw [Below.heap_setCell _ _ _ _ (by simp)]; exact h.h1, h.bel.setCell (Nat.le_refl _) _⟩
theorem cells_set8 {w : World} {g : Nat} {s : St} {t : TypeId} (h : w.heap[g]? = some (.cells (stCells s).toArray t (0, 0))) (x : Hd) :
    ((((((((w.setCell ⟨g, 0, none⟩ (.int .u32 x.a)).setCell ⟨g, 1, none⟩ (.int .u32 x.b)).setCell ⟨g, 2, none⟩ (.int .u32 x.c)).setCell ⟨g, 3, none⟩ (.int .u32 x.d)).setCell ⟨g, 4, none⟩ (.int .u32 x.e)).setCell ⟨g, 5, none⟩ (.int .u32 x.f)).setCell ⟨g, 6, none⟩ (.int .u32 x.g)).setCell ⟨g, 7, none⟩ (.int .u32 x.h)).heap[g]? = some (.cells (stCells ⟨x, s.rest, s.many⟩).toArray t (0, 0)) :=
  row_set (row_set (row_set (row_set (row_set (row_set (row_set (row_set h 0 _) 1 _) 2 _) 3 _) 4 _) 5 _) 6 _) 7 _
theorem AddW.heads {w wr : World} {s r : St} (h : AddW w wr s r) (x : Hd) :
    AddW w ((((((((wr.setCell ⟨w.heap.size, 0, none⟩ (.int .u32 x.a)).setCell ⟨w.heap.size, 1, none⟩ (.int .u32 x.b)).setCell ⟨w.heap.size, 2, none⟩ (.int .u32 x.c)).setCell ⟨w.heap.size, 3, none⟩ (.int .u32 x.d)).setCell ⟨w.heap.size, 4, none⟩ (.int .u32 x.e)).setCell ⟨w.heap.size, 5, none⟩ (.int .u32 x.f)).setCell ⟨w.heap.size, 6, none⟩ (.int .u32 x.g)).setCell ⟨w.heap.size, 7, none⟩ (.int .u32 x.h)) ⟨x, s.rest, s.many⟩ r :=
  ⟨cells_set8 h.h0 x, by rw [Below.heap_setCell _ _ _ _ (by simp), Below.heap_setCell _ _ _ _ (by simp), Below.heap_setCell _ _ _ _ (by simp), Below.heap_setCell _ _ _ _ (by simp), Below.heap_setCell _ _ _ _ (by simp), Below.heap_setCell _ _ _ _ (by simp), Below.heap_setCell _ _ _ _ (by simp), Below.heap_setCell _ _ _ _ (by simp)]; exact h.h1,
    (((((((h.bel.setCell (Nat.le_refl _) _).setCell (Nat.le_refl _) _).setCell (Nat.le_refl _) _).setCell (Nat.le_refl _) _).setCell (Nat.le_refl _) _).setCell (Nat.le_refl _) _).setCell (Nat.le_refl _) _).setCell (Nat.le_refl _) _⟩
/-- How long a text is, as a measure. -/
def strLen : Value → Nat
  | .string b => b.size
  | _ => 0
theorem extract_size' (x : ByteArray) (i : Nat) (h : i ≤ x.size) : (x.extract i x.size).size = x.size - i := by
  simp [ByteArray.size_extract]
theorem extract_all (x : ByteArray) : x = x.extract 0 x.size := by
  apply bs_ext
  rw [toList_take, ← toList_length, List.take_length]
theorem extract_head (x : ByteArray) (i n : Nat) (h : i + n ≤ x.size) : (x.extract i x.size).extract 0 n = x.extract i (i + n) := by
  apply bs_ext
  simp only [toList_extract, List.drop_take, List.take_take, List.drop_drop, List.drop_zero, Nat.sub_zero]
  congr 1
  omega
theorem extract_more (x : ByteArray) (i n : Nat) (h : i + n ≤ x.size) : (x.extract i x.size).extract n (x.size - i) = x.extract (i + n) x.size := by
  apply bs_ext
  simp only [toList_extract, List.drop_take, List.take_take, List.drop_drop, List.drop_zero, Nat.sub_zero]
  congr 1
  omega
theorem set10 {B : Nat} {w w1 : World} (h : Below B w w1) {g : Nat} (hg : B ≤ g) (v0 v1 v2 v3 v4 v5 v6 v7 v8 v9 : Value) :
    Below B w ((((((((((w1.setCell ⟨g, 0, none⟩ v0).setCell ⟨g, 1, none⟩ v1).setCell ⟨g, 2, none⟩ v2).setCell ⟨g, 3, none⟩ v3).setCell ⟨g, 4, none⟩ v4).setCell ⟨g, 5, none⟩ v5).setCell ⟨g, 6, none⟩ v6).setCell ⟨g, 7, none⟩ v7).setCell ⟨g, 8, none⟩ v8).setCell ⟨g, 9, none⟩ v9) :=
  (((((((((h.setCell hg _).setCell hg _).setCell hg _).setCell hg _).setCell hg _).setCell hg _).setCell hg _).setCell hg _).setCell hg _).setCell hg _

set_option maxRecDepth 100000 in
set_option maxHeartbeats 1600000 in
theorem add_any (s : St) (b : ByteArray) (w : World) (hok : s.heads.ok) (htab0 : ∀ i, i < 64 → w.cell? ⟨0, i, none⟩ = some (.int .u32 (shaK.getD i 0))) :
    Calls Tryd.prog 55 #[stV s, .string b] w fun e w' => e = .returned (if addOk s b then .tuple #[stV (addF s b), .int .i64 0] else .tuple #[stV noSt, .int .i64 3]) ∧ Below w.heap.size w w' := by
  have HTB : Hid (0 < w.heap.size) := Lib.hid (by have := World.block_lt_of_cell? w _ (htab0 0 (by omega)); exact this)
  have htab := Lib.hid htab0
  clear htab0
  have HG := good_any s
  simp only [stV] at HG
  by_cases hg : goodB s = true
  · by_cases hl : (b.size : Int) ≤ 576460752303423488
    · by_cases hm : s.many + b.size < 1152921504606846976
      · have ha : addOk s b = true := by simp [addOk, hg, hl, hm]
        have hv : (if addOk s b then Value.tuple #[stV (addF s b), .int .i64 0] else .tuple #[stV noSt, .int .i64 3]) = .tuple #[stV (addF s b), .int .i64 0] := by rw [ha]; rfl
        rw [hv]
        rw [hg] at HG
        clear ha hv
        have hmany : 0 ≤ s.many := by simp [goodB] at hg; exact hg.1
        have hrest : s.rest.size < 64 := by simp [goodB] at hg; omega
        clear hg
        show Calls _ _ #[.agg #[.int .u32 s.heads.a, .int .u32 s.heads.b, .int .u32 s.heads.c, .int .u32 s.heads.d, .int .u32 s.heads.e, .int .u32 s.heads.f, .int .u32 s.heads.g, .int .u32 s.heads.h, .string s.rest, .int .i64 s.many], .string b] w _
        go_enter Tryd.func55, Tryd.ntmps55
        go_wp2_with fail
        refine (HG _).mono ?_
        rintro e w1 ⟨rfl, hb1⟩
        have hA1 := (addW_start w s noSt).below' hb1
        have z0 := row_free hA1.h1 0
        have z1 := row_free hA1.h1 1
        have z2 := row_free hA1.h1 2
        have z3 := row_free hA1.h1 3
        have z4 := row_free hA1.h1 4
        have z5 := row_free hA1.h1 5
        have z6 := row_free hA1.h1 6
        have z7 := row_free hA1.h1 7
        have z8 := row_free hA1.h1 8
        have z9 := row_free hA1.h1 9
        obtain ⟨d0, d1, d2, d3, d4, d5, d6, d7, d8, d9⟩ := block10 hA1.h1
        have HBel := Lib.hid hA1.bel
        obtain ⟨a0, a1, a2, a3, a4, a5, a6, a7, a8, a9⟩ := block10 hA1.h0
        have y9 := row_free hA1.h0 9
        have hA2 := hA1.many (s.many + b.size)
        clear hb1 hA1
        go_wp2_with fail
        have hx0 : (s.rest ++ b).size = s.rest.size + b.size := ByteArray.size_append
        have HX : Hid (addF s b = ⟨blkN s.heads (s.rest ++ b) ((s.rest ++ b).size / 64), (s.rest ++ b).extract (64 * ((s.rest ++ b).size / 64)) (s.rest ++ b).size, s.many + b.size⟩) := Lib.hid rfl
        generalize s.rest ++ b = x at *
        clear z0 z1 z2 z3 z4 z5 z6 z7 z8 z9 d0 d1 d2 d3 d4 d5 d6 d7 d8 d9 a0 a1 a2 a3 a4 a5 a6 a7 a8 a9 y9
        go_loopw [1] (fun v wr => ∃ n : Nat, v = .string (x.extract (64 * n) x.size) ∧ 64 * n ≤ x.size ∧ AddW w wr ⟨blkN s.heads x n, s.rest, s.many + b.size⟩ noSt) (fun v _ => strLen v)
        case atStart => exact ⟨0, by rw [Nat.mul_zero, ← extract_all], by omega, hA2⟩
        case round =>
          clear hA2
          obtain ⟨n, rfl, hn, hA⟩ := hrel
          obtain ⟨c, hc⟩ : ∃ c, c = x.extract (64 * n) x.size := ⟨_, rfl⟩
          have hcs : c.size = x.size - 64 * n := by rw [hc, extract_size' _ _ hn]
          rw [← hc]
          by_cases h64 : 64 ≤ c.size
          · have hok2 := blkN_ok s.heads x hok n
            have hnx : blkN s.heads x (n + 1) = blockF (blkN s.heads x n) (c.extract 0 64) := by rw [hc, extract_head _ _ _ (by omega)]; rfl
            have hmo : c.extract 64 c.size = x.extract (64 * (n + 1)) x.size := by rw [hcs, hc, extract_more _ _ _ (by omega)]; rfl
            have HNX := Lib.hid hnx
            have HMO := Lib.hid hmo
            have hsz : (c.extract 0 64).size = 64 := by simp [ByteArray.size_extract]; omega
            have hcl : (c.size : Int) < 9223372036854775808 := by omega
            have HCS := Lib.hid (show c.size = x.size - 64 * n ∧ 64 * n + 64 ≤ x.size by omega)
            have HSZ := Lib.hid hsz
            have HOK := Lib.hid hok2
            have HNUM := Lib.hid (show s.rest.size < 64 ∧ (b.size : Int) ≤ 576460752303423488 ∧ x.size = s.rest.size + b.size from ⟨hrest, hl, hx0⟩)
            have HHO := Lib.hid hok
            clear hnx hmo hc hcs hsz hok2 hrest hl hx0 hm hmany hok hn
            generalize blkN s.heads x n = hh at *
            obtain ⟨a0, a1, a2, a3, a4, a5, a6, a7, a8, a9⟩ := block10 hA.h0
            dsimp only at a0 a1 a2 a3 a4 a5 a6 a7
            have hcb : decide ((64 : Int) ≤ (c.size : Int)) = true := by simp; omega
            have HCL := Lib.hid (show 64 ≤ c.size ∧ (c.size : Int) < 9223372036854775808 from ⟨h64, hcl⟩)
            have h64i : (64 : Int) ≤ (c.size : Int) := by omega
            clear a8 a9 hcl h64
            go_wp2_with fail
            refine Lone.wp_region_order [(0, false), (1, false), (2, false), (3, false), (4, true), (5, false), (6, true)] (fun w' => w'.cell? ⟨w.heap.size, 0, none⟩ = some (.int .u32 hh.a) ∧ w'.cell? ⟨w.heap.size, 1, none⟩ = some (.int .u32 hh.b) ∧ w'.cell? ⟨w.heap.size, 2, none⟩ = some (.int .u32 hh.c) ∧ w'.cell? ⟨w.heap.size, 3, none⟩ = some (.int .u32 hh.d) ∧ w'.cell? ⟨w.heap.size, 4, none⟩ = some (.int .u32 hh.e) ∧ w'.cell? ⟨w.heap.size, 5, none⟩ = some (.int .u32 hh.f) ∧ w'.cell? ⟨w.heap.size, 6, none⟩ = some (.int .u32 hh.g) ∧ w'.cell? ⟨w.heap.size, 7, none⟩ = some (.int .u32 hh.h)) (by kernel_rfl) (by kernel_rfl) rfl (by kernel_rfl) (by intro _ _ d _ _ h; cases d <;> exact h) (⟨a0, a1, a2, a3, a4, a5, a6, a7⟩) ?_; simp only [List.map_cons, List.map_nil, List.getElem?_toArray, List.getElem?_cons_zero, List.getElem?_cons_succ, Option.getD_some]
            repeat (first | (refine Lone.ro_q (by rfl) (v := ?_) ?_ ?_; rotate_left; (focus (intro w' hSw; (try dsimp only at hSw); go_simp; try with_reducible rfl)); simp only [Act.put, List.setIfInBounds_toArray, List.set_cons_zero, List.set_cons_succ]) | (refine Lone.ro_skip (by rfl) ?_; simp only [Act.put, List.setIfInBounds_toArray, List.set_cons_zero, List.set_cons_succ]))
            (refine Lone.ro_loud (by rfl) (fun K hK => ?_); go_simp)
            refine (block_any hh (c.extract 0 64) _ HSZ.out HOK.out (fun i hi => by rw [hA.drew.bel.cell (p := ⟨0, i, none⟩) HTB.out]; exact htab.out i hi)).mono ?_
            rintro e w5 ⟨rfl, hb5⟩
            have hA5 := hA.drew.below' hb5
            obtain ⟨e0, e1, e2, e3, e4, e5, e6, e7, e8, e9⟩ := block10 hA5.h0
            dsimp only at e0 e1 e2 e3 e4 e5 e6 e7
            clear e8 e9
            have y0 := row_free hA5.h0 0
            have y1 := row_free hA5.h0 1
            have y2 := row_free hA5.h0 2
            have y3 := row_free hA5.h0 3
            have y4 := row_free hA5.h0 4
            have y5 := row_free hA5.h0 5
            have y6 := row_free hA5.h0 6
            have y7 := row_free hA5.h0 7
            simp only [hdV]
            (refine hK.out _ _ (fun w' => w'.cell? ⟨w.heap.size, 0, none⟩ = some (.int .u32 hh.a) ∧ w'.cell? ⟨w.heap.size, 1, none⟩ = some (.int .u32 hh.b) ∧ w'.cell? ⟨w.heap.size, 2, none⟩ = some (.int .u32 hh.c) ∧ w'.cell? ⟨w.heap.size, 3, none⟩ = some (.int .u32 hh.d) ∧ w'.cell? ⟨w.heap.size, 4, none⟩ = some (.int .u32 hh.e) ∧ w'.cell? ⟨w.heap.size, 5, none⟩ = some (.int .u32 hh.f) ∧ w'.cell? ⟨w.heap.size, 6, none⟩ = some (.int .u32 hh.g) ∧ w'.cell? ⟨w.heap.size, 7, none⟩ = some (.int .u32 hh.h)) (.inl fun _ h => h) (⟨e0, e1, e2, e3, e4, e5, e6, e7⟩) ?_; clear hK K; try simp only [Act.put, List.setIfInBounds_toArray, List.set_cons_zero, List.set_cons_succ])
            repeat (first | (refine Lone.ro_q (by rfl) (v := ?_) ?_ ?_; rotate_left; (focus (intro w' hSw; (try dsimp only at hSw); go_simp; try with_reducible rfl)); simp only [Act.put, List.setIfInBounds_toArray, List.set_cons_zero, List.set_cons_succ]) | (refine Lone.ro_skip (by rfl) ?_; simp only [Act.put, List.setIfInBounds_toArray, List.set_cons_zero, List.set_cons_succ]))
            (refine Lone.ro_loud (by rfl) (fun K hK => ?_); go_simp)
            (refine hK.out _ _ (fun _ => True) (.inr (by kernel_rfl)) (trivial) ?_; clear hK K; try simp only [Act.put, List.setIfInBounds_toArray, List.set_cons_zero, List.set_cons_succ])
            (refine Lone.ro_nil ?_; go_wp2_with fail)
            go_roundw
            case rel =>
              refine ⟨n + 1, by rw [HMO.out], by have := HCS.out; omega, ?_⟩
              rw [HNX.out]
              exact hA5.heads (blockF hh (c.extract 0 64))
            case measure =>
              have := HCL.out
              simp only [strLen, ByteArray.size_extract]
              omega
          · have hlt : ¬ (64 : Int) ≤ (c.size : Int) := by omega
            have hcb : decide ((64 : Int) ≤ (c.size : Int)) = false := by simp; omega
            have hnn : n = x.size / 64 := by omega
            have HNN := Lib.hid hnn
            have HCC := Lib.hid hc
            clear hc hcs hnn h64 hrest hl hx0 hm hmany hok hn
            obtain ⟨_, _, _, _, _, _, _, _, _, _⟩ := block10 hA.h0
            have y8 := row_free hA.h0 8
            have c8 : wr.cell? ⟨w.heap.size, 8, none⟩ = some (.string s.rest) := (block10 hA.h0).2.2.2.2.2.2.2.2.1
            obtain ⟨a0, a1, a2, a3, a4, a5, a6, a7, a8, a9⟩ := block10 (hA.rest c).h0
            have hA6 := hA.rest c
            have z0 := row_free hA6.h1 0
            have z1 := row_free hA6.h1 1
            have z2 := row_free hA6.h1 2
            have z3 := row_free hA6.h1 3
            have z4 := row_free hA6.h1 4
            have z5 := row_free hA6.h1 5
            have z6 := row_free hA6.h1 6
            have z7 := row_free hA6.h1 7
            have z8 := row_free hA6.h1 8
            have z9 := row_free hA6.h1 9
            obtain ⟨d0, d1, d2, d3, d4, d5, d6, d7, d8, d9⟩ := block10 hA6.h1
            go_wp2_with fail
            have hfin : addF s b = ⟨blkN s.heads x n, c, s.many + b.size⟩ := by rw [HX.out, HCC.out, HNN.out]
            rw [hfin]
            refine bodyPost_ret (v := .tuple #[stV ⟨blkN s.heads x n, c, s.many + b.size⟩, .int .i64 0]) ?_ rfl ⟨rfl, ?_⟩
            · simp [results, Tryd.f55, go_sem, stV, d0, d1, d2, d3, d4, d5, d6, d7, d8, d9]
            · exact set10 hA6.bel (by omega) _ _ _ _ _ _ _ _ _ _
      · have ha : addOk s b = false := by simp [addOk, hm]
        have hv : (if addOk s b then Value.tuple #[stV (addF s b), .int .i64 0] else .tuple #[stV noSt, .int .i64 3]) = .tuple #[stV noSt, .int .i64 3] := by rw [ha]; rfl
        rw [hv]
        rw [hg] at HG
        have hmany : 0 ≤ s.many ∧ s.many < 1152921504606846976 := by simp [goodB] at hg; exact ⟨hg.1, hg.2.1⟩
        clear ha hg hv
        have hmw : IntKind.i64.wrap (s.many + b.size) = s.many + b.size := IntWalk.i64_in _ (by omega)
        show Calls _ _ #[.agg #[.int .u32 s.heads.a, .int .u32 s.heads.b, .int .u32 s.heads.c, .int .u32 s.heads.d, .int .u32 s.heads.e, .int .u32 s.heads.f, .int .u32 s.heads.g, .int .u32 s.heads.h, .string s.rest, .int .i64 s.many], .string b] w _
        go_enter Tryd.func55, Tryd.ntmps55
        go_wp2_with fail
        refine (HG _).mono ?_
        rintro e w1 ⟨rfl, hb1⟩
        have hA1 := (addW_start w s noSt).below' hb1
        have z0 := row_free hA1.h1 0
        have z1 := row_free hA1.h1 1
        have z2 := row_free hA1.h1 2
        have z3 := row_free hA1.h1 3
        have z4 := row_free hA1.h1 4
        have z5 := row_free hA1.h1 5
        have z6 := row_free hA1.h1 6
        have z7 := row_free hA1.h1 7
        have z8 := row_free hA1.h1 8
        have z9 := row_free hA1.h1 9
        obtain ⟨d0, d1, d2, d3, d4, d5, d6, d7, d8, d9⟩ := block10 hA1.h1
        have HBel := Lib.hid hA1.bel
        have a9 : w1.cell? ⟨w.heap.size, 9, none⟩ = some (.int .i64 s.many) := (block10 hA1.h0).2.2.2.2.2.2.2.2.2
        clear hA1 hb1
        go_wp2_with fail
        refine bodyPost_ret (v := .tuple #[stV noSt, .int .i64 3]) ?_ rfl ⟨rfl, ?_⟩
        · simp [results, Tryd.f55, go_sem, stV, noSt, d0, d1, d2, d3, d4, d5, d6, d7, d8, d9]
        · exact set10 HBel.out (by omega) _ _ _ _ _ _ _ _ _ _
    · have ha : addOk s b = false := by simp [addOk, hl]
      have hv : (if addOk s b then Value.tuple #[stV (addF s b), .int .i64 0] else .tuple #[stV noSt, .int .i64 3]) = .tuple #[stV noSt, .int .i64 3] := by rw [ha]; rfl
      rw [hv]
      rw [hg] at HG
      clear ha hg hv
      show Calls _ _ #[.agg #[.int .u32 s.heads.a, .int .u32 s.heads.b, .int .u32 s.heads.c, .int .u32 s.heads.d, .int .u32 s.heads.e, .int .u32 s.heads.f, .int .u32 s.heads.g, .int .u32 s.heads.h, .string s.rest, .int .i64 s.many], .string b] w _
      go_enter Tryd.func55, Tryd.ntmps55
      go_wp2_with fail
      refine (HG _).mono ?_
      rintro e w1 ⟨rfl, hb1⟩
      have hA1 := (addW_start w s noSt).below' hb1
      have z0 := row_free hA1.h1 0
      have z1 := row_free hA1.h1 1
      have z2 := row_free hA1.h1 2
      have z3 := row_free hA1.h1 3
      have z4 := row_free hA1.h1 4
      have z5 := row_free hA1.h1 5
      have z6 := row_free hA1.h1 6
      have z7 := row_free hA1.h1 7
      have z8 := row_free hA1.h1 8
      have z9 := row_free hA1.h1 9
      obtain ⟨d0, d1, d2, d3, d4, d5, d6, d7, d8, d9⟩ := block10 hA1.h1
      have HBel := Lib.hid hA1.bel
      clear hA1 hb1
      go_wp2_with fail
      refine bodyPost_ret (v := .tuple #[stV noSt, .int .i64 3]) ?_ rfl ⟨rfl, ?_⟩
      · simp [results, Tryd.f55, go_sem, stV, noSt, d0, d1, d2, d3, d4, d5, d6, d7, d8, d9]
      · exact set10 HBel.out (by omega) _ _ _ _ _ _ _ _ _ _
  · have hgf : goodB s = false := by simpa using hg
    have ha : addOk s b = false := by simp [addOk, hgf]
    have hv : (if addOk s b then Value.tuple #[stV (addF s b), .int .i64 0] else .tuple #[stV noSt, .int .i64 3]) = .tuple #[stV noSt, .int .i64 3] := by rw [ha]; rfl
    rw [hv]
    rw [hgf] at HG
    clear ha hg hgf hv
    show Calls _ _ #[.agg #[.int .u32 s.heads.a, .int .u32 s.heads.b, .int .u32 s.heads.c, .int .u32 s.heads.d, .int .u32 s.heads.e, .int .u32 s.heads.f, .int .u32 s.heads.g, .int .u32 s.heads.h, .string s.rest, .int .i64 s.many], .string b] w _
    go_enter Tryd.func55, Tryd.ntmps55
    go_wp2_with fail
    refine (HG _).mono ?_
    rintro e w1 ⟨rfl, hb1⟩
    have hA1 := (addW_start w s noSt).below' hb1
    have z0 := row_free hA1.h1 0
    have z1 := row_free hA1.h1 1
    have z2 := row_free hA1.h1 2
    have z3 := row_free hA1.h1 3
    have z4 := row_free hA1.h1 4
    have z5 := row_free hA1.h1 5
    have z6 := row_free hA1.h1 6
    have z7 := row_free hA1.h1 7
    have z8 := row_free hA1.h1 8
    have z9 := row_free hA1.h1 9
    obtain ⟨d0, d1, d2, d3, d4, d5, d6, d7, d8, d9⟩ := block10 hA1.h1
    have HBel := Lib.hid hA1.bel
    clear hA1 hb1
    go_wp2_with fail
    refine bodyPost_ret (v := .tuple #[stV noSt, .int .i64 3]) ?_ rfl ⟨rfl, ?_⟩
    · simp [results, Tryd.f55, go_sem, stV, noSt, d0, d1, d2, d3, d4, d5, d6, d7, d8, d9]
    · exact set10 HBel.out (by omega) _ _ _ _ _ _ _ _ _ _
end Go.Proofs.YtinhjnbgblieeaaDoor
