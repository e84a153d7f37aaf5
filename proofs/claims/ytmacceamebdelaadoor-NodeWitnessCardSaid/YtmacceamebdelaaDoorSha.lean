/- Texts put together: ShaLaw SumTurn SumBlock SumGood SumAdd Mark SumEnd SumSum SumSeal SumAbc SumHex SumAbcWalk SumSealed. -/
import Derived.Laws.Closers25b
import Derived.RowKit
import Derived.Test.YtmacceamebdelaaDoorChecked
import Derived.Test.YtmacceamebdelaaDoorBas
import Derived.Laws.CopyRow
import Derived.Shelf.Spec.SlicesInsert
import Derived.Laws.IdiomStrings
import Derived.Laws.OwnMore
/-! ShaLaw -/
namespace Go.Proofs.YtmacceamebdelaaDoor
open Go.RowKit
set_option linter.unusedVariables false
set_option linter.unusedSimpArgs false

def turnF (x n : Int) : Int := bits .or .u32 (x / 2 ^ n.toNat) (x * 2 ^ (32 - n.toNat) % 4294967296)
def u32s (xs : List Int) : List Value := xs.map (.int .u32)
/-- A number of 32 bits. -/
def isU (x : Int) : Prop := 0 ≤ x ∧ x < 4294967296
theorem isU_bits (op : BinOp) (a b : Int) : isU (bits op .u32 a b) := by
  have h1 := bits_lo_u32 op a b
  have h2 := bits_hi_u32 op a b
  exact ⟨h1, by omega⟩
theorem isU_turn (x n : Int) : isU (turnF x n) := isU_bits _ _ _
theorem isU_mod (x : Int) : isU (x % 4294967296) := ⟨Int.emod_nonneg _ (by decide), Int.emod_lt_of_pos _ (by decide)⟩
theorem u32s_length (xs : List Int) : (u32s xs).length = xs.length := by simp [u32s]
theorem u32s_get {xs : List Int} {i : Nat} (h : i < xs.length) : (u32s xs)[i]? = some (.int .u32 (xs.getD i 0)) := by
  simp [u32s, List.getD, List.getElem?_eq_getElem h]
theorem u32s_set (xs : List Int) (i : Nat) (v : Int) : u32s (xs.set i v) = (u32s xs).set i (.int .u32 v) := by simp [u32s, List.map_set]

/-- Eight heads. -/
structure Hd where
  a : Int
  b : Int
  c : Int
  d : Int
  e : Int
  f : Int
  g : Int
  h : Int
def Hd.ok (x : Hd) : Prop := isU x.a ∧ isU x.b ∧ isU x.c ∧ isU x.d ∧ isU x.e ∧ isU x.f ∧ isU x.g ∧ isU x.h
def Hd.list (x : Hd) : List Int := [x.a, x.b, x.c, x.d, x.e, x.f, x.g, x.h]
/-- Heads as the value of an array. -/
def hdV (x : Hd) : Value := .agg #[.int .u32 x.a, .int .u32 x.b, .int .u32 x.c, .int .u32 x.d, .int .u32 x.e, .int .u32 x.f, .int .u32 x.g, .int .u32 x.h]

def byteI (b : ByteArray) (i : Nat) : Int := ((b.data.toList.getD i 0).toNat : Int)
/-- Word i of a block. -/
def word0 (b : ByteArray) (i : Nat) : Int :=
  bits .or .u32 (bits .or .u32 (bits .or .u32 (byteI b (4 * i) % 4294967296 * 16777216 % 4294967296) (byteI b (4 * i + 1) % 4294967296 * 65536 % 4294967296)) (byteI b (4 * i + 2) % 4294967296 * 256 % 4294967296)) (byteI b (4 * i + 3) % 4294967296)
def wsA (b : ByteArray) : Nat → List Int
  | 0 => List.replicate 64 0
  | i + 1 => (wsA b i).set i (word0 b i)
/-- Word j + 16 out of those ahead of it. -/
def sched (ws : List Int) (j : Nat) : Int :=
  (((ws.getD j 0 + bits .xor .u32 (bits .xor .u32 (turnF (ws.getD (j + 1) 0) 7) (turnF (ws.getD (j + 1) 0) 18)) (ws.getD (j + 1) 0 / 8)) % 4294967296 + ws.getD (j + 9) 0) % 4294967296
    + bits .xor .u32 (bits .xor .u32 (turnF (ws.getD (j + 14) 0) 17) (turnF (ws.getD (j + 14) 0) 19)) (ws.getD (j + 14) 0 / 1024)) % 4294967296
def wsB (b : ByteArray) : Nat → List Int
  | 0 => wsA b 16
  | j + 1 => (wsB b j).set (j + 16) (sched (wsB b j) j)
/-- The constants. -/
def shaK : List Int := [1116352408, 1899447441, 3049323471, 3921009573, 961987163, 1508970993, 2453635748, 2870763221, 3624381080, 310598401, 607225278, 1426881987, 1925078388, 2162078206, 2614888103, 3248222580, 3835390401, 4022224774, 264347078, 604807628, 770255983, 1249150122, 1555081692, 1996064986, 2554220882, 2821834349, 2952996808, 3210313671, 3336571891, 3584528711, 113926993, 338241895, 666307205, 773529912, 1294757372, 1396182291, 1695183700, 1986661051, 2177026350, 2456956037, 2730485921, 2820302411, 3259730800, 3345764771, 3516065817, 3600352804, 4094571909, 275423344, 430227734, 506948616, 659060556, 883997877, 958139571, 1322822218, 1537002063, 1747873779, 1955562222, 2024104815, 2227730452, 2361852424, 2428436474, 2756734187, 3204031479, 3329325298]
/-- One round of sixty-four. -/
def roundT (s : Hd) (k x : Int) : Int :=
  ((((s.h + bits .xor .u32 (bits .xor .u32 (turnF s.e 6) (turnF s.e 11)) (turnF s.e 25)) % 4294967296 + bits .xor .u32 (bits .and .u32 s.e s.f) (bits .and .u32 (bits .xor .u32 4294967295 s.e) s.g)) % 4294967296 + k) % 4294967296 + x) % 4294967296
def roundU (s : Hd) : Int :=
  (bits .xor .u32 (bits .xor .u32 (turnF s.a 2) (turnF s.a 13)) (turnF s.a 22) + bits .xor .u32 (bits .xor .u32 (bits .and .u32 s.a s.b) (bits .and .u32 s.a s.c)) (bits .and .u32 s.b s.c)) % 4294967296
def roundF (s : Hd) (k x : Int) : Hd := ⟨(roundT s k x + roundU s) % 4294967296, s.a, s.b, s.c, (s.d + roundT s k x) % 4294967296, s.e, s.f, s.g⟩
def rounds64 (b : ByteArray) (hd : Hd) : Nat → Hd
  | 0 => hd
  | i + 1 => roundF (rounds64 b hd i) (shaK.getD i 0) ((wsB b 48).getD i 0)
def addU (x y : Int) : Int := (x + y) % 4294967296
/-- The heads behind a block. -/
def blockF (hd : Hd) (b : ByteArray) : Hd :=
  let s := rounds64 b hd 64
  ⟨addU hd.a s.a, addU hd.b s.b, addU hd.c s.c, addU hd.d s.d, addU hd.e s.e, addU hd.f s.f, addU hd.g s.g, addU hd.h s.h⟩
theorem blockF_ok (hd : Hd) (b : ByteArray) : (blockF hd b).ok := ⟨isU_mod _, isU_mod _, isU_mod _, isU_mod _, isU_mod _, isU_mod _, isU_mod _, isU_mod _⟩
theorem isU_zero : isU 0 := by unfold isU; omega
theorem isU_word0 (b : ByteArray) (i : Nat) : isU (word0 b i) := isU_bits _ _ _
theorem isU_sched (ws : List Int) (j : Nat) : isU (sched ws j) := isU_mod _
def allU (xs : List Int) : Prop := ∀ i, isU (xs.getD i 0)
theorem allU_set {xs : List Int} (h : allU xs) (i : Nat) {v : Int} (hv : isU v) : allU (xs.set i v) := by
  intro j
  by_cases hij : i = j
  · subst hij
    by_cases hl : i < xs.length
    · simp [List.getD, hl]; exact hv
    · have := h i; simp [List.getD, List.getElem?_set, hl] at *; exact isU_zero
  · have := h j; simp [List.getD, List.getElem?_set_ne hij] at *; exact this
theorem allU_rep (n : Nat) : allU (List.replicate n 0) := by
  intro i
  by_cases h : i < n <;> simp [List.getD, List.getElem?_replicate, h] <;> exact isU_zero
theorem allU_A (b : ByteArray) : ∀ i, allU (wsA b i)
  | 0 => allU_rep 64
  | i + 1 => allU_set (allU_A b i) i (isU_word0 b i)
theorem allU_B (b : ByteArray) : ∀ j, allU (wsB b j)
  | 0 => allU_A b 16
  | j + 1 => allU_set (allU_B b j) _ (isU_sched _ _)
theorem rounds64_ok (b : ByteArray) (hd : Hd) (h : hd.ok) : ∀ i, (rounds64 b hd i).ok
  | 0 => h
  | i + 1 => by
    obtain ⟨ha, hb, hc, _, he, hf, hg, _⟩ := rounds64_ok b hd h i
    exact ⟨isU_mod _, ha, hb, hc, isU_mod _, he, hf, hg⟩
theorem wsA_length (b : ByteArray) : ∀ i, (wsA b i).length = 64
  | 0 => by simp [wsA]
  | i + 1 => by rw [wsA, List.length_set, wsA_length b i]
theorem wsB_length (b : ByteArray) : ∀ i, (wsB b i).length = 64
  | 0 => wsA_length b 16
  | i + 1 => by rw [wsB, List.length_set, wsB_length b i]
theorem byteI_eq (b : ByteArray) (i : Nat) (h : i < b.size) : (b[i].toNat : Int) = byteI b i := by
  have h' : i < b.data.toList.length := by rw [Array.length_toList]; exact h
  have e : b[i] = b.data.toList[i]'h' := rfl
  rw [byteI, List.getD, List.getElem?_eq_getElem h', e]; rfl
theorem word0_eq (b : ByteArray) (k q q1 q2 q3 : Nat) (hq : q = 4 * k ∧ q1 = q + 1 ∧ q2 = q + 2 ∧ q3 = q + 3) (l0 : q < b.size) (l1 : q1 < b.size) (l2 : q2 < b.size) (l3 : q3 < b.size) :
    bits .or .u32 (bits .or .u32 (bits .or .u32 ((b[q].toNat : Int) % 4294967296 * 16777216 % 4294967296) ((b[q1].toNat : Int) % 4294967296 * 65536 % 4294967296)) ((b[q2].toNat : Int) % 4294967296 * 256 % 4294967296)) ((b[q3].toNat : Int) % 4294967296) = word0 b k := by
  obtain ⟨rfl, rfl, rfl, rfl⟩ := hq
  rw [byteI_eq b _ l0, byteI_eq b _ l1, byteI_eq b _ l2, byteI_eq b _ l3]; rfl
end Go.Proofs.YtmacceamebdelaaDoor
/-! SumTurn -/
namespace Go.Proofs.YtmacceamebdelaaDoor
open Go.RowKit
set_option linter.unusedVariables false

set_option maxRecDepth 100000 in
set_option maxHeartbeats 400000 in
theorem turn_nat (x : Int) (n : Nat) (w : World) (hx : 0 ≤ x ∧ x < 4294967296) (hn : 1 ≤ n ∧ n ≤ 31) :
    Calls Tryd.prog 67 #[.int .u32 x, .int .u64 n] w fun e w' => e = .returned (.int .u32 (turnF x n)) ∧ w = w' := by
  go_enter Tryd.func67, Tryd.ntmps67
  go_wp2_with fail
  go_ret
  exact ⟨rfl, rfl⟩
theorem turn_any (x n : Int) (w : World) (hx : isU x) (hn : 1 ≤ n ∧ n ≤ 31) :
    Calls Tryd.prog 67 #[.int .u32 x, .int .u64 n] w fun e w' => e = .returned (.int .u32 (turnF x n)) ∧ w = w' := by
  have := turn_nat x n.toNat w hx (by omega)
  rwa [Int.toNat_of_nonneg (by omega)] at this
end Go.Proofs.YtmacceamebdelaaDoor
/-! SumBlock -/
namespace Go.Proofs.YtmacceamebdelaaDoor
open Go.RowKit
set_option linter.unusedVariables false
set_option linter.unusedSimpArgs false

/-- A block of cells: what it holds, that it may be written, and what it is behind a store. -/
theorem row_cell {w : World} {g : Nat} {cs : List Value} {t : TypeId} (h : w.heap[g]? = some (.cells cs.toArray t (0, 0))) (i : Nat) : w.cell? ⟨g, i, none⟩ = cs[i]? := by
  simp [World.cell?, h]
theorem cell_far {w : World} {g i k : Nat} {u v : Value} (h : w.cell? ⟨g, i, none⟩ = some u) (hne : i ≠ k) : (w.setCell ⟨g, k, none⟩ v).cell? ⟨g, i, none⟩ = some u := by
  rw [World.cell?_setCell_other _ _ _ _ (fun e => hne (by injection e with _ e _; exact e.symm))]; exact h
theorem row_free {w : World} {g : Nat} {cs : List Value} {t : TypeId} (h : w.heap[g]? = some (.cells cs.toArray t (0, 0))) (i : Nat) : w.frozen? ⟨g, i, none⟩ = false := by
  simp [World.frozen?, h]
theorem row_set {w : World} {g : Nat} {cs : List Value} {t : TypeId} (h : w.heap[g]? = some (.cells cs.toArray t (0, 0))) (i : Nat) (u : Value) :
    (w.setCell ⟨g, i, none⟩ u).heap[g]? = some (.cells (cs.set i u).toArray t (0, 0)) := by
  have hlt := lt_of_block h
  have h' : w.heap[g] = .cells cs.toArray t (0, 0) := by simpa [Array.getElem?_eq_getElem hlt] using h
  show (w.heap.modify g _)[g]? = _
  rw [Array.getElem?_eq_getElem (by simpa using hlt), Array.getElem_modify_self, h']
  simp

theorem row8 {w : World} {g : Nat} {s : Hd} {t : TypeId} (h : w.heap[g]? = some (.cells (u32s s.list).toArray t (0, 0))) :
    w.cell? ⟨g, 0, none⟩ = some (.int .u32 s.a) ∧ w.cell? ⟨g, 1, none⟩ = some (.int .u32 s.b) ∧ w.cell? ⟨g, 2, none⟩ = some (.int .u32 s.c) ∧ w.cell? ⟨g, 3, none⟩ = some (.int .u32 s.d) ∧
    w.cell? ⟨g, 4, none⟩ = some (.int .u32 s.e) ∧ w.cell? ⟨g, 5, none⟩ = some (.int .u32 s.f) ∧ w.cell? ⟨g, 6, none⟩ = some (.int .u32 s.g) ∧ w.cell? ⟨g, 7, none⟩ = some (.int .u32 s.h) := by
  refine ⟨?_, ?_, ?_, ?_, ?_, ?_, ?_, ?_⟩ <;> rw [row_cell h] <;> rfl

/-- The blocks of the call: the heads, the answer, the words. -/
structure BlkW (w wr : World) (hd : Hd) (ws : List Int) : Prop where
  h0 : wr.heap[w.heap.size]? = some (.cells (u32s hd.list).toArray 81 (0, 0))
  h1 : wr.heap[w.heap.size + 1]? = some (.cells (u32s (List.replicate 8 0)).toArray 81 (0, 0))
  h2 : wr.heap[w.heap.size + 1 + 1]? = some (.cells (u32s ws).toArray 120 (0, 0))
  bel : Below w.heap.size w wr

theorem BlkW.drew {w wr : World} {hd : Hd} {ws : List Int} (h : BlkW w wr hd ws) : BlkW w wr.drew hd ws := ⟨h.h0, h.h1, h.h2, h.bel.drew⟩
theorem BlkW.set {w wr : World} {hd : Hd} {ws : List Int} (h : BlkW w wr hd ws) (i : Nat) (v : Int) :
    BlkW w (wr.setCell ⟨w.heap.size + 1 + 1, i, none⟩ (.int .u32 v)) hd (ws.set i v) :=
  ⟨by rw [Below.heap_setCell _ _ _ _ (by simp; omega)]; exact h.h0, by rw [Below.heap_setCell _ _ _ _ (by simp)]; exact h.h1, by rw [u32s_set]; exact row_set h.h2 i _, h.bel.setCell (by simp; omega) _⟩

/-- Besides, the heads at work in block g. -/
structure BlkS (w wr : World) (g : Nat) (hd : Hd) (ws : List Int) (s : Hd) : Prop where
  blk : BlkW w wr hd ws
  h3 : wr.heap[g]? = some (.cells (u32s s.list).toArray 81 (0, 0))
  far : w.heap.size + 1 + 1 < g

theorem BlkW.far {w wr : World} {hd : Hd} {ws : List Int} (h : BlkW w wr hd ws) {g : Nat} (hg : w.heap.size + 1 + 1 < g) (i : Nat) (u : Value) : BlkW w (wr.setCell ⟨g, i, none⟩ u) hd ws :=
  ⟨by rw [Below.heap_setCell _ _ _ _ (by simp; omega)]; exact h.h0, by rw [Below.heap_setCell _ _ _ _ (by simp; omega)]; exact h.h1, by rw [Below.heap_setCell _ _ _ _ (by simp; omega)]; exact h.h2, h.bel.setCell (by simp; omega) _⟩

theorem blkS_start {w wo : World} {hd : Hd} {ws : List Int} (h : BlkW w wo hd ws) : BlkS w (wo.alloc (.cells (u32s hd.list).toArray 81)) wo.heap.size hd ws hd := by
  have h2 := lt_of_block h.h2
  refine ⟨⟨?_, ?_, ?_, h.bel.alloc (by omega) _⟩, heap_alloc_new _ _, h2⟩
  · rw [Below.heap_alloc _ _ _ (by omega)]; exact h.h0
  · rw [Below.heap_alloc _ _ _ (by omega)]; exact h.h1
  · rw [Below.heap_alloc _ _ _ h2]; exact h.h2

theorem BlkS.drew {w wr : World} {g : Nat} {hd : Hd} {ws : List Int} {s : Hd} (h : BlkS w wr g hd ws s) : BlkS w wr.drew g hd ws s := ⟨h.blk.drew, h.h3, h.far⟩
theorem BlkS.set4 {w wr : World} {g : Nat} {hd : Hd} {ws : List Int} {s : Hd} (h : BlkS w wr g hd ws s) (v : Int) : BlkS w (wr.setCell ⟨g, 4, none⟩ (.int .u32 v)) g hd ws ⟨s.a, s.b, s.c, s.d, v, s.f, s.g, s.h⟩ :=
  ⟨h.blk.far h.far _ _, row_set h.h3 4 _, h.far⟩
theorem BlkS.set0 {w wr : World} {g : Nat} {hd : Hd} {ws : List Int} {s : Hd} (h : BlkS w wr g hd ws s) (v : Int) : BlkS w (wr.setCell ⟨g, 0, none⟩ (.int .u32 v)) g hd ws ⟨v, s.b, s.c, s.d, s.e, s.f, s.g, s.h⟩ :=
  ⟨h.blk.far h.far _ _, row_set h.h3 0 _, h.far⟩
theorem setRow_base (w : World) (g k : Nat) (cs : Array Value) (h : k < g) : (w.setRow g cs).heap[k]? = w.heap[k]? := setRow_other w g k cs (by omega)
theorem BlkS.copy {w wr : World} {g : Nat} {hd : Hd} {ws : List Int} {s : Hd} (h : BlkS w wr g hd ws s) : BlkS w (wr.setRow g (u32s [s.a, s.a, s.b, s.c, s.d, s.e, s.f, s.g]).toArray) g hd ws ⟨s.a, s.a, s.b, s.c, s.d, s.e, s.f, s.g⟩ := by
  have hf := h.far
  refine ⟨⟨?_, ?_, ?_, h.blk.bel.trans ⟨rfl, rfl, rfl, by simp [World.setRow], fun k hk => setRow_base _ _ _ _ (by omega)⟩⟩, setRow_heap _ _ _ _ _ _ h.h3, h.far⟩
  · rw [setRow_base _ _ _ _ (by omega)]; exact h.blk.h0
  · rw [setRow_base _ _ _ _ (by omega)]; exact h.blk.h1
  · rw [setRow_base _ _ _ _ (by omega)]; exact h.blk.h2
theorem copy8 {P : Program} {w : World} {g : Nat} {s : Hd} {t : TypeId} (h : w.heap[g]? = some (.cells (u32s s.list).toArray t (0, 0))) (dT sT ty elem : TypeId)
    (hu : P.underlying dT = some (.slice elem)) (hs : (P.info? elem).map (·.size) = some 1) :
    (Builtin.copy_ #[dT, sT] ty #[.slice (some ⟨g, 1, none⟩) 7 7, .slice (some ⟨g, 0, none⟩) 7 8]).run P w = .ok (goInt 7) (w.setRow g (u32s [s.a, s.a, s.b, s.c, s.d, s.e, s.f, s.g]).toArray) := by
  have hr := run_copy_row (P := P) w dT sT ty elem g 1 7 7 ⟨g, 0, none⟩ 7 8 _ t (u32s [s.a, s.b, s.c, s.d, s.e, s.f, s.g]) hu hs h (by rfl)
    (by
      intro j v hj
      have e : (⟨g, 0, none⟩ : Addr).add j = ⟨g, j, none⟩ := by unfold Addr.add; split <;> simp_all
      rw [e, row_cell h]
      rcases j with _ | _ | _ | _ | _ | _ | _ | j <;> first | exact hj | (simp [u32s] at hj))
    (by simp [u32s, Hd.list]) (by intro v hv; simp [u32s] at hv; rcases hv with rfl | rfl | rfl | rfl | rfl | rfl | rfl <;> rfl)
  exact hr

/-- The heads with the work added up to a place. -/
def addTo (hd s : Hd) : Nat → List Int
  | 0 => hd.list
  | i + 1 => (addTo hd s i).set i ((hd.list.getD i 0 + s.list.getD i 0) % 4294967296)
theorem addTo_length (hd s : Hd) : ∀ i, (addTo hd s i).length = 8
  | 0 => rfl
  | i + 1 => by rw [addTo, List.length_set, addTo_length hd s i]
theorem addTo_get (hd s : Hd) : ∀ i j, i ≤ j → (addTo hd s i).getD j 0 = hd.list.getD j 0
  | 0, _, _ => rfl
  | i + 1, j, h => by rw [addTo, List.getD, List.getElem?_set_ne (by omega)]; exact addTo_get hd s i j (by omega)
structure BlkE (w wr : World) (g : Nat) (s : Hd) (xs : List Int) : Prop where
  h0 : wr.heap[w.heap.size]? = some (.cells (u32s xs).toArray 81 (0, 0))
  h1 : wr.heap[w.heap.size + 1]? = some (.cells (u32s (List.replicate 8 0)).toArray 81 (0, 0))
  h3 : wr.heap[g]? = some (.cells (u32s s.list).toArray 81 (0, 0))
  far : w.heap.size + 1 + 1 < g
  bel : Below w.heap.size w wr
theorem BlkE.drew {w wr : World} {g : Nat} {s : Hd} {xs : List Int} (h : BlkE w wr g s xs) : BlkE w wr.drew g s xs := ⟨h.h0, h.h1, h.h3, h.far, h.bel.drew⟩
theorem BlkE.set {w wr : World} {g : Nat} {s : Hd} {xs : List Int} (h : BlkE w wr g s xs) (i : Nat) (v : Int) : BlkE w (wr.setCell ⟨w.heap.size, i, none⟩ (.int .u32 v)) g s (xs.set i v) := by
  have hf := h.far
  exact ⟨by rw [u32s_set]; exact row_set h.h0 i _, by rw [Below.heap_setCell _ _ _ _ (by simp)]; exact h.h1, by rw [Below.heap_setCell _ _ _ _ (by simp; omega)]; exact h.h3, h.far, h.bel.setCell (Nat.le_refl _) _⟩

theorem heap_three (w : World) (a b c : Obj) : (((w.alloc a).alloc b).alloc c).heap[w.heap.size]? = some a ∧ (((w.alloc a).alloc b).alloc c).heap[w.heap.size + 1]? = some b ∧ (((w.alloc a).alloc b).alloc c).heap[w.heap.size + 1 + 1]? = some c := by
  refine ⟨?_, ?_, ?_⟩
  · rw [Below.heap_alloc _ _ _ (by simp; omega), Below.heap_alloc _ _ _ (by simp)]; exact heap_alloc_new w a
  · rw [Below.heap_alloc _ _ _ (by simp)]
    have := heap_alloc_new (w.alloc a) b
    simpa using this
  · have := heap_alloc_new ((w.alloc a).alloc b) c
    simpa using this

theorem blkW_start (w : World) (hd : Hd) : BlkW w (((w.alloc (.cells (u32s hd.list).toArray 81)).alloc (.cells (u32s (List.replicate 8 0)).toArray 81)).alloc (.cells (u32s (List.replicate 64 0)).toArray 120)) hd (List.replicate 64 0) :=
  ⟨(heap_three w _ _ _).1, (heap_three w _ _ _).2.1, (heap_three w _ _ _).2.2, (((Below.refl _ _).alloc (Nat.le_refl _) _).alloc (by simp) _).alloc (by simp; omega) _⟩

set_option maxRecDepth 100000 in
set_option maxHeartbeats 1600000 in
theorem block_any (hd : Hd) (b : ByteArray) (w : World) (hb0 : b.size = 64) (hok : hd.ok) (htab0 : ∀ i, i < 64 → w.cell? ⟨0, i, none⟩ = some (.int .u32 (shaK.getD i 0))) :
    Calls Tryd.prog 61 #[.agg #[.int .u32 hd.a, .int .u32 hd.b, .int .u32 hd.c, .int .u32 hd.d, .int .u32 hd.e, .int .u32 hd.f, .int .u32 hd.g, .int .u32 hd.h], .string b] w fun e w' => e = .returned (hdV (blockF hd b)) ∧ Below w.heap.size w w' := by
  have HTB : Hid (0 < w.heap.size) := Lib.hid (by have := World.block_lt_of_cell? w _ (htab0 0 (by omega)); exact this)
  have htab := Lib.hid htab0
  clear htab0
  have HB := Lib.hid hb0
  have hb : 64 ≤ b.size := by omega
  clear hb0
  go_enter Tryd.func61, Tryd.ntmps61
  go_wp2_with fail
  go_loopw [17] (fun i wr => ∃ k : Nat, i = .int .i64 k ∧ k ≤ 16 ∧ BlkW w wr hd (wsA b k)) (fun i _ => 16 - (intOf i).toNat)
  case atStart => exact ⟨0, rfl, by omega, blkW_start w hd⟩
  case round =>
    obtain ⟨k, rfl, hk, hB⟩ := hrel
    by_cases h16 : k < 16
    · have hB' := hB.drew
      have hc : wr.drew.cell? ⟨w.heap.size + 1 + 1, k, none⟩ = some (.int .u32 ((wsA b k).getD k 0)) := by rw [row_cell hB'.h2, u32s_get (by rw [wsA_length]; omega)]
      have hf : wr.drew.frozen? ⟨w.heap.size + 1 + 1, k, none⟩ = false := row_free hB'.h2 k
      obtain ⟨q, hq⟩ : ∃ q : Nat, q = 4 * k := ⟨_, rfl⟩
      obtain ⟨q1, hq1⟩ : ∃ q1 : Nat, q1 = q + 1 := ⟨_, rfl⟩
      obtain ⟨q2, hq2⟩ : ∃ q2 : Nat, q2 = q + 2 := ⟨_, rfl⟩
      obtain ⟨q3, hq3⟩ : ∃ q3 : Nat, q3 = q + 3 := ⟨_, rfl⟩
      have e0 : IntKind.i64.wrap (4 * (k : Int)) = (q : Int) := by rw [IntWalk.i64_in _ (by omega)]; omega
      have e1 : IntKind.i64.wrap ((q : Int) + 1) = (q1 : Int) := by rw [IntWalk.i64_in _ (by omega)]; omega
      have e2 : IntKind.i64.wrap ((q : Int) + 2) = (q2 : Int) := by rw [IntWalk.i64_in _ (by omega)]; omega
      have e3 : IntKind.i64.wrap ((q : Int) + 3) = (q3 : Int) := by rw [IntWalk.i64_in _ (by omega)]; omega
      have k64 : (k : Int) < 64 := by omega
      have k0 : (0 : Int) ≤ (k : Int) := by omega
      have l0 : q < b.size := by omega
      have l1 : q1 < b.size := by omega
      have l2 : q2 < b.size := by omega
      have l3 : q3 < b.size := by omega
      have HQ := Lib.hid (show (q = 4 * k ∧ q1 = q + 1 ∧ q2 = q + 2 ∧ q3 = q + 3) from ⟨hq, hq1, hq2, hq3⟩)
      clear hq hq1 hq2 hq3
      go_wp2_with fail
      refine wp_region_order [(0, false), (1, false), (2, false), (3, false), (4, false), (5, false), (6, false), (7, false), (8, false), (9, false), (10, false), (11, false), (12, false), (13, false), (14, false), (15, false), (16, false), (17, false), (18, false), (19, false), (20, false), (21, false), (22, false), (23, false), (24, false), (25, false), (26, false), (27, false), (28, false), (29, false), (30, false), (31, true)] (fun _ => True) (by kernel_rfl) (by kernel_rfl) rfl (by kernel_rfl) (by intro _ _ d _ _ h; cases d <;> exact h) (trivial) ?_; simp only [List.map_cons, List.map_nil, List.getElem?_toArray, List.getElem?_cons_zero, List.getElem?_cons_succ, Option.getD_some]
      repeat (first | (refine ro_q (by rfl) (v := ?_) ?_ ?_; rotate_left; (focus (intro w' hSw; (try dsimp only at hSw); go_simp; try with_reducible rfl)); simp only [Act.put, List.setIfInBounds_toArray, List.set_cons_zero, List.set_cons_succ]) | (refine ro_skip (by rfl) ?_; simp only [Act.put, List.setIfInBounds_toArray, List.set_cons_zero, List.set_cons_succ]))
      (refine ro_loud (by rfl) (fun K hK => ?_); go_simp)
      (refine hK.out _ _ (fun _ => True) (fun _ h => h) (trivial) ?_; clear hK K; try simp only [Act.put, List.setIfInBounds_toArray, List.set_cons_zero, List.set_cons_succ])
      (refine ro_nil ?_; go_wp2_with fail)
      go_roundw
      case rel =>
        refine ⟨k + 1, by go_num, by omega, ?_⟩
        rw [word0_eq b k q q1 q2 q3 HQ.out l0 l1 l2 l3]
        exact (hB.set k _).drew
      case measure => simp [intOf]; omega
    · have hk16 : k = 16 := by omega
      rw [hk16] at hB
      have hkb : decide ((k : Int) < 16) = false := by simp; omega
      clear hk16 hk h16
      generalize (k : Int) = kz at *
      clear k
      go_wp2_with fail
      go_loopw [7] (fun i wr => ∃ j : Nat, i = .int .i64 ↑(j + 16) ∧ j ≤ 48 ∧ BlkW w wr hd (wsB b j)) (fun i _ => 64 - (intOf i).toNat)
      case atStart => exact ⟨0, rfl, by omega, hB⟩
      case round =>
        clear hB
        obtain ⟨j, rfl, hj, hB⟩ := hrel
        obtain ⟨k, hk⟩ : ∃ k : Nat, k = j + 16 := ⟨_, rfl⟩
        rw [← hk]
        by_cases h48 : j < 48
        · obtain ⟨m1, hm1⟩ : ∃ m : Nat, m = j + 1 := ⟨_, rfl⟩
          obtain ⟨m9, hm9⟩ : ∃ m : Nat, m = j + 9 := ⟨_, rfl⟩
          obtain ⟨m14, hm14⟩ : ∃ m : Nat, m = j + 14 := ⟨_, rfl⟩
          have e15 : IntKind.i64.wrap ((k : Int) - 15) = (m1 : Int) := by rw [IntWalk.i64_in _ (by omega)]; omega
          have e2 : IntKind.i64.wrap ((k : Int) - 2) = (m14 : Int) := by rw [IntWalk.i64_in _ (by omega)]; omega
          have e16 : IntKind.i64.wrap ((k : Int) - 16) = (j : Int) := by rw [IntWalk.i64_in _ (by omega)]; omega
          have e7 : IntKind.i64.wrap ((k : Int) - 7) = (m9 : Int) := by rw [IntWalk.i64_in _ (by omega)]; omega
          have z1 : (m1 : Int) < 64 := by omega
          have z9 : (m9 : Int) < 64 := by omega
          have z14 : (m14 : Int) < 64 := by omega
          have zj : (j : Int) < 64 := by omega
          have zk : (k : Int) < 64 := by omega
          have y1 : (0 : Int) ≤ (m1 : Int) := by omega
          have y9 : (0 : Int) ≤ (m9 : Int) := by omega
          have y14 : (0 : Int) ≤ (m14 : Int) := by omega
          have yj : (0 : Int) ≤ (j : Int) := by omega
          have yk : (0 : Int) ≤ (k : Int) := by omega
          have hlen := wsB_length b j
          have u1 := allU_B b j m1
          have u14 := allU_B b j m14
          have hsc : sched (wsB b j) j = sched (wsB b j) j := rfl
          have hB1 := hB.drew
          have hB2 := hB1.drew
          have c1 : wr.cell? ⟨w.heap.size + 1 + 1, m1, none⟩ = some (.int .u32 ((wsB b j).getD m1 0)) := by rw [row_cell hB.h2, u32s_get (by omega)]
          have c9 : wr.cell? ⟨w.heap.size + 1 + 1, m9, none⟩ = some (.int .u32 ((wsB b j).getD m9 0)) := by rw [row_cell hB.h2, u32s_get (by omega)]
          have c14 : wr.cell? ⟨w.heap.size + 1 + 1, m14, none⟩ = some (.int .u32 ((wsB b j).getD m14 0)) := by rw [row_cell hB.h2, u32s_get (by omega)]
          have cj : wr.cell? ⟨w.heap.size + 1 + 1, j, none⟩ = some (.int .u32 ((wsB b j).getD j 0)) := by rw [row_cell hB.h2, u32s_get (by omega)]
          have ck : wr.cell? ⟨w.heap.size + 1 + 1, k, none⟩ = some (.int .u32 ((wsB b j).getD k 0)) := by rw [row_cell hB.h2, u32s_get (by omega)]
          have fk : wr.frozen? ⟨w.heap.size + 1 + 1, k, none⟩ = false := row_free hB.h2 k
          have HJ : Hid (sched (wsB b j) j = (((((wsB b j).getD j 0 + bits .xor .u32 (bits .xor .u32 (turnF ((wsB b j).getD m1 0) 7) (turnF ((wsB b j).getD m1 0) 18)) ((wsB b j).getD m1 0 / 8)) % 4294967296 + (wsB b j).getD m9 0) % 4294967296
            + bits .xor .u32 (bits .xor .u32 (turnF ((wsB b j).getD m14 0) 17) (turnF ((wsB b j).getD m14 0) 19)) ((wsB b j).getD m14 0 / 1024)) % 4294967296)) := Lib.hid (by rw [hm1, hm9, hm14]; rfl)
          have HK := Lib.hid hk
          have NK : Hid (j ≠ k ∧ m9 ≠ k) := Lib.hid ⟨by omega, by omega⟩
          generalize hx1 : (wsB b j).getD m1 0 = x1 at *
          generalize hx9 : (wsB b j).getD m9 0 = x9 at *
          generalize hx14 : (wsB b j).getD m14 0 = x14 at *
          generalize hxj : (wsB b j).getD j 0 = xj at *
          generalize hxk : (wsB b j).getD k 0 = xk at *
          clear hm1 hm9 hm14 hsc hx1 hx9 hx14 hxj hxk hk hlen
          go_wp2_with fail
          refine wp_region_order [(0, false), (1, false), (2, false), (3, false), (4, false), (5, false), (6, false), (7, false), (8, false), (9, false)] (fun w' => w'.cell? ⟨w.heap.size + 1 + 1, m1, none⟩ = some (.int .u32 x1) ∧ w'.cell? ⟨w.heap.size + 1 + 1, m14, none⟩ = some (.int .u32 x14)) (by kernel_rfl) (by kernel_rfl) rfl (by kernel_rfl) (by intro _ _ d _ _ h; cases d <;> exact h) (⟨c1, c14⟩) ?_; simp only [List.map_cons, List.map_nil, List.getElem?_toArray, List.getElem?_cons_zero, List.getElem?_cons_succ, Option.getD_some]
          repeat (first | (refine ro_q (by rfl) (v := ?_) ?_ ?_; rotate_left; (focus (intro w' hSw; (try dsimp only at hSw); go_simp; try with_reducible rfl)); simp only [Act.put, List.setIfInBounds_toArray, List.set_cons_zero, List.set_cons_succ]) | (refine ro_skip (by rfl) ?_; simp only [Act.put, List.setIfInBounds_toArray, List.set_cons_zero, List.set_cons_succ]))
          (refine ro_nil ?_; go_wp2_with fail)
          refine wp_region_order [(0, false), (1, false), (2, false), (3, false), (4, false), (5, false), (7, false), (10, false), (11, false), (14, false), (15, false), (16, false), (17, false), (19, false), (21, false), (24, false), (25, false), (6, true), (8, true), (9, false), (12, false), (13, false), (18, false), (20, true), (22, true), (23, false), (26, false), (27, false), (28, false), (29, true)] (fun w' => w'.cell? ⟨w.heap.size + 1 + 1, j, none⟩ = some (.int .u32 xj) ∧ w'.cell? ⟨w.heap.size + 1 + 1, m9, none⟩ = some (.int .u32 x9)) (by kernel_rfl) (by kernel_rfl) rfl (by kernel_rfl) (by intro _ _ d _ _ h; cases d <;> exact h) (⟨cj, c9⟩) ?_; simp only [List.map_cons, List.map_nil, List.getElem?_toArray, List.getElem?_cons_zero, List.getElem?_cons_succ, Option.getD_some]
          repeat (first | (refine ro_q (by rfl) (v := ?_) ?_ ?_; rotate_left; (focus (intro w' hSw; (try dsimp only at hSw); go_simp; try with_reducible rfl)); simp only [Act.put, List.setIfInBounds_toArray, List.set_cons_zero, List.set_cons_succ]) | (refine ro_skip (by rfl) ?_; simp only [Act.put, List.setIfInBounds_toArray, List.set_cons_zero, List.set_cons_succ]))
          (refine ro_loud (by rfl) (fun K hK => ?_); go_simp)
          refine (turn_any _ _ _ u1 (by decide)).mono ?_
          rintro e w5 ⟨rfl, rfl⟩
          (refine hK.out _ _ (fun w' => w'.cell? ⟨w.heap.size + 1 + 1, j, none⟩ = some (.int .u32 xj) ∧ w'.cell? ⟨w.heap.size + 1 + 1, m9, none⟩ = some (.int .u32 x9)) (fun _ h => h) (⟨cj, c9⟩) ?_; clear hK K; try simp only [Act.put, List.setIfInBounds_toArray, List.set_cons_zero, List.set_cons_succ])
          repeat (first | (refine ro_q (by rfl) (v := ?_) ?_ ?_; rotate_left; (focus (intro w' hSw; (try dsimp only at hSw); go_simp; try with_reducible rfl)); simp only [Act.put, List.setIfInBounds_toArray, List.set_cons_zero, List.set_cons_succ]) | (refine ro_skip (by rfl) ?_; simp only [Act.put, List.setIfInBounds_toArray, List.set_cons_zero, List.set_cons_succ]))
          (refine ro_loud (by rfl) (fun K hK => ?_); go_simp)
          refine (turn_any _ _ _ u1 (by decide)).mono ?_
          rintro e w5 ⟨rfl, rfl⟩
          (refine hK.out _ _ (fun w' => w'.cell? ⟨w.heap.size + 1 + 1, j, none⟩ = some (.int .u32 xj) ∧ w'.cell? ⟨w.heap.size + 1 + 1, m9, none⟩ = some (.int .u32 x9)) (fun _ h => h) (⟨cj, c9⟩) ?_; clear hK K; try simp only [Act.put, List.setIfInBounds_toArray, List.set_cons_zero, List.set_cons_succ])
          repeat (first | (refine ro_q (by rfl) (v := ?_) ?_ ?_; rotate_left; (focus (intro w' hSw; (try dsimp only at hSw); go_simp; try with_reducible rfl)); simp only [Act.put, List.setIfInBounds_toArray, List.set_cons_zero, List.set_cons_succ]) | (refine ro_skip (by rfl) ?_; simp only [Act.put, List.setIfInBounds_toArray, List.set_cons_zero, List.set_cons_succ]))
          (refine ro_loud (by rfl) (fun K hK => ?_); go_simp)
          refine (turn_any _ _ _ u14 (by decide)).mono ?_
          rintro e w5 ⟨rfl, rfl⟩
          (refine hK.out _ _ (fun w' => w'.cell? ⟨w.heap.size + 1 + 1, j, none⟩ = some (.int .u32 xj) ∧ w'.cell? ⟨w.heap.size + 1 + 1, m9, none⟩ = some (.int .u32 x9)) (fun _ h => h) (⟨cj, c9⟩) ?_; clear hK K; try simp only [Act.put, List.setIfInBounds_toArray, List.set_cons_zero, List.set_cons_succ])
          repeat (first | (refine ro_q (by rfl) (v := ?_) ?_ ?_; rotate_left; (focus (intro w' hSw; (try dsimp only at hSw); go_simp; try with_reducible rfl)); simp only [Act.put, List.setIfInBounds_toArray, List.set_cons_zero, List.set_cons_succ]) | (refine ro_skip (by rfl) ?_; simp only [Act.put, List.setIfInBounds_toArray, List.set_cons_zero, List.set_cons_succ]))
          (refine ro_loud (by rfl) (fun K hK => ?_); go_simp)
          refine (turn_any _ _ _ u14 (by decide)).mono ?_
          rintro e w5 ⟨rfl, rfl⟩
          (refine hK.out _ _ (fun w' => w'.cell? ⟨w.heap.size + 1 + 1, j, none⟩ = some (.int .u32 xj) ∧ w'.cell? ⟨w.heap.size + 1 + 1, m9, none⟩ = some (.int .u32 x9)) (fun _ h => h) (⟨cj, c9⟩) ?_; clear hK K; try simp only [Act.put, List.setIfInBounds_toArray, List.set_cons_zero, List.set_cons_succ])
          repeat (first | (refine ro_q (by rfl) (v := ?_) ?_ ?_; rotate_left; (focus (intro w' hSw; (try dsimp only at hSw); go_simp; try with_reducible rfl)); simp only [Act.put, List.setIfInBounds_toArray, List.set_cons_zero, List.set_cons_succ]) | (refine ro_skip (by rfl) ?_; simp only [Act.put, List.setIfInBounds_toArray, List.set_cons_zero, List.set_cons_succ]))
          (refine ro_loud (by rfl) (fun K hK => ?_); go_simp)
          (refine hK.out _ _ (fun w' => w'.cell? ⟨w.heap.size + 1 + 1, j, none⟩ = some (.int .u32 xj) ∧ w'.cell? ⟨w.heap.size + 1 + 1, m9, none⟩ = some (.int .u32 x9)) (fun _ h => h) (⟨cell_far (w := wr) cj NK.out.1, cell_far (w := wr) c9 NK.out.2⟩) ?_; clear hK K; try simp only [Act.put, List.setIfInBounds_toArray, List.set_cons_zero, List.set_cons_succ])
          (refine ro_nil ?_; go_wp2_with fail)
          go_roundw
          case rel =>
            refine ⟨j + 1, by rw [HK.out]; go_num, by omega, ?_⟩
            have hfin := (hB.set k (sched (wsB b j) j)).drew.drew
            rw [HJ.out] at hfin
            rw [wsB, HJ.out, ← HK.out]
            exact hfin
          case measure => simp [intOf]; omega
        · have hj48 : j = 48 := by omega
          rw [hj48] at hB
          have hkb2 : decide ((k : Int) < 64) = false := by simp; omega
          clear hj48 hj h48 hk
          generalize (k : Int) = kz2 at *
          clear k j
          obtain ⟨a0, a1, a2, a3, a4, a5, a6, a7⟩ := row8 hB.h0
          go_wp2_with fail
          have hsz3 := lt_of_block hB.h2
          have hB0 := hB
          obtain ⟨wo, rfl⟩ : ∃ wo : World, wo = wr := ⟨_, rfl⟩
          go_loopw [94] (fun i wr => ∃ k : Nat, i = .int .i64 k ∧ k ≤ 64 ∧ BlkS w wr wo.heap.size hd (wsB b 48) (rounds64 b hd k)) (fun i _ => 64 - (intOf i).toNat)
          case atStart => exact ⟨0, rfl, by omega, blkS_start hB⟩
          case round =>
            clear hB hB0 a0 a1 a2 a3 a4 a5 a6 a7
            obtain ⟨k, rfl, hk, hS⟩ := hrel
            by_cases h64 : k < 64
            · have hso := rounds64_ok b hd hok k
              have hlen := wsB_length b 48
              have k64 : (k : Int) < 64 := by omega
              have k0 : (0 : Int) ≤ (k : Int) := by omega
              have hrf : rounds64 b hd (k + 1) = roundF (rounds64 b hd k) (shaK.getD k 0) ((wsB b 48).getD k 0) := rfl
              have cw : wr.cell? ⟨w.heap.size + 1 + 1, k, none⟩ = some (.int .u32 ((wsB b 48).getD k 0)) := by rw [row_cell hS.blk.h2, u32s_get (by omega)]
              have ct : wr.cell? ⟨0, k, none⟩ = some (.int .u32 (shaK.getD k 0)) := by rw [hS.blk.bel.cell (p := ⟨0, k, none⟩) HTB.out]; exact htab.out k h64
              have HRF := Lib.hid hrf
              generalize rounds64 b hd k = s at *
              generalize shaK.getD k 0 = kk at *
              generalize (wsB b 48).getD k 0 = ww at *
              clear hrf hlen
              obtain ⟨a0, a1, a2, a3, a4, a5, a6, a7⟩ := row8 hS.h3
              obtain ⟨ua, ub, uc, ud, ue, uf, ug, uh⟩ := hso
              go_wp2_with fail
              refine wp_region_order [(0, false), (1, false), (2, false), (3, false), (4, false), (5, false)] (fun w' => w'.cell? ⟨wo.heap.size, 4, none⟩ = some (.int .u32 s.e) ∧ w'.cell? ⟨wo.heap.size, 0, none⟩ = some (.int .u32 s.a)) (by kernel_rfl) (by kernel_rfl) rfl (by kernel_rfl) (by intro _ _ d _ _ h; cases d <;> exact h) (⟨a4, a0⟩) ?_; simp only [List.map_cons, List.map_nil, List.getElem?_toArray, List.getElem?_cons_zero, List.getElem?_cons_succ, Option.getD_some]
              repeat (first | (refine ro_q (by rfl) (v := ?_) ?_ ?_; rotate_left; (focus (intro w' hSw; (try dsimp only at hSw); go_simp; try with_reducible rfl)); simp only [Act.put, List.setIfInBounds_toArray, List.set_cons_zero, List.set_cons_succ]) | (refine ro_skip (by rfl) ?_; simp only [Act.put, List.setIfInBounds_toArray, List.set_cons_zero, List.set_cons_succ]))
              (refine ro_nil ?_; go_wp2_with fail)
              refine wp_region_order [(0, false), (1, false), (2, false), (4, false), (7, false), (11, false), (12, false), (13, false), (14, false), (15, false), (16, false), (17, false), (18, false), (19, false), (20, false), (22, false), (23, false), (24, false), (26, false), (27, false), (28, false), (3, true), (5, true), (6, false), (8, true), (9, false), (10, false), (21, false), (25, false), (29, false), (30, false)] (fun w' => w'.cell? ⟨wo.heap.size, 0, none⟩ = some (.int .u32 s.a) ∧ w'.cell? ⟨wo.heap.size, 1, none⟩ = some (.int .u32 s.b) ∧ w'.cell? ⟨wo.heap.size, 2, none⟩ = some (.int .u32 s.c) ∧ w'.cell? ⟨wo.heap.size, 3, none⟩ = some (.int .u32 s.d) ∧ w'.cell? ⟨wo.heap.size, 4, none⟩ = some (.int .u32 s.e) ∧ w'.cell? ⟨wo.heap.size, 5, none⟩ = some (.int .u32 s.f) ∧ w'.cell? ⟨wo.heap.size, 6, none⟩ = some (.int .u32 s.g) ∧ w'.cell? ⟨wo.heap.size, 7, none⟩ = some (.int .u32 s.h) ∧ w'.cell? ⟨0, k, none⟩ = some (.int .u32 kk) ∧ w'.cell? ⟨w.heap.size + 1 + 1, k, none⟩ = some (.int .u32 ww)) (by kernel_rfl) (by kernel_rfl) rfl (by kernel_rfl) (by intro _ _ d _ _ h; cases d <;> exact h) (⟨a0, a1, a2, a3, a4, a5, a6, a7, ct, cw⟩) ?_; simp only [List.map_cons, List.map_nil, List.getElem?_toArray, List.getElem?_cons_zero, List.getElem?_cons_succ, Option.getD_some]
              repeat (first | (refine ro_q (by rfl) (v := ?_) ?_ ?_; rotate_left; (focus (intro w' hSw; (try dsimp only at hSw); go_simp; try with_reducible rfl)); simp only [Act.put, List.setIfInBounds_toArray, List.set_cons_zero, List.set_cons_succ]) | (refine ro_skip (by rfl) ?_; simp only [Act.put, List.setIfInBounds_toArray, List.set_cons_zero, List.set_cons_succ]))
              (refine ro_loud (by rfl) (fun K hK => ?_); go_simp)
              refine (turn_any _ _ _ ue (by decide)).mono ?_
              rintro e w5 ⟨rfl, rfl⟩
              (refine hK.out _ _ (fun w' => w'.cell? ⟨wo.heap.size, 0, none⟩ = some (.int .u32 s.a) ∧ w'.cell? ⟨wo.heap.size, 1, none⟩ = some (.int .u32 s.b) ∧ w'.cell? ⟨wo.heap.size, 2, none⟩ = some (.int .u32 s.c) ∧ w'.cell? ⟨wo.heap.size, 3, none⟩ = some (.int .u32 s.d) ∧ w'.cell? ⟨wo.heap.size, 4, none⟩ = some (.int .u32 s.e) ∧ w'.cell? ⟨wo.heap.size, 5, none⟩ = some (.int .u32 s.f) ∧ w'.cell? ⟨wo.heap.size, 6, none⟩ = some (.int .u32 s.g) ∧ w'.cell? ⟨wo.heap.size, 7, none⟩ = some (.int .u32 s.h) ∧ w'.cell? ⟨0, k, none⟩ = some (.int .u32 kk) ∧ w'.cell? ⟨w.heap.size + 1 + 1, k, none⟩ = some (.int .u32 ww)) (fun _ h => h) (⟨a0, a1, a2, a3, a4, a5, a6, a7, ct, cw⟩) ?_; clear hK K; try simp only [Act.put, List.setIfInBounds_toArray, List.set_cons_zero, List.set_cons_succ])
              repeat (first | (refine ro_q (by rfl) (v := ?_) ?_ ?_; rotate_left; (focus (intro w' hSw; (try dsimp only at hSw); go_simp; try with_reducible rfl)); simp only [Act.put, List.setIfInBounds_toArray, List.set_cons_zero, List.set_cons_succ]) | (refine ro_skip (by rfl) ?_; simp only [Act.put, List.setIfInBounds_toArray, List.set_cons_zero, List.set_cons_succ]))
              (refine ro_loud (by rfl) (fun K hK => ?_); go_simp)
              refine (turn_any _ _ _ ue (by decide)).mono ?_
              rintro e w5 ⟨rfl, rfl⟩
              (refine hK.out _ _ (fun w' => w'.cell? ⟨wo.heap.size, 0, none⟩ = some (.int .u32 s.a) ∧ w'.cell? ⟨wo.heap.size, 1, none⟩ = some (.int .u32 s.b) ∧ w'.cell? ⟨wo.heap.size, 2, none⟩ = some (.int .u32 s.c) ∧ w'.cell? ⟨wo.heap.size, 3, none⟩ = some (.int .u32 s.d) ∧ w'.cell? ⟨wo.heap.size, 4, none⟩ = some (.int .u32 s.e) ∧ w'.cell? ⟨wo.heap.size, 5, none⟩ = some (.int .u32 s.f) ∧ w'.cell? ⟨wo.heap.size, 6, none⟩ = some (.int .u32 s.g) ∧ w'.cell? ⟨wo.heap.size, 7, none⟩ = some (.int .u32 s.h) ∧ w'.cell? ⟨0, k, none⟩ = some (.int .u32 kk) ∧ w'.cell? ⟨w.heap.size + 1 + 1, k, none⟩ = some (.int .u32 ww)) (fun _ h => h) (⟨a0, a1, a2, a3, a4, a5, a6, a7, ct, cw⟩) ?_; clear hK K; try simp only [Act.put, List.setIfInBounds_toArray, List.set_cons_zero, List.set_cons_succ])
              repeat (first | (refine ro_q (by rfl) (v := ?_) ?_ ?_; rotate_left; (focus (intro w' hSw; (try dsimp only at hSw); go_simp; try with_reducible rfl)); simp only [Act.put, List.setIfInBounds_toArray, List.set_cons_zero, List.set_cons_succ]) | (refine ro_skip (by rfl) ?_; simp only [Act.put, List.setIfInBounds_toArray, List.set_cons_zero, List.set_cons_succ]))
              (refine ro_loud (by rfl) (fun K hK => ?_); go_simp)
              refine (turn_any _ _ _ ue (by decide)).mono ?_
              rintro e w5 ⟨rfl, rfl⟩
              (refine hK.out _ _ (fun w' => w'.cell? ⟨wo.heap.size, 0, none⟩ = some (.int .u32 s.a) ∧ w'.cell? ⟨wo.heap.size, 1, none⟩ = some (.int .u32 s.b) ∧ w'.cell? ⟨wo.heap.size, 2, none⟩ = some (.int .u32 s.c) ∧ w'.cell? ⟨wo.heap.size, 3, none⟩ = some (.int .u32 s.d) ∧ w'.cell? ⟨wo.heap.size, 4, none⟩ = some (.int .u32 s.e) ∧ w'.cell? ⟨wo.heap.size, 5, none⟩ = some (.int .u32 s.f) ∧ w'.cell? ⟨wo.heap.size, 6, none⟩ = some (.int .u32 s.g) ∧ w'.cell? ⟨wo.heap.size, 7, none⟩ = some (.int .u32 s.h) ∧ w'.cell? ⟨0, k, none⟩ = some (.int .u32 kk) ∧ w'.cell? ⟨w.heap.size + 1 + 1, k, none⟩ = some (.int .u32 ww)) (fun _ h => h) (⟨a0, a1, a2, a3, a4, a5, a6, a7, ct, cw⟩) ?_; clear hK K; try simp only [Act.put, List.setIfInBounds_toArray, List.set_cons_zero, List.set_cons_succ])
              repeat (first | (refine ro_q (by rfl) (v := ?_) ?_ ?_; rotate_left; (focus (intro w' hSw; (try dsimp only at hSw); go_simp; try with_reducible rfl)); simp only [Act.put, List.setIfInBounds_toArray, List.set_cons_zero, List.set_cons_succ]) | (refine ro_skip (by rfl) ?_; simp only [Act.put, List.setIfInBounds_toArray, List.set_cons_zero, List.set_cons_succ]))
              (refine ro_nil ?_; go_wp2_with fail)
              refine wp_region_order [(0, false), (2, false), (5, false), (8, false), (9, false), (10, false), (11, false), (12, false), (13, false), (14, false), (15, false), (16, false), (17, false), (18, false), (19, false), (20, false), (21, false), (22, false), (1, true), (3, true), (4, false), (6, true), (7, false), (23, false), (24, false)] (fun w' => w'.cell? ⟨wo.heap.size, 0, none⟩ = some (.int .u32 s.a) ∧ w'.cell? ⟨wo.heap.size, 1, none⟩ = some (.int .u32 s.b) ∧ w'.cell? ⟨wo.heap.size, 2, none⟩ = some (.int .u32 s.c) ∧ w'.cell? ⟨wo.heap.size, 3, none⟩ = some (.int .u32 s.d) ∧ w'.cell? ⟨wo.heap.size, 4, none⟩ = some (.int .u32 s.e) ∧ w'.cell? ⟨wo.heap.size, 5, none⟩ = some (.int .u32 s.f) ∧ w'.cell? ⟨wo.heap.size, 6, none⟩ = some (.int .u32 s.g) ∧ w'.cell? ⟨wo.heap.size, 7, none⟩ = some (.int .u32 s.h) ∧ w'.cell? ⟨0, k, none⟩ = some (.int .u32 kk) ∧ w'.cell? ⟨w.heap.size + 1 + 1, k, none⟩ = some (.int .u32 ww)) (by kernel_rfl) (by kernel_rfl) rfl (by kernel_rfl) (by intro _ _ d _ _ h; cases d <;> exact h) (⟨a0, a1, a2, a3, a4, a5, a6, a7, ct, cw⟩) ?_; simp only [List.map_cons, List.map_nil, List.getElem?_toArray, List.getElem?_cons_zero, List.getElem?_cons_succ, Option.getD_some]
              repeat (first | (refine ro_q (by rfl) (v := ?_) ?_ ?_; rotate_left; (focus (intro w' hSw; (try dsimp only at hSw); go_simp; try with_reducible rfl)); simp only [Act.put, List.setIfInBounds_toArray, List.set_cons_zero, List.set_cons_succ]) | (refine ro_skip (by rfl) ?_; simp only [Act.put, List.setIfInBounds_toArray, List.set_cons_zero, List.set_cons_succ]))
              (refine ro_loud (by rfl) (fun K hK => ?_); go_simp)
              refine (turn_any _ _ _ ua (by decide)).mono ?_
              rintro e w5 ⟨rfl, rfl⟩
              (refine hK.out _ _ (fun w' => w'.cell? ⟨wo.heap.size, 0, none⟩ = some (.int .u32 s.a) ∧ w'.cell? ⟨wo.heap.size, 1, none⟩ = some (.int .u32 s.b) ∧ w'.cell? ⟨wo.heap.size, 2, none⟩ = some (.int .u32 s.c) ∧ w'.cell? ⟨wo.heap.size, 3, none⟩ = some (.int .u32 s.d) ∧ w'.cell? ⟨wo.heap.size, 4, none⟩ = some (.int .u32 s.e) ∧ w'.cell? ⟨wo.heap.size, 5, none⟩ = some (.int .u32 s.f) ∧ w'.cell? ⟨wo.heap.size, 6, none⟩ = some (.int .u32 s.g) ∧ w'.cell? ⟨wo.heap.size, 7, none⟩ = some (.int .u32 s.h) ∧ w'.cell? ⟨0, k, none⟩ = some (.int .u32 kk) ∧ w'.cell? ⟨w.heap.size + 1 + 1, k, none⟩ = some (.int .u32 ww)) (fun _ h => h) (⟨a0, a1, a2, a3, a4, a5, a6, a7, ct, cw⟩) ?_; clear hK K; try simp only [Act.put, List.setIfInBounds_toArray, List.set_cons_zero, List.set_cons_succ])
              repeat (first | (refine ro_q (by rfl) (v := ?_) ?_ ?_; rotate_left; (focus (intro w' hSw; (try dsimp only at hSw); go_simp; try with_reducible rfl)); simp only [Act.put, List.setIfInBounds_toArray, List.set_cons_zero, List.set_cons_succ]) | (refine ro_skip (by rfl) ?_; simp only [Act.put, List.setIfInBounds_toArray, List.set_cons_zero, List.set_cons_succ]))
              (refine ro_loud (by rfl) (fun K hK => ?_); go_simp)
              refine (turn_any _ _ _ ua (by decide)).mono ?_
              rintro e w5 ⟨rfl, rfl⟩
              (refine hK.out _ _ (fun w' => w'.cell? ⟨wo.heap.size, 0, none⟩ = some (.int .u32 s.a) ∧ w'.cell? ⟨wo.heap.size, 1, none⟩ = some (.int .u32 s.b) ∧ w'.cell? ⟨wo.heap.size, 2, none⟩ = some (.int .u32 s.c) ∧ w'.cell? ⟨wo.heap.size, 3, none⟩ = some (.int .u32 s.d) ∧ w'.cell? ⟨wo.heap.size, 4, none⟩ = some (.int .u32 s.e) ∧ w'.cell? ⟨wo.heap.size, 5, none⟩ = some (.int .u32 s.f) ∧ w'.cell? ⟨wo.heap.size, 6, none⟩ = some (.int .u32 s.g) ∧ w'.cell? ⟨wo.heap.size, 7, none⟩ = some (.int .u32 s.h) ∧ w'.cell? ⟨0, k, none⟩ = some (.int .u32 kk) ∧ w'.cell? ⟨w.heap.size + 1 + 1, k, none⟩ = some (.int .u32 ww)) (fun _ h => h) (⟨a0, a1, a2, a3, a4, a5, a6, a7, ct, cw⟩) ?_; clear hK K; try simp only [Act.put, List.setIfInBounds_toArray, List.set_cons_zero, List.set_cons_succ])
              repeat (first | (refine ro_q (by rfl) (v := ?_) ?_ ?_; rotate_left; (focus (intro w' hSw; (try dsimp only at hSw); go_simp; try with_reducible rfl)); simp only [Act.put, List.setIfInBounds_toArray, List.set_cons_zero, List.set_cons_succ]) | (refine ro_skip (by rfl) ?_; simp only [Act.put, List.setIfInBounds_toArray, List.set_cons_zero, List.set_cons_succ]))
              (refine ro_loud (by rfl) (fun K hK => ?_); go_simp)
              refine (turn_any _ _ _ ua (by decide)).mono ?_
              rintro e w5 ⟨rfl, rfl⟩
              (refine hK.out _ _ (fun w' => w'.cell? ⟨wo.heap.size, 0, none⟩ = some (.int .u32 s.a) ∧ w'.cell? ⟨wo.heap.size, 1, none⟩ = some (.int .u32 s.b) ∧ w'.cell? ⟨wo.heap.size, 2, none⟩ = some (.int .u32 s.c) ∧ w'.cell? ⟨wo.heap.size, 3, none⟩ = some (.int .u32 s.d) ∧ w'.cell? ⟨wo.heap.size, 4, none⟩ = some (.int .u32 s.e) ∧ w'.cell? ⟨wo.heap.size, 5, none⟩ = some (.int .u32 s.f) ∧ w'.cell? ⟨wo.heap.size, 6, none⟩ = some (.int .u32 s.g) ∧ w'.cell? ⟨wo.heap.size, 7, none⟩ = some (.int .u32 s.h) ∧ w'.cell? ⟨0, k, none⟩ = some (.int .u32 kk) ∧ w'.cell? ⟨w.heap.size + 1 + 1, k, none⟩ = some (.int .u32 ww)) (fun _ h => h) (⟨a0, a1, a2, a3, a4, a5, a6, a7, ct, cw⟩) ?_; clear hK K; try simp only [Act.put, List.setIfInBounds_toArray, List.set_cons_zero, List.set_cons_succ])
              repeat (first | (refine ro_q (by rfl) (v := ?_) ?_ ?_; rotate_left; (focus (intro w' hSw; (try dsimp only at hSw); go_simp; try with_reducible rfl)); simp only [Act.put, List.setIfInBounds_toArray, List.set_cons_zero, List.set_cons_succ]) | (refine ro_skip (by rfl) ?_; simp only [Act.put, List.setIfInBounds_toArray, List.set_cons_zero, List.set_cons_succ]))
              (refine ro_nil ?_; go_wp2_with fail)
              refine wp_region_order [(0, false), (1, false), (2, true)] (fun _ => True) (by kernel_rfl) (by kernel_rfl) rfl (by kernel_rfl) (by intro _ _ d _ _ h; cases d <;> exact h) (trivial) ?_; simp only [List.map_cons, List.map_nil, List.getElem?_toArray, List.getElem?_cons_zero, List.getElem?_cons_succ, Option.getD_some]
              repeat (first | (refine ro_q (by rfl) (v := ?_) ?_ ?_; rotate_left; (focus (intro w' hSw; (try dsimp only at hSw); go_simp; try with_reducible rfl)); simp only [Act.put, List.setIfInBounds_toArray, List.set_cons_zero, List.set_cons_succ]) | (refine ro_skip (by rfl) ?_; simp only [Act.put, List.setIfInBounds_toArray, List.set_cons_zero, List.set_cons_succ]))
              refine ro_loud (by rfl) (fun K hK => ?_)
              refine wp_copy_runI _ (.tmp 155) (.tmp 156) 122 122 rfl _ _ (by rfl) (by rfl) (copy8 (s := s) hS.drew.drew.drew.drew.h3 122 122 _ 80 rfl rfl) ?_
              have hS2 := hS.drew.drew.drew.drew.copy
              clear hS a0 a1 a2 a3 a4 a5 a6 a7 ct cw
              generalize wr.drew.drew.drew.drew.setRow wo.heap.size (u32s [s.a, s.a, s.b, s.c, s.d, s.e, s.f, s.g]).toArray = w2 at *
              obtain ⟨b0, _, _, _, b4, _, _, _⟩ := row8 hS2.h3
              have f0 : w2.frozen? ⟨wo.heap.size, 0, none⟩ = false := row_free hS2.h3 0
              have f4 : w2.frozen? ⟨wo.heap.size, 4, none⟩ = false := row_free hS2.h3 4
              (refine hK.out _ _ (fun _ => True) (fun _ h => h) (trivial) ?_; clear hK K; try simp only [Act.put, List.setIfInBounds_toArray, List.set_cons_zero, List.set_cons_succ])
              (refine ro_nil ?_; go_wp2_with fail)
              go_roundw
              case rel =>
                refine ⟨k + 1, by go_num, by omega, ?_⟩
                rw [HRF.out]
                have hfin := (hS2.set4 ((s.d + roundT s kk ww) % 4294967296)).set0 ((roundT s kk ww + roundU s) % 4294967296)
                show BlkS _ _ _ _ _ ⟨(roundT s kk ww + roundU s) % 4294967296, s.a, s.b, s.c, (s.d + roundT s kk ww) % 4294967296, s.e, s.f, s.g⟩
                simp only [roundT, roundU, Int.emod_add_emod, Int.add_emod_emod] at hfin ⊢
                exact hfin
              case measure => simp [intOf]; omega
            · have hk64 : k = 64 := by omega
              rw [hk64] at hS
              have hkb : decide ((k : Int) < 64) = false := by simp; omega
              clear hk64 hk h64
              generalize (k : Int) = kz3 at *
              clear k
              go_wp2_with fail
              have hE0 : BlkE w wr wo.heap.size (rounds64 b hd 64) (addTo hd (rounds64 b hd 64) 0) := ⟨hS.blk.h0, hS.blk.h1, hS.h3, hS.far, hS.blk.bel⟩
              clear hS
              obtain ⟨wp, hwp⟩ : ∃ wp : World, wp = wr := ⟨_, rfl⟩
              rw [← hwp] at hE0 ⊢
              clear hwp
              go_loopw [168] (fun i wr => ∃ k : Nat, i = .int .i64 k ∧ k ≤ 8 ∧ BlkE w wr wo.heap.size (rounds64 b hd 64) (addTo hd (rounds64 b hd 64) k)) (fun i _ => 8 - (intOf i).toNat)
              case atStart => exact ⟨0, rfl, by omega, hE0⟩
              case round =>
                clear hE0
                obtain ⟨k, rfl, hk, hE⟩ := hrel
                by_cases h8 : k < 8
                · have hlen := addTo_length hd (rounds64 b hd 64) k
                  have hE1 := hE.drew
                  have hne : w.heap.size ≠ wo.heap.size := by have := hE.far; omega
                  have k8 : (k : Int) < 8 := by omega
                  have k0 : (0 : Int) ≤ (k : Int) := by omega
                  have ch : wr.cell? ⟨w.heap.size, k, none⟩ = some (.int .u32 (hd.list.getD k 0)) := by rw [row_cell hE.h0, u32s_get (by omega), addTo_get _ _ _ _ (Nat.le_refl _)]
                  have fh : wr.frozen? ⟨w.heap.size, k, none⟩ = false := row_free hE.h0 k
                  have cs : wr.cell? ⟨wo.heap.size, k, none⟩ = some (.int .u32 ((rounds64 b hd 64).list.getD k 0)) := by rw [row_cell hE.h3, u32s_get (by simp [Hd.list]; omega)]
                  have HAD : Hid (addTo hd (rounds64 b hd 64) (k + 1) = (addTo hd (rounds64 b hd 64) k).set k ((hd.list.getD k 0 + (rounds64 b hd 64).list.getD k 0) % 4294967296)) := Lib.hid rfl
                  generalize hd.list.getD k 0 = x at *
                  generalize (rounds64 b hd 64).list.getD k 0 = y at *
                  clear hlen
                  go_wp2_with fail
                  refine Lone.wp_region_order [(0, false), (1, false), (2, false), (3, false), (4, false), (5, false), (6, false), (7, false), (8, true)] (fun w' => w'.cell? ⟨w.heap.size, k, none⟩ = some (.int .u32 x) ∧ w'.cell? ⟨wo.heap.size, k, none⟩ = some (.int .u32 y)) (by kernel_rfl) (by kernel_rfl) rfl (by kernel_rfl) (by intro _ _ d _ _ h; cases d <;> exact h) (⟨ch, cs⟩) ?_; simp only [List.map_cons, List.map_nil, List.getElem?_toArray, List.getElem?_cons_zero, List.getElem?_cons_succ, Option.getD_some]
                  repeat (first | (refine Lone.ro_q (by rfl) (v := ?_) ?_ ?_; rotate_left; (focus (intro w' hSw; (try dsimp only at hSw); go_simp; try with_reducible rfl)); simp only [Act.put, List.setIfInBounds_toArray, List.set_cons_zero, List.set_cons_succ]) | (refine Lone.ro_skip (by rfl) ?_; simp only [Act.put, List.setIfInBounds_toArray, List.set_cons_zero, List.set_cons_succ]))
                  (refine Lone.ro_loud (by rfl) (fun K hK => ?_); go_simp)
                  (refine hK.out _ _ (fun _ => True) (.inr (by kernel_rfl)) (trivial) ?_; clear hK K; try simp only [Act.put, List.setIfInBounds_toArray, List.set_cons_zero, List.set_cons_succ])
                  (refine Lone.ro_nil ?_; go_wp2_with fail)
                  go_roundw
                  case rel =>
                    refine ⟨k + 1, by go_num, by omega, ?_⟩
                    rw [HAD.out]
                    exact (hE.set k _).drew
                  case measure => simp [intOf]; omega
                · have hk8 : k = 8 := by omega
                  rw [hk8] at hE
                  have hkb : decide ((k : Int) < 8) = false := by simp; omega
                  clear hk8 hk h8
                  generalize (k : Int) = kz4 at *
                  clear k
                  have hE8 : wr.heap[w.heap.size]? = some (.cells (u32s (blockF hd b).list).toArray 81 (0, 0)) := hE.h0
                  obtain ⟨c0, c1, c2, c3, c4, c5, c6, c7⟩ := row8 hE8
                  obtain ⟨d0, d1, d2, d3, d4, d5, d6, d7⟩ := row8 (s := ⟨0, 0, 0, 0, 0, 0, 0, 0⟩) hE.h1
                  have z0 := row_free hE.h1 0
                  have z1 := row_free hE.h1 1
                  have z2 := row_free hE.h1 2
                  have z3 := row_free hE.h1 3
                  have z4 := row_free hE.h1 4
                  have z5 := row_free hE.h1 5
                  have z6 := row_free hE.h1 6
                  have z7 := row_free hE.h1 7
                  have HBel := Lib.hid hE.bel
                  clear hE hE8
                  go_wp2_with fail
                  refine bodyPost_ret (v := hdV (blockF hd b)) ?_ rfl ⟨rfl, ?_⟩
                  · simp [results, Tryd.f61, go_sem, hdV, d0, d1, d2, d3, d4, d5, d6, d7]
                  · exact (((((((HBel.out.setCell (by simp) _).setCell (by simp) _).setCell (by simp) _).setCell (by simp) _).setCell (by simp) _).setCell (by simp) _).setCell (by simp) _).setCell (by simp) _
end Go.Proofs.YtmacceamebdelaaDoor
/-! SumGood -/
namespace Go.Proofs.YtmacceamebdelaaDoor
open Go.RowKit
set_option linter.unusedVariables false
set_option linter.unusedSimpArgs false

/-- A state of a sum at work. -/
structure St where
  heads : Hd
  rest : ByteArray
  many : Int
def stV (s : St) : Value := .agg #[.int .u32 s.heads.a, .int .u32 s.heads.b, .int .u32 s.heads.c, .int .u32 s.heads.d, .int .u32 s.heads.e, .int .u32 s.heads.f, .int .u32 s.heads.g, .int .u32 s.heads.h, .string s.rest, .int .i64 s.many]
def stCells (s : St) : List Value := [.int .u32 s.heads.a, .int .u32 s.heads.b, .int .u32 s.heads.c, .int .u32 s.heads.d, .int .u32 s.heads.e, .int .u32 s.heads.f, .int .u32 s.heads.g, .int .u32 s.heads.h, .string s.rest, .int .i64 s.many]
def start : St := ⟨⟨1779033703, 3144134277, 1013904242, 2773480762, 1359893119, 2600822924, 528734635, 1541459225⟩, ⟨#[]⟩, 0⟩
/-- What Good answers. -/
def goodB (s : St) : Bool := decide (0 ≤ s.many) && (decide (s.many < 1152921504606846976) && decide ((s.rest.size : Int) = s.many % 64))

set_option maxRecDepth 100000 in
set_option maxHeartbeats 400000 in
theorem good_any (s : St) (w : World) :
    Calls Tryd.prog 60 #[stV s] w fun e w' => e = .returned (.bool (goodB s)) ∧ Below w.heap.size w w' := by
  simp only [stV]
  by_cases h0 : 0 ≤ s.many
  · by_cases h1 : s.many < 1152921504606846976
    · have hm : s.many.tmod 64 = s.many % 64 := Int.tmod_eq_emod_of_nonneg h0
      have hg : goodB s = decide ((s.rest.size : Int) = s.many % 64) := by simp [goodB, h0, h1]
      rw [hg]
      clear hg
      go_enter Tryd.func60, Tryd.ntmps60
      go_wp2_with fail
      go_ret
      exact ⟨by rw [Bool.beq_eq_decide_eq]; rfl, (Below.refl _ _).alloc (Nat.le_refl _) _⟩
    · have hg : goodB s = false := by simp [goodB, h1]
      rw [hg]
      clear hg
      go_enter Tryd.func60, Tryd.ntmps60
      go_wp2_with fail
      go_ret
      exact ⟨rfl, (Below.refl _ _).alloc (Nat.le_refl _) _⟩
  · have hg : goodB s = false := by simp [goodB, h0]
    rw [hg]
    clear hg
    go_enter Tryd.func60, Tryd.ntmps60
    go_wp2_with fail
    go_ret
    exact ⟨rfl, (Below.refl _ _).alloc (Nat.le_refl _) _⟩
set_option maxRecDepth 100000 in
set_option maxHeartbeats 400000 in
theorem begin_any (w : World) :
    Calls Tryd.prog 35 #[] w fun e w' => e = .returned (stV start) ∧ Below w.heap.size w w' := by
  go_enter Tryd.func35, Tryd.ntmps35
  go_wp2_with fail
  refine bodyPost_ret (v := stV start) (by simp [results, Tryd.f35, go_sem, stV, start]) rfl ?_
  exact ⟨rfl, (Below.refl _ _).alloc (Nat.le_refl _) _⟩
end Go.Proofs.YtmacceamebdelaaDoor
/-! SumAdd -/
namespace Go.Proofs.YtmacceamebdelaaDoor
open Go.RowKit
set_option linter.unusedVariables false
set_option linter.unusedSimpArgs false

/-- The heads behind n blocks. -/
def blkN (hd : Hd) (b : ByteArray) : Nat → Hd
  | 0 => hd
  | n + 1 => blockF (blkN hd b n) (b.extract (64 * n) (64 * n + 64))
theorem blkN_ok (hd : Hd) (b : ByteArray) (h : hd.ok) : ∀ n, (blkN hd b n).ok
  | 0 => h
  | n + 1 => blockF_ok _ _
/-- What Add answers. -/
def addOk (s : St) (b : ByteArray) : Bool := goodB s && (decide ((b.size : Int) ≤ 576460752303423488) && decide (s.many + b.size < 1152921504606846976))
def addF (s : St) (b : ByteArray) : St :=
  let x := s.rest ++ b
  ⟨blkN s.heads x (x.size / 64), x.extract (64 * (x.size / 64)) x.size, s.many + b.size⟩
def noSt : St := ⟨⟨0, 0, 0, 0, 0, 0, 0, 0⟩, ⟨#[]⟩, 0⟩
theorem block10 {w : World} {g : Nat} {s : St} {t : TypeId} (h : w.heap[g]? = some (.cells (stCells s).toArray t (0, 0))) :
    w.cell? ⟨g, 0, none⟩ = some (.int .u32 s.heads.a) ∧ w.cell? ⟨g, 1, none⟩ = some (.int .u32 s.heads.b) ∧ w.cell? ⟨g, 2, none⟩ = some (.int .u32 s.heads.c) ∧ w.cell? ⟨g, 3, none⟩ = some (.int .u32 s.heads.d) ∧
    w.cell? ⟨g, 4, none⟩ = some (.int .u32 s.heads.e) ∧ w.cell? ⟨g, 5, none⟩ = some (.int .u32 s.heads.f) ∧ w.cell? ⟨g, 6, none⟩ = some (.int .u32 s.heads.g) ∧ w.cell? ⟨g, 7, none⟩ = some (.int .u32 s.heads.h) ∧
    w.cell? ⟨g, 8, none⟩ = some (.string s.rest) ∧ w.cell? ⟨g, 9, none⟩ = some (.int .i64 s.many) := by
  refine ⟨?_, ?_, ?_, ?_, ?_, ?_, ?_, ?_, ?_, ?_⟩ <;> rw [row_cell h] <;> rfl

/-- The blocks of Add: the state at work, the answer. -/
structure AddW (w wr : World) (s r : St) : Prop where
  h0 : wr.heap[w.heap.size]? = some (.cells (stCells s).toArray 83 (0, 0))
  h1 : wr.heap[w.heap.size + 1]? = some (.cells (stCells r).toArray 83 (0, 0))
  bel : Below w.heap.size w wr
theorem AddW.below' {w wr wn : World} {s r : St} (h : AddW w wr s r) (hb : Below wr.heap.size wr wn) : AddW w wn s r := by
  have l0 := lt_of_block h.h0
  have l1 := lt_of_block h.h1
  exact ⟨by rw [hb.block _ l0]; exact h.h0, by rw [hb.block _ l1]; exact h.h1, h.bel.trans (hb.mono (by omega))⟩
theorem addW_start (w : World) (s r : St) : AddW w ((w.alloc (.cells (stCells s).toArray 83)).alloc (.cells (stCells r).toArray 83)) s r :=
  ⟨by rw [Below.heap_alloc _ _ _ (by simp)]; exact heap_alloc_new _ _, by have := heap_alloc_new (w.alloc (.cells (stCells s).toArray 83)) (.cells (stCells r).toArray 83); simpa using this, ((Below.refl _ _).alloc (Nat.le_refl _) _).alloc (by simp) _⟩
theorem AddW.drew {w wr : World} {s r : St} (h : AddW w wr s r) : AddW w wr.drew s r := ⟨h.h0, h.h1, h.bel.drew⟩

theorem AddW.many {w wr : World} {s r : St} (h : AddW w wr s r) (v : Int) : AddW w (wr.setCell ⟨w.heap.size, 9, none⟩ (.int .i64 v)) ⟨s.heads, s.rest, v⟩ r :=
  ⟨row_set h.h0 9 _, by rw [Below.heap_setCell _ _ _ _ (by simp)]; exact h.h1, h.bel.setCell (Nat.le_refl _) _⟩
theorem AddW.rest {w wr : World} {s r : St} (h : AddW w wr s r) (v : ByteArray) : AddW w (wr.setCell ⟨w.heap.size, 8, none⟩ (.string v)) ⟨s.heads, v, s.many⟩ r :=
  ⟨row_set h.h0 8 _, by rw [Below.heap_setCell _ _ _ _ (by simp)]; exact h.h1, h.bel.setCell (Nat.le_refl _) _⟩
theorem cells_set8 {w : World} {g : Nat} {s : St} {t : TypeId} (h : w.heap[g]? = some (.cells (stCells s).toArray t (0, 0))) (x : Hd) :
    ((((((((w.setCell ⟨g, 0, none⟩ (.int .u32 x.a)).setCell ⟨g, 1, none⟩ (.int .u32 x.b)).setCell ⟨g, 2, none⟩ (.int .u32 x.c)).setCell ⟨g, 3, none⟩ (.int .u32 x.d)).setCell ⟨g, 4, none⟩ (.int .u32 x.e)).setCell ⟨g, 5, none⟩ (.int .u32 x.f)).setCell ⟨g, 6, none⟩ (.int .u32 x.g)).setCell ⟨g, 7, none⟩ (.int .u32 x.h)).heap[g]? = some (.cells (stCells ⟨x, s.rest, s.many⟩).toArray t (0, 0)) :=
  row_set (row_set (row_set (row_set (row_set (row_set (row_set (row_set h 0 _) 1 _) 2 _) 3 _) 4 _) 5 _) 6 _) 7 _
theorem AddW.heads {w wr : World} {s r : St} (h : AddW w wr s r) (x : Hd) :
    AddW w ((((((((wr.setCell ⟨w.heap.size, 0, none⟩ (.int .u32 x.a)).setCell ⟨w.heap.size, 1, none⟩ (.int .u32 x.b)).setCell ⟨w.heap.size, 2, none⟩ (.int .u32 x.c)).setCell ⟨w.heap.size, 3, none⟩ (.int .u32 x.d)).setCell ⟨w.heap.size, 4, none⟩ (.int .u32 x.e)).setCell ⟨w.heap.size, 5, none⟩ (.int .u32 x.f)).setCell ⟨w.heap.size, 6, none⟩ (.int .u32 x.g)).setCell ⟨w.heap.size, 7, none⟩ (.int .u32 x.h)) ⟨x, s.rest, s.many⟩ r :=
  ⟨cells_set8 h.h0 x, by rw [Below.heap_setCell _ _ _ _ (by simp), Below.heap_setCell _ _ _ _ (by simp), Below.heap_setCell _ _ _ _ (by simp), Below.heap_setCell _ _ _ _ (by simp), Below.heap_setCell _ _ _ _ (by simp), Below.heap_setCell _ _ _ _ (by simp), Below.heap_setCell _ _ _ _ (by simp), Below.heap_setCell _ _ _ _ (by simp)]; exact h.h1,
    (((((((h.bel.setCell (Nat.le_refl _) _).setCell (Nat.le_refl _) _).setCell (Nat.le_refl _) _).setCell (Nat.le_refl _) _).setCell (Nat.le_refl _) _).setCell (Nat.le_refl _) _).setCell (Nat.le_refl _) _).setCell (Nat.le_refl _) _⟩
/-- How long a text is, as a measure. -/
def strLen : Value → Nat
  | .string b => b.size
  | _ => 0
theorem extract_size' (x : ByteArray) (i : Nat) (h : i ≤ x.size) : (x.extract i x.size).size = x.size - i := by
  simp [ByteArray.size_extract]
theorem extract_all (x : ByteArray) : x = x.extract 0 x.size := by
  apply bs_ext
  rw [toList_take, ← toList_length, List.take_length]
theorem extract_head (x : ByteArray) (i n : Nat) (h : i + n ≤ x.size) : (x.extract i x.size).extract 0 n = x.extract i (i + n) := by
  apply bs_ext
  simp only [toList_extract, List.drop_take, List.take_take, List.drop_drop, List.drop_zero, Nat.sub_zero]
  congr 1
  omega
theorem extract_more (x : ByteArray) (i n : Nat) (h : i + n ≤ x.size) : (x.extract i x.size).extract n (x.size - i) = x.extract (i + n) x.size := by
  apply bs_ext
  simp only [toList_extract, List.drop_take, List.take_take, List.drop_drop, List.drop_zero, Nat.sub_zero]
  congr 1
  omega
theorem set10 {B : Nat} {w w1 : World} (h : Below B w w1) {g : Nat} (hg : B ≤ g) (v0 v1 v2 v3 v4 v5 v6 v7 v8 v9 : Value) :
    Below B w ((((((((((w1.setCell ⟨g, 0, none⟩ v0).setCell ⟨g, 1, none⟩ v1).setCell ⟨g, 2, none⟩ v2).setCell ⟨g, 3, none⟩ v3).setCell ⟨g, 4, none⟩ v4).setCell ⟨g, 5, none⟩ v5).setCell ⟨g, 6, none⟩ v6).setCell ⟨g, 7, none⟩ v7).setCell ⟨g, 8, none⟩ v8).setCell ⟨g, 9, none⟩ v9) :=
  (((((((((h.setCell hg _).setCell hg _).setCell hg _).setCell hg _).setCell hg _).setCell hg _).setCell hg _).setCell hg _).setCell hg _).setCell hg _

set_option maxRecDepth 100000 in
set_option maxHeartbeats 1600000 in
theorem add_any (s : St) (b : ByteArray) (w : World) (hok : s.heads.ok) (htab0 : ∀ i, i < 64 → w.cell? ⟨0, i, none⟩ = some (.int .u32 (shaK.getD i 0))) :
    Calls Tryd.prog 34 #[stV s, .string b] w fun e w' => e = .returned (if addOk s b then .tuple #[stV (addF s b), .int .i64 0] else .tuple #[stV noSt, .int .i64 3]) ∧ Below w.heap.size w w' := by
  have HTB : Hid (0 < w.heap.size) := Lib.hid (by have := World.block_lt_of_cell? w _ (htab0 0 (by omega)); exact this)
  have htab := Lib.hid htab0
  clear htab0
  have HG := good_any s
  simp only [stV] at HG
  by_cases hg : goodB s = true
  · by_cases hl : (b.size : Int) ≤ 576460752303423488
    · by_cases hm : s.many + b.size < 1152921504606846976
      · have ha : addOk s b = true := by simp [addOk, hg, hl, hm]
        have hv : (if addOk s b then Value.tuple #[stV (addF s b), .int .i64 0] else .tuple #[stV noSt, .int .i64 3]) = .tuple #[stV (addF s b), .int .i64 0] := by rw [ha]; rfl
        rw [hv]
        rw [hg] at HG
        clear ha hv
        have hmany : 0 ≤ s.many := by simp [goodB] at hg; exact hg.1
        have hrest : s.rest.size < 64 := by simp [goodB] at hg; omega
        clear hg
        show Calls _ _ #[.agg #[.int .u32 s.heads.a, .int .u32 s.heads.b, .int .u32 s.heads.c, .int .u32 s.heads.d, .int .u32 s.heads.e, .int .u32 s.heads.f, .int .u32 s.heads.g, .int .u32 s.heads.h, .string s.rest, .int .i64 s.many], .string b] w _
        go_enter Tryd.func34, Tryd.ntmps34
        go_wp2_with fail
        refine (HG _).mono ?_
        rintro e w1 ⟨rfl, hb1⟩
        have hA1 := (addW_start w s noSt).below' hb1
        have z0 := row_free hA1.h1 0
        have z1 := row_free hA1.h1 1
        have z2 := row_free hA1.h1 2
        have z3 := row_free hA1.h1 3
        have z4 := row_free hA1.h1 4
        have z5 := row_free hA1.h1 5
        have z6 := row_free hA1.h1 6
        have z7 := row_free hA1.h1 7
        have z8 := row_free hA1.h1 8
        have z9 := row_free hA1.h1 9
        obtain ⟨d0, d1, d2, d3, d4, d5, d6, d7, d8, d9⟩ := block10 hA1.h1
        have HBel := Lib.hid hA1.bel
        obtain ⟨a0, a1, a2, a3, a4, a5, a6, a7, a8, a9⟩ := block10 hA1.h0
        have y9 := row_free hA1.h0 9
        have hA2 := hA1.many (s.many + b.size)
        clear hb1 hA1
        go_wp2_with fail
        have hx0 : (s.rest ++ b).size = s.rest.size + b.size := ByteArray.size_append
        have HX : Hid (addF s b = ⟨blkN s.heads (s.rest ++ b) ((s.rest ++ b).size / 64), (s.rest ++ b).extract (64 * ((s.rest ++ b).size / 64)) (s.rest ++ b).size, s.many + b.size⟩) := Lib.hid rfl
        generalize s.rest ++ b = x at *
        clear z0 z1 z2 z3 z4 z5 z6 z7 z8 z9 d0 d1 d2 d3 d4 d5 d6 d7 d8 d9 a0 a1 a2 a3 a4 a5 a6 a7 a8 a9 y9
        go_loopw [1] (fun v wr => ∃ n : Nat, v = .string (x.extract (64 * n) x.size) ∧ 64 * n ≤ x.size ∧ AddW w wr ⟨blkN s.heads x n, s.rest, s.many + b.size⟩ noSt) (fun v _ => strLen v)
        case atStart => exact ⟨0, by rw [Nat.mul_zero, ← extract_all], by omega, hA2⟩
        case round =>
          clear hA2
          obtain ⟨n, rfl, hn, hA⟩ := hrel
          obtain ⟨c, hc⟩ : ∃ c, c = x.extract (64 * n) x.size := ⟨_, rfl⟩
          have hcs : c.size = x.size - 64 * n := by rw [hc, extract_size' _ _ hn]
          rw [← hc]
          by_cases h64 : 64 ≤ c.size
          · have hok2 := blkN_ok s.heads x hok n
            have hnx : blkN s.heads x (n + 1) = blockF (blkN s.heads x n) (c.extract 0 64) := by rw [hc, extract_head _ _ _ (by omega)]; rfl
            have hmo : c.extract 64 c.size = x.extract (64 * (n + 1)) x.size := by rw [hcs, hc, extract_more _ _ _ (by omega)]; rfl
            have HNX := Lib.hid hnx
            have HMO := Lib.hid hmo
            have hsz : (c.extract 0 64).size = 64 := by simp [ByteArray.size_extract]; omega
            have hcl : (c.size : Int) < 9223372036854775808 := by omega
            have HCS := Lib.hid (show c.size = x.size - 64 * n ∧ 64 * n + 64 ≤ x.size by omega)
            have HSZ := Lib.hid hsz
            have HOK := Lib.hid hok2
            have HNUM := Lib.hid (show s.rest.size < 64 ∧ (b.size : Int) ≤ 576460752303423488 ∧ x.size = s.rest.size + b.size from ⟨hrest, hl, hx0⟩)
            have HHO := Lib.hid hok
            clear hnx hmo hc hcs hsz hok2 hrest hl hx0 hm hmany hok hn
            generalize blkN s.heads x n = hh at *
            obtain ⟨a0, a1, a2, a3, a4, a5, a6, a7, a8, a9⟩ := block10 hA.h0
            dsimp only at a0 a1 a2 a3 a4 a5 a6 a7
            have hcb : decide ((64 : Int) ≤ (c.size : Int)) = true := by simp; omega
            have HCL := Lib.hid (show 64 ≤ c.size ∧ (c.size : Int) < 9223372036854775808 from ⟨h64, hcl⟩)
            have h64i : (64 : Int) ≤ (c.size : Int) := by omega
            clear a8 a9 hcl h64
            go_wp2_with fail
            refine Lone.wp_region_order [(0, false), (1, false), (2, false), (3, false), (4, true), (5, false), (6, true)] (fun w' => w'.cell? ⟨w.heap.size, 0, none⟩ = some (.int .u32 hh.a) ∧ w'.cell? ⟨w.heap.size, 1, none⟩ = some (.int .u32 hh.b) ∧ w'.cell? ⟨w.heap.size, 2, none⟩ = some (.int .u32 hh.c) ∧ w'.cell? ⟨w.heap.size, 3, none⟩ = some (.int .u32 hh.d) ∧ w'.cell? ⟨w.heap.size, 4, none⟩ = some (.int .u32 hh.e) ∧ w'.cell? ⟨w.heap.size, 5, none⟩ = some (.int .u32 hh.f) ∧ w'.cell? ⟨w.heap.size, 6, none⟩ = some (.int .u32 hh.g) ∧ w'.cell? ⟨w.heap.size, 7, none⟩ = some (.int .u32 hh.h)) (by kernel_rfl) (by kernel_rfl) rfl (by kernel_rfl) (by intro _ _ d _ _ h; cases d <;> exact h) (⟨a0, a1, a2, a3, a4, a5, a6, a7⟩) ?_; simp only [List.map_cons, List.map_nil, List.getElem?_toArray, List.getElem?_cons_zero, List.getElem?_cons_succ, Option.getD_some]
            repeat (first | (refine Lone.ro_q (by rfl) (v := ?_) ?_ ?_; rotate_left; (focus (intro w' hSw; (try dsimp only at hSw); go_simp; try with_reducible rfl)); simp only [Act.put, List.setIfInBounds_toArray, List.set_cons_zero, List.set_cons_succ]) | (refine Lone.ro_skip (by rfl) ?_; simp only [Act.put, List.setIfInBounds_toArray, List.set_cons_zero, List.set_cons_succ]))
            (refine Lone.ro_loud (by rfl) (fun K hK => ?_); go_simp)
            refine (block_any hh (c.extract 0 64) _ HSZ.out HOK.out (fun i hi => by rw [hA.drew.bel.cell (p := ⟨0, i, none⟩) HTB.out]; exact htab.out i hi)).mono ?_
            rintro e w5 ⟨rfl, hb5⟩
            have hA5 := hA.drew.below' hb5
            obtain ⟨e0, e1, e2, e3, e4, e5, e6, e7, e8, e9⟩ := block10 hA5.h0
            dsimp only at e0 e1 e2 e3 e4 e5 e6 e7
            clear e8 e9
            have y0 := row_free hA5.h0 0
            have y1 := row_free hA5.h0 1
            have y2 := row_free hA5.h0 2
            have y3 := row_free hA5.h0 3
            have y4 := row_free hA5.h0 4
            have y5 := row_free hA5.h0 5
            have y6 := row_free hA5.h0 6
            have y7 := row_free hA5.h0 7
            simp only [hdV]
            (refine hK.out _ _ (fun w' => w'.cell? ⟨w.heap.size, 0, none⟩ = some (.int .u32 hh.a) ∧ w'.cell? ⟨w.heap.size, 1, none⟩ = some (.int .u32 hh.b) ∧ w'.cell? ⟨w.heap.size, 2, none⟩ = some (.int .u32 hh.c) ∧ w'.cell? ⟨w.heap.size, 3, none⟩ = some (.int .u32 hh.d) ∧ w'.cell? ⟨w.heap.size, 4, none⟩ = some (.int .u32 hh.e) ∧ w'.cell? ⟨w.heap.size, 5, none⟩ = some (.int .u32 hh.f) ∧ w'.cell? ⟨w.heap.size, 6, none⟩ = some (.int .u32 hh.g) ∧ w'.cell? ⟨w.heap.size, 7, none⟩ = some (.int .u32 hh.h)) (.inl fun _ h => h) (⟨e0, e1, e2, e3, e4, e5, e6, e7⟩) ?_; clear hK K; try simp only [Act.put, List.setIfInBounds_toArray, List.set_cons_zero, List.set_cons_succ])
            repeat (first | (refine Lone.ro_q (by rfl) (v := ?_) ?_ ?_; rotate_left; (focus (intro w' hSw; (try dsimp only at hSw); go_simp; try with_reducible rfl)); simp only [Act.put, List.setIfInBounds_toArray, List.set_cons_zero, List.set_cons_succ]) | (refine Lone.ro_skip (by rfl) ?_; simp only [Act.put, List.setIfInBounds_toArray, List.set_cons_zero, List.set_cons_succ]))
            (refine Lone.ro_loud (by rfl) (fun K hK => ?_); go_simp)
            (refine hK.out _ _ (fun _ => True) (.inr (by kernel_rfl)) (trivial) ?_; clear hK K; try simp only [Act.put, List.setIfInBounds_toArray, List.set_cons_zero, List.set_cons_succ])
            (refine Lone.ro_nil ?_; go_wp2_with fail)
            go_roundw
            case rel =>
              refine ⟨n + 1, by rw [HMO.out], by have := HCS.out; omega, ?_⟩
              rw [HNX.out]
              exact hA5.heads (blockF hh (c.extract 0 64))
            case measure =>
              have := HCL.out
              simp only [strLen, ByteArray.size_extract]
              omega
          · have hlt : ¬ (64 : Int) ≤ (c.size : Int) := by omega
            have hcb : decide ((64 : Int) ≤ (c.size : Int)) = false := by simp; omega
            have hnn : n = x.size / 64 := by omega
            have HNN := Lib.hid hnn
            have HCC := Lib.hid hc
            clear hc hcs hnn h64 hrest hl hx0 hm hmany hok hn
            obtain ⟨_, _, _, _, _, _, _, _, _, _⟩ := block10 hA.h0
            have y8 := row_free hA.h0 8
            have c8 : wr.cell? ⟨w.heap.size, 8, none⟩ = some (.string s.rest) := (block10 hA.h0).2.2.2.2.2.2.2.2.1
            obtain ⟨a0, a1, a2, a3, a4, a5, a6, a7, a8, a9⟩ := block10 (hA.rest c).h0
            have hA6 := hA.rest c
            have z0 := row_free hA6.h1 0
            have z1 := row_free hA6.h1 1
            have z2 := row_free hA6.h1 2
            have z3 := row_free hA6.h1 3
            have z4 := row_free hA6.h1 4
            have z5 := row_free hA6.h1 5
            have z6 := row_free hA6.h1 6
            have z7 := row_free hA6.h1 7
            have z8 := row_free hA6.h1 8
            have z9 := row_free hA6.h1 9
            obtain ⟨d0, d1, d2, d3, d4, d5, d6, d7, d8, d9⟩ := block10 hA6.h1
            go_wp2_with fail
            have hfin : addF s b = ⟨blkN s.heads x n, c, s.many + b.size⟩ := by rw [HX.out, HCC.out, HNN.out]
            rw [hfin]
            refine bodyPost_ret (v := .tuple #[stV ⟨blkN s.heads x n, c, s.many + b.size⟩, .int .i64 0]) ?_ rfl ⟨rfl, ?_⟩
            · simp [results, Tryd.f34, go_sem, stV, d0, d1, d2, d3, d4, d5, d6, d7, d8, d9]
            · exact set10 hA6.bel (by omega) _ _ _ _ _ _ _ _ _ _
      · have ha : addOk s b = false := by simp [addOk, hm]
        have hv : (if addOk s b then Value.tuple #[stV (addF s b), .int .i64 0] else .tuple #[stV noSt, .int .i64 3]) = .tuple #[stV noSt, .int .i64 3] := by rw [ha]; rfl
        rw [hv]
        rw [hg] at HG
        have hmany : 0 ≤ s.many ∧ s.many < 1152921504606846976 := by simp [goodB] at hg; exact ⟨hg.1, hg.2.1⟩
        clear ha hg hv
        have hmw : IntKind.i64.wrap (s.many + b.size) = s.many + b.size := IntWalk.i64_in _ (by omega)
        show Calls _ _ #[.agg #[.int .u32 s.heads.a, .int .u32 s.heads.b, .int .u32 s.heads.c, .int .u32 s.heads.d, .int .u32 s.heads.e, .int .u32 s.heads.f, .int .u32 s.heads.g, .int .u32 s.heads.h, .string s.rest, .int .i64 s.many], .string b] w _
        go_enter Tryd.func34, Tryd.ntmps34
        go_wp2_with fail
        refine (HG _).mono ?_
        rintro e w1 ⟨rfl, hb1⟩
        have hA1 := (addW_start w s noSt).below' hb1
        have z0 := row_free hA1.h1 0
        have z1 := row_free hA1.h1 1
        have z2 := row_free hA1.h1 2
        have z3 := row_free hA1.h1 3
        have z4 := row_free hA1.h1 4
        have z5 := row_free hA1.h1 5
        have z6 := row_free hA1.h1 6
        have z7 := row_free hA1.h1 7
        have z8 := row_free hA1.h1 8
        have z9 := row_free hA1.h1 9
        obtain ⟨d0, d1, d2, d3, d4, d5, d6, d7, d8, d9⟩ := block10 hA1.h1
        have HBel := Lib.hid hA1.bel
        have a9 : w1.cell? ⟨w.heap.size, 9, none⟩ = some (.int .i64 s.many) := (block10 hA1.h0).2.2.2.2.2.2.2.2.2
        clear hA1 hb1
        go_wp2_with fail
        refine bodyPost_ret (v := .tuple #[stV noSt, .int .i64 3]) ?_ rfl ⟨rfl, ?_⟩
        · simp [results, Tryd.f34, go_sem, stV, noSt, d0, d1, d2, d3, d4, d5, d6, d7, d8, d9]
        · exact set10 HBel.out (by omega) _ _ _ _ _ _ _ _ _ _
    · have ha : addOk s b = false := by simp [addOk, hl]
      have hv : (if addOk s b then Value.tuple #[stV (addF s b), .int .i64 0] else .tuple #[stV noSt, .int .i64 3]) = .tuple #[stV noSt, .int .i64 3] := by rw [ha]; rfl
      rw [hv]
      rw [hg] at HG
      clear ha hg hv
      show Calls _ _ #[.agg #[.int .u32 s.heads.a, .int .u32 s.heads.b, .int .u32 s.heads.c, .int .u32 s.heads.d, .int .u32 s.heads.e, .int .u32 s.heads.f, .int .u32 s.heads.g, .int .u32 s.heads.h, .string s.rest, .int .i64 s.many], .string b] w _
      go_enter Tryd.func34, Tryd.ntmps34
      go_wp2_with fail
      refine (HG _).mono ?_
      rintro e w1 ⟨rfl, hb1⟩
      have hA1 := (addW_start w s noSt).below' hb1
      have z0 := row_free hA1.h1 0
      have z1 := row_free hA1.h1 1
      have z2 := row_free hA1.h1 2
      have z3 := row_free hA1.h1 3
      have z4 := row_free hA1.h1 4
      have z5 := row_free hA1.h1 5
      have z6 := row_free hA1.h1 6
      have z7 := row_free hA1.h1 7
      have z8 := row_free hA1.h1 8
      have z9 := row_free hA1.h1 9
      obtain ⟨d0, d1, d2, d3, d4, d5, d6, d7, d8, d9⟩ := block10 hA1.h1
      have HBel := Lib.hid hA1.bel
      clear hA1 hb1
      go_wp2_with fail
      refine bodyPost_ret (v := .tuple #[stV noSt, .int .i64 3]) ?_ rfl ⟨rfl, ?_⟩
      · simp [results, Tryd.f34, go_sem, stV, noSt, d0, d1, d2, d3, d4, d5, d6, d7, d8, d9]
      · exact set10 HBel.out (by omega) _ _ _ _ _ _ _ _ _ _
  · have hgf : goodB s = false := by simpa using hg
    have ha : addOk s b = false := by simp [addOk, hgf]
    have hv : (if addOk s b then Value.tuple #[stV (addF s b), .int .i64 0] else .tuple #[stV noSt, .int .i64 3]) = .tuple #[stV noSt, .int .i64 3] := by rw [ha]; rfl
    rw [hv]
    rw [hgf] at HG
    clear ha hg hgf hv
    show Calls _ _ #[.agg #[.int .u32 s.heads.a, .int .u32 s.heads.b, .int .u32 s.heads.c, .int .u32 s.heads.d, .int .u32 s.heads.e, .int .u32 s.heads.f, .int .u32 s.heads.g, .int .u32 s.heads.h, .string s.rest, .int .i64 s.many], .string b] w _
    go_enter Tryd.func34, Tryd.ntmps34
    go_wp2_with fail
    refine (HG _).mono ?_
    rintro e w1 ⟨rfl, hb1⟩
    have hA1 := (addW_start w s noSt).below' hb1
    have z0 := row_free hA1.h1 0
    have z1 := row_free hA1.h1 1
    have z2 := row_free hA1.h1 2
    have z3 := row_free hA1.h1 3
    have z4 := row_free hA1.h1 4
    have z5 := row_free hA1.h1 5
    have z6 := row_free hA1.h1 6
    have z7 := row_free hA1.h1 7
    have z8 := row_free hA1.h1 8
    have z9 := row_free hA1.h1 9
    obtain ⟨d0, d1, d2, d3, d4, d5, d6, d7, d8, d9⟩ := block10 hA1.h1
    have HBel := Lib.hid hA1.bel
    clear hA1 hb1
    go_wp2_with fail
    refine bodyPost_ret (v := .tuple #[stV noSt, .int .i64 3]) ?_ rfl ⟨rfl, ?_⟩
    · simp [results, Tryd.f34, go_sem, stV, noSt, d0, d1, d2, d3, d4, d5, d6, d7, d8, d9]
    · exact set10 HBel.out (by omega) _ _ _ _ _ _ _ _ _ _
end Go.Proofs.YtmacceamebdelaaDoor
/-! Mark -/
namespace Go.Proofs.YtmacceamebdelaaDoor
open Go.RowKit
set_option linter.unusedVariables false
set_option linter.unusedSimpArgs false

/-- A row of single cells that the call made itself; what is frozen lies behind its end. -/
def ownsM (w : World) (base : Nat) (e : TypeId) (v : Value) (xs : List Value) : Prop :=
  ∃ (g cap : Nat) (cur : Array Value) (lo hi : Nat), v = .slice (some ⟨g, 0, none⟩) xs.length cap ∧ base ≤ g ∧ w.heap[g]? = some (.cells cur e (lo, hi)) ∧ (cur.size ≤ lo ∨ hi = 0) ∧ xs.length ≤ cap ∧ cap ≤ maxLen ∧ cur.size = cap ∧ cur.toList.take xs.length = xs

theorem ownsM_block {w w' : World} {base : Nat} {e : TypeId} {v : Value} {xs : List Value} (h : ownsM w base e v xs) (hb : Below w.heap.size w w') : ownsM w' base e v xs := by
  obtain ⟨g, cap, cur, lo, hi, h1, h2, h3, h4⟩ := h
  exact ⟨g, cap, cur, lo, hi, h1, h2, by rw [hb.block _ (Array.getElem?_eq_some_iff.1 h3).1]; exact h3, h4⟩

theorem ownsM_bytes (w : World) (base : Nat) (e : TypeId) (s : ByteArray) (hb : base ≤ w.heap.size) (hm : s.size ≤ maxLen) :
    ownsM (w.drew.alloc (.cells (bytesRow s (grownCap w s.size 0 e)) e ((bytesRow s (grownCap w s.size 0 e)).size, (bytesRow s (grownCap w s.size 0 e)).size + 1))) base e
      (.slice (some ⟨w.heap.size, 0, none⟩) s.size (grownCap w s.size 0 e)) (bvs s.data.toList) := by
  have hl : (bvs s.data.toList).length = s.size := by simp [bvs, toList_length]
  have hge := grownCap_ge w s.size 0 e
  refine ⟨w.heap.size, grownCap w s.size 0 e, _, _, _, by rw [hl], hb, heap_alloc_new w.drew _, .inl (Nat.le_refl _), by omega, grownCap_le_maxLen w s.size 0 e hm, ?_, ?_⟩
  · simp only [bytesRow, Array.size_append, Array.size_map, Array.size_replicate]
    have : s.data.size = s.size := rfl
    omega
  · simp only [bytesRow, Array.toList_append]
    rw [List.take_append_of_le_length (by simp [hl]), List.take_of_length_le (by simp [hl])]
    simp [bvs]

theorem run_append1_room {P : Program} (w : World) (t ty e : TypeId) (i : TypeInfo) (ht : P.underlying t = some (.slice e)) (hi : P.info? e = some i) (hs : i.size = 1)
    (g n cap : Nat) (cur : Array Value) (lo hf : Nat) (hg : w.heap[g]? = some (.cells cur e (lo, hf))) (hlo : cur.size ≤ lo ∨ hf = 0)
    (ad : Addr) (c : Nat) (u : Value) (hu : w.cell? (ad.add 0) = some u) (h1 : u.oneCell' = true) (hroom : n + 1 ≤ cap) (hfit : n < cur.size) :
    (Builtin.append_ #[t, t] ty #[.slice (some ⟨g, 0, none⟩) n cap, .slice (some ad) 1 c]).run P w = .ok (.slice (some ⟨g, 0, none⟩) (n + 1) cap) (w.setCell ⟨g, n, none⟩ u) := by
  have hfc := run_firstCells_some (P := P) w i.size 1 ad 1 c [u] (by simp [hs]) (by
    intro j x hj
    rcases j with _ | j
    · simp at hj; subst hj; exact hu
    · simp at hj)
  have hcell : w.cell? ⟨g, n, none⟩ = some cur[n] := by simp [World.cell?, hg, hfit]
  have hfro : w.frozen? ⟨g, n, none⟩ = false := by
    simp only [World.frozen?, hg]
    rcases hlo with h | h
    · simp; omega
    · simp; omega
  have hadd : (⟨g, n, none⟩ : Addr).add 0 = ⟨g, n, none⟩ := by unfold Addr.add; split <;> simp_all
  have hst : (storeCells ⟨g, n, none⟩ [u] 0).run P w = .ok () (w.setCell ⟨g, n, none⟩ u) := by
    simp only [storeCells, Sem.run_bind, hadd]
    rw [run_store P w _ u _ h1, hcell]
    simp [hfro]
  rw [hs] at hfc
  simp [Builtin.append_, run_underlying ht, sizeOf, typeInfo, hi, hs, Builtin.lenOf, hroom, hfc, Addr.add_lit, hst]

/-- 'append(s, x)', x one cell that lies in a new block, s a row that may bear a mark. -/
theorem wpList_append1M {P : Program} {w w0 : World} {B : Nat} {ops : Array Oper} {rest : List Oper} {o : Oper} {a : Act} {Q : Exit → Act → World → Prop} (hgd : o.guard = none) (s x : Operand) (t : TypeId)
    (ho : o.op = .call { callee := .builtin .append, args := #[s, x], argTypes := #[t, t] })
    {base : Nat} {e : TypeId} {z : Value} (hinf : infoIs P e z 1 1) (ht : P.underlying t = some (.slice e)) (hzs : z.cells.size = 1)
    {v : Value} {xs : List Value} (hown : ownsM w base e v xs) (hbel : Below B w0 w) (hB : B ≤ base) (hb : base ≤ w.heap.size)
    {u : Value} (h1 : u.oneCell' = true) (hbytes : xs.length + 1 ≤ 140737488355328)
    (hs : a.eval s = v) (hx : a.eval x = .slice (some ⟨w.heap.size, 0, none⟩) 1 1)
    (h : ∀ v' w', ownsM w' base e v' (xs ++ [u]) → Below B w0 w' → wpList P ops Q rest (a.put o.dst v') w') : wpList P ops Q (o :: rest) a (w.alloc (.cells #[u] e)) := by
  obtain ⟨i, hi, hz, hsize, hbt⟩ := info_parts hinf
  obtain ⟨g, cap, cur, lo, hf, rfl, hbg, hg, hlo, hnc, hcm, hcs, htake⟩ := hown
  have hgl := (Array.getElem?_eq_some_iff.1 hg).1
  have hcell : ∀ j v, [u][j]? = some v → (w.alloc (.cells #[u] e)).cell? ((⟨w.heap.size, 0, none⟩ : Addr).add j) = some v := by
    intro j v hj
    rw [addr_add, Nat.zero_add]
    exact cell_block j v (by simpa using hj)
  have hg' : (w.alloc (.cells #[u] e)).heap[g]? = some (.cells cur e (lo, hf)) := by rw [Below.heap_alloc _ _ _ hgl]; exact hg
  have hbA : Below B w0 (w.alloc (.cells #[u] e)) := hbel.alloc (by omega) _
  refine wpList_plain hgd fun K hK => ?_
  by_cases hroom : xs.length + 1 ≤ cap
  · have hr := run_append1_room (P := P) (w.alloc (.cells #[u] e)) t o.type e i ht hi hsize g xs.length cap cur lo hf hg' hlo ⟨w.heap.size, 0, none⟩ 1 u (hcell 0 u rfl) h1 hroom (by omega)
    unfold Oper.wp execOp
    simp only [ho, resolve, invoke, builtin, Sem.run_bind, Sem.run_pure, Result.andThen_ok, List.map_toArray, List.map_cons, List.map_nil, hs, hx, hr]
    refine hK _ _ (h _ _ ⟨g, cap, cur.setIfInBounds xs.length u, lo, hf, by simp, hbg, ?_, by simpa using hlo, by simpa using hroom, hcm, by simpa using hcs, ?_⟩ (hbA.setCell (by simp; omega) _))
    · rw [setCell_eq_setRow _ g xs.length cur e (lo, hf) u hg', setRow_heap _ g cur _ e (lo, hf) hg']
    · have hx : xs.length < cur.toList.length := by simp; omega
      rw [List.length_append, Array.toList_setIfInBounds]
      simp only [List.length_cons, List.length_nil, Nat.zero_add]
      rw [List.take_add_one, List.take_set_of_le (Nat.le_refl _), htake, List.getElem?_set_self hx]
      rfl
  · have hold : ∀ j v, xs[j]? = some v → (w.alloc (.cells #[u] e)).cell? ((⟨g, 0, none⟩ : Addr).add j) = some v := by
      intro j v hj
      rw [addr_add, Nat.zero_add, cell_of_row _ g j cur e (lo, hf) hg']
      rw [← htake, List.getElem?_take] at hj
      split at hj
      · simpa using hj
      · cases hj
    have hr := run_append_grow (P := P) (w.alloc (.cells #[u] e)) t o.type e i z ht hi hz ⟨g, 0, none⟩ xs.length cap xs (by simp [hsize]) hold ⟨w.heap.size, 0, none⟩ 1 1 [u] (by simp [hsize]) hcell (by omega) (by omega) (growslice_fits (by omega) (by rw [hbt]; omega))
    unfold Oper.wp execOp
    simp only [ho, resolve, invoke, builtin, Sem.run_bind, Sem.run_pure, Result.andThen_ok, List.map_toArray, List.map_cons, List.map_nil, hs, hx, hr]
    have hge := grownCap_ge (w.alloc (.cells #[u] e)) (xs.length + 1) cap e
    refine hK _ _ (h _ _ ⟨(w.alloc (.cells #[u] e)).heap.size, grownCap (w.alloc (.cells #[u] e)) (xs.length + 1) cap e, _, 0, 0, by rw [List.length_append]; rfl, ?_, heap_alloc_new _ _, .inr rfl, by simpa using hge, grownCap_le_maxLen _ _ _ _ (by unfold maxLen; omega), ?_, ?_⟩ (hbA.drew.alloc (by simp; omega) _))
    · simp; omega
    · simp [size_zeroCells, hzs]; omega
    · simp only [Array.toList_append]
      exact List.take_left

/-- 'append(s, x ..)', the m cells of x in a new block. -/
theorem wpList_appendN {P : Program} {w w0 : World} {B : Nat} {ops : Array Oper} {rest : List Oper} {o : Oper} {a : Act} {Q : Exit → Act → World → Prop} (hgd : o.guard = none) (s x : Operand) (t : TypeId)
    (ho : o.op = .call { callee := .builtin .append, args := #[s, x], argTypes := #[t, t] })
    {base : Nat} {e : TypeId} {z : Value} (hinf : infoIs P e z 1 1) (ht : P.underlying t = some (.slice e)) (hzs : z.cells.size = 1)
    {v : Value} {n : Nat} {xs : List Value} (hown : w.ownsRow base e 1 v n xs) (hbel : Below B w0 w) (hB : B ≤ base) (hb : base ≤ w.heap.size)
    (m : Nat) {cs : Array Value} (hcs : cs.size = m) (h1 : ∀ u ∈ cs.toList, u.oneCell' = true) (hbytes : n + m ≤ 140737488355328)
    (hs : a.eval s = v) (hx : a.eval x = .slice (some ⟨w.heap.size, 0, none⟩) m m)
    (h : ∀ v' w', w'.ownsRow base e 1 v' (n + m) (xs ++ cs.toList) → Below B w0 w' → wpList P ops Q rest (a.put o.dst v') w') : wpList P ops Q (o :: rest) a (w.alloc (.cells cs e)) := by
  obtain ⟨i, hi, hz, hsize, hbt⟩ := info_parts hinf
  refine wpList_append_own _ hgd s x t ho base e i z 1 1 ht hi hz hsize hbt hzs (by decide) v n xs hs (hown.alloc _) ⟨w.heap.size, 0, none⟩ m m cs.toList hx (by simp [hcs]) ?_ h1 (by unfold maxLen; omega) (by simpa using hbytes) (by simp; omega) ?_
  · intro j u hu
    rw [addr_add, Nat.zero_add]
    exact cell_block j u (by simpa using hu)
  · intro v' w' hown' hgrow _
    refine h v' w' hown' ?_
    refine (hbel.alloc (by omega) _).grown hgrow (by simp; omega) ?_
    intro k hk
    have := (hown.lt k hk).1; omega
/-- 'append(s, x ..)', the same; which block may have turned is told. -/
theorem wpList_appendNg {P : Program} {w w0 : World} {B : Nat} {ops : Array Oper} {rest : List Oper} {o : Oper} {a : Act} {Q : Exit → Act → World → Prop} (hgd : o.guard = none) (s x : Operand) (t : TypeId)
    (ho : o.op = .call { callee := .builtin .append, args := #[s, x], argTypes := #[t, t] })
    {base : Nat} {e : TypeId} {z : Value} (hinf : infoIs P e z 1 1) (ht : P.underlying t = some (.slice e)) (hzs : z.cells.size = 1)
    {v : Value} {n : Nat} {xs : List Value} (hown : w.ownsRow base e 1 v n xs) (hbel : Below B w0 w) (hB : B ≤ base) (hb : base ≤ w.heap.size)
    (m : Nat) {cs : Array Value} (hcs : cs.size = m) (h1 : ∀ u ∈ cs.toList, u.oneCell' = true) (hbytes : n + m ≤ 140737488355328)
    (hs : a.eval s = v) (hx : a.eval x = .slice (some ⟨w.heap.size, 0, none⟩) m m)
    (h : ∀ v' w', w'.ownsRow base e 1 v' (n + m) (xs ++ cs.toList) → (∀ k, k < w.heap.size → some k ≠ v.ownBlock → w'.heap[k]? = w.heap[k]?) → Below B w0 w' → wpList P ops Q rest (a.put o.dst v') w') : wpList P ops Q (o :: rest) a (w.alloc (.cells cs e)) := by
  obtain ⟨i, hi, hz, hsize, hbt⟩ := info_parts hinf
  refine wpList_append_own _ hgd s x t ho base e i z 1 1 ht hi hz hsize hbt hzs (by decide) v n xs hs (hown.alloc _) ⟨w.heap.size, 0, none⟩ m m cs.toList hx (by simp [hcs]) ?_ h1 (by unfold maxLen; omega) (by simpa using hbytes) (by simp; omega) ?_
  · intro j u hu
    rw [addr_add, Nat.zero_add]
    exact cell_block j u (by simpa using hu)
  · intro v' w' hown' hgrow _
    refine h v' w' hown' (fun k hk hne => by rw [hgrow.block k (by simp; omega) hne, Below.heap_alloc _ _ _ hk]) ?_
    refine (hbel.alloc (by omega) _).grown hgrow (by simp; omega) ?_
    intro k hk
    have := (hown.lt k hk).1; omega
/-- 'append(s, x ..)', the same; which block may have turned is told. -/
theorem wp_appendNg {P : Program} {w w0 : World} {B : Nat} {o : Oper} {a : Act} {K : Act → World → Prop} {Q : Exit → Act → World → Prop} (s x : Operand) (t : TypeId)
    (ho : o.op = .call { callee := .builtin .append, args := #[s, x], argTypes := #[t, t] })
    {base : Nat} {e : TypeId} {z : Value} (hinf : infoIs P e z 1 1) (ht : P.underlying t = some (.slice e)) (hzs : z.cells.size = 1)
    {v : Value} {n : Nat} {xs : List Value} (hown : w.ownsRow base e 1 v n xs) (hbel : Below B w0 w) (hB : B ≤ base) (hb : base ≤ w.heap.size)
    (m : Nat) {cs : Array Value} (hcs : cs.size = m) (h1 : ∀ u ∈ cs.toList, u.oneCell' = true) (hbytes : n + m ≤ 140737488355328)
    (hs : a.eval s = v) (hx : a.eval x = .slice (some ⟨w.heap.size, 0, none⟩) m m)
    (h : ∀ v' w', w'.ownsRow base e 1 v' (n + m) (xs ++ cs.toList) → (∀ k, k < w.heap.size → some k ≠ v.ownBlock → w'.heap[k]? = w.heap[k]?) → Below B w0 w' → K (a.put o.dst v') w') : o.wp P a (w.alloc (.cells cs e)) K Q := by
  obtain ⟨i, hi, hz, hsize, hbt⟩ := info_parts hinf
  refine wp_append_own _ s x t ho base e i z 1 1 ht hi hz hsize hbt hzs (by decide) v n xs hs (hown.alloc _) ⟨w.heap.size, 0, none⟩ m m cs.toList hx (by simp [hcs]) ?_ h1 (by unfold maxLen; omega) (by simpa using hbytes) (by simp; omega) ?_
  · intro j u hu
    rw [addr_add, Nat.zero_add]
    exact cell_block j u (by simpa using hu)
  · intro v' w' hown' hgrow _
    refine h v' w' hown' (fun k hk hne => by rw [hgrow.block k (by simp; omega) hne, Below.heap_alloc _ _ _ hk]) ?_
    refine (hbel.alloc (by omega) _).grown hgrow (by simp; omega) ?_
    intro k hk
    have := (hown.lt k hk).1; omega
/-- 'append(s, x ..)' within the capacity: the value is known. -/
theorem wp_appendNf {P : Program} {w w0 : World} {B : Nat} {o : Oper} {a : Act} {K : Act → World → Prop} {Q : Exit → Act → World → Prop} (s x : Operand) (t : TypeId)
    (ho : o.op = .call { callee := .builtin .append, args := #[s, x], argTypes := #[t, t] })
    {base : Nat} {e : TypeId} {z : Value} (hinf : infoIs P e z 1 1) (ht : P.underlying t = some (.slice e))
    {g n cap : Nat} {xs : List Value} (hown : w.ownsRow base e 1 (.slice (some ⟨g, 0, none⟩) n cap) n xs) (hbel : Below B w0 w) (hB : B ≤ base) (hb : base ≤ w.heap.size)
    (m : Nat) {cs : Array Value} (hcs : cs.size = m) (h1 : ∀ u ∈ cs.toList, u.oneCell' = true) (hroom : n + m ≤ cap)
    (hs : a.eval s = .slice (some ⟨g, 0, none⟩) n cap) (hx : a.eval x = .slice (some ⟨w.heap.size, 0, none⟩) m m)
    (h : ∀ w', w'.ownsRow base e 1 (.slice (some ⟨g, 0, none⟩) (n + m) cap) (n + m) (xs ++ cs.toList) → (∀ k, k < w.heap.size → k ≠ g → w'.heap[k]? = w.heap[k]?) → Below B w0 w' → K (a.put o.dst (.slice (some ⟨g, 0, none⟩) (n + m) cap)) w') : o.wp P a (w.alloc (.cells cs e)) K Q := by
  obtain ⟨i, hi, hz, hsize, hbt⟩ := info_parts hinf
  obtain ⟨w', hrun, hown', hgrow⟩ := run_append_fits (P := P) (w.alloc (.cells cs e)) base t o.type e i 1 ht hi hsize g n cap xs (hown.alloc _) ⟨w.heap.size, 0, none⟩ m m cs.toList (by simp [hcs]) (fun j u hu => by rw [addr_add, Nat.zero_add]; exact cell_block j u (by simpa using hu)) h1 hroom
  have hgb : base ≤ g := by
    rcases hown.2 with ⟨hh, _⟩ | ⟨g', cap', cur, hv, hbg, _⟩
    · cases hh
    · simp only [Value.slice.injEq, Option.some.injEq, Addr.mk.injEq, and_true, true_and] at hv
      omega
  unfold Oper.wp execOp
  simp only [ho, resolve, invoke, builtin, Sem.run_bind, Sem.run_pure, Result.andThen_ok, List.map_toArray, List.map_cons, List.map_nil, hs, hx, hrun]
  refine h w' hown' (fun k hk hne => by rw [hgrow.block k (by simp; omega) (by simpa using hne), Below.heap_alloc _ _ _ hk]) ?_
  refine (hbel.alloc (by omega) _).grown hgrow (by simp; omega) ?_
  intro k hk
  obtain rfl := Option.some.inj hk
  omega
theorem own_far {w : World} {base : Nat} {e : TypeId} {size : Nat} {v : Value} {n : Nat} {xs : List Value} (h : w.ownsRow base e size v n xs) {g : Nat} {cs : Array Value} {e' : TypeId} {lo q : Nat} (hg : w.heap[g]? = some (.cells cs e' (lo, q + 1))) : some g ≠ v.ownBlock := by
  rcases h.2 with ⟨rfl, _⟩ | ⟨g', cap, cur, rfl, _, hgg, _⟩
  · simp [Value.ownBlock]
  · intro he
    simp [Value.ownBlock] at he
    subst he
    rw [hg] at hgg
    simp at hgg
end Go.Proofs.YtmacceamebdelaaDoor
/-! SumEnd -/
namespace Go.Proofs.YtmacceamebdelaaDoor
open Go.RowKit
set_option linter.unusedVariables false
set_option linter.unusedSimpArgs false

/-- How many noughts make 56 of 64. -/
def padN (n : Nat) : Nat := (119 - n) % 64
def sliceLen : Value → Nat
  | .slice _ n _ => n
  | _ => 0
theorem info_u8 : infoIs Tryd.prog 5 (.int .u8 0) 1 1 := by unfold infoIs; kernel_rfl
theorem ownsM_len {w : World} {base : Nat} {e : TypeId} {v : Value} {xs : List Value} (h : ownsM w base e v xs) : sliceLen v = xs.length := by
  obtain ⟨_, _, _, _, _, rfl, _⟩ := h; rfl
theorem ownsM_form {w : World} {base : Nat} {e : TypeId} {v : Value} {xs : List Value} (h : ownsM w base e v xs) : ∃ g cap, v = .slice (some ⟨g, 0, none⟩) xs.length cap := by
  obtain ⟨g, cap, _, _, _, rfl, _⟩ := h; exact ⟨g, cap, rfl⟩

/-- The length in bits, eight bytes, the high one first. -/
def lenB (x : Nat) (m : Nat) : List UInt8 := (List.range m).map fun t => UInt8.ofNat (x / 2 ^ (56 - 8 * t))
theorem lenB_succ (x m : Nat) : lenB x (m + 1) = lenB x m ++ [UInt8.ofNat (x / 2 ^ (56 - 8 * m))] := by simp [lenB, List.range_succ]
theorem lenB_val (y : Int) (k j : Nat) (hy : 0 ≤ y) (hk : k = j) (hj : j ≤ 64) : 8 * y / 2 ^ min k 64 % 256 = ((UInt8.ofNat (8 * y.toNat / 2 ^ j)).toNat : Int) := by
  subst hk
  obtain ⟨n, rfl⟩ := Int.eq_ofNat_of_zero_le hy
  rw [Nat.min_eq_left hj]
  rw [Int.toNat_natCast, UInt8.toNat_ofNat']
  rw [Int.natCast_emod, Int.natCast_ediv, Int.natCast_mul, Int.natCast_pow]
  rfl
def pads (b : ByteArray) : List UInt8 := b.data.toList ++ [128] ++ List.replicate (padN b.size) 0
def intOr : Value → Int
  | .int _ q => q
  | _ => 0

def idx (x : Hd) : Nat → Int
  | 0 => x.a | 1 => x.b | 2 => x.c | 3 => x.d | 4 => x.e | 5 => x.f | 6 => x.g | _ => x.h
def four (y : Int) : List UInt8 := [UInt8.ofNat (y.toNat / 2 ^ 24), UInt8.ofNat (y.toNat / 2 ^ 16), UInt8.ofNat (y.toNat / 2 ^ 8), UInt8.ofNat y.toNat]
/-- The heads as bytes, up to one. -/
def outB (x : Hd) : Nat → List UInt8
  | 0 => []
  | k + 1 => outB x k ++ four (idx x k)
theorem outB_length (x : Hd) : ∀ k, (outB x k).length = 4 * k
  | 0 => rfl
  | k + 1 => by rw [outB, List.length_append, outB_length x k]; rfl
theorem idx_ok {x : Hd} (h : x.ok) (k : Nat) : isU (idx x k) := by
  obtain ⟨ha, hb, hc, hd, he, hf, hg, hh⟩ := h
  rcases k with _ | _ | _ | _ | _ | _ | _ | _ | k <;> assumption
theorem byte_of (y : Int) (m : Nat) (hy : 0 ≤ y) : ((UInt8.ofNat (y.toNat / m)).toNat : Int) = y / m % 256 := by
  obtain ⟨n, rfl⟩ := Int.eq_ofNat_of_zero_le hy
  rw [Int.toNat_natCast, UInt8.toNat_ofNat', Int.natCast_emod, Int.natCast_ediv]
  rfl
theorem four_vals (y : Int) (hy : 0 ≤ y) : bvs (four y) = [.int .u8 (y / 16777216 % 256), .int .u8 (y / 65536 % 256), .int .u8 (y / 256 % 256), .int .u8 (y % 256)] := by
  have h1 := byte_of y (2 ^ 24) hy
  have h2 := byte_of y (2 ^ 16) hy
  have h3 := byte_of y (2 ^ 8) hy
  have h4 := byte_of y 1 hy
  rw [Nat.div_one] at h4
  simp only [four, bvs, List.map_cons, List.map_nil, h1, h2, h3, h4]
  congr 4
  simp
/-- What End sums up last. -/
def padded (s : St) : List UInt8 := pads s.rest ++ lenB (8 * s.many.toNat) 8
def endF (s : St) : ByteArray := ⟨(outB (blkN s.heads ⟨(padded s).toArray⟩ ((padded s).length / 64)) 8).toArray⟩
theorem idx_get (x : Hd) (k : Nat) (h : k < 8) : (#[.int .u32 x.a, .int .u32 x.b, .int .u32 x.c, .int .u32 x.d, .int .u32 x.e, .int .u32 x.f, .int .u32 x.g, .int .u32 x.h] : Array Value)[k]? = some (.int .u32 (idx x k)) := by
  rcases k with _ | _ | _ | _ | _ | _ | _ | _ | k <;> first | rfl | omega
theorem under8 : Tryd.prog.underlying 81 = some (.array 8 80) := by kernel_rfl
theorem run_idx8 (w : World) (cs : Array Value) (k : Nat) (y : Value) (hk : k < 8) (h : cs[k]? = some y) : (Instr.index 81 (.agg cs) (.int .i64 k)).run Tryd.prog w = .ok y w := by
  have hk' : (k : Int) < 8 := by omega
  have h0 : (0 : Int) ≤ (k : Int) := by omega
  have hs : sizeOf 80 = sizeOf 80 := rfl
  simp [Instr.index, run_underlying under8, asIntOf, hk', h0, hk, h, go_sem]
structure EndW (w wr : World) (s : St) (g2 : Nat) (cur : Array Value) (lo hi : Nat) : Prop where
  h0 : wr.heap[w.heap.size]? = some (.cells (stCells s).toArray 83 (0, 0))
  h1 : wr.heap[g2]? = some (.cells cur 5 (lo, hi))
  far : w.heap.size < g2
  bel : Below w.heap.size w wr
theorem EndW.below' {w wr wn : World} {s : St} {g2 : Nat} {cur : Array Value} {lo hi : Nat} (h : EndW w wr s g2 cur lo hi) (hb : Below wr.heap.size wr wn) : EndW w wn s g2 cur lo hi := by
  have l0 := lt_of_block h.h0
  have l1 := lt_of_block h.h1
  exact ⟨by rw [hb.block _ l0]; exact h.h0, by rw [hb.block _ l1]; exact h.h1, h.far, h.bel.trans (hb.mono (by omega))⟩
theorem EndW.drew {w wr : World} {s : St} {g2 : Nat} {cur : Array Value} {lo hi : Nat} (h : EndW w wr s g2 cur lo hi) : EndW w wr.drew s g2 cur lo hi := ⟨h.h0, h.h1, h.far, h.bel.drew⟩
theorem EndW.heads {w wr : World} {s : St} {g2 : Nat} {cur : Array Value} {lo hi : Nat} (h : EndW w wr s g2 cur lo hi) (x : Hd) :
    EndW w ((((((((wr.setCell ⟨w.heap.size, 0, none⟩ (.int .u32 x.a)).setCell ⟨w.heap.size, 1, none⟩ (.int .u32 x.b)).setCell ⟨w.heap.size, 2, none⟩ (.int .u32 x.c)).setCell ⟨w.heap.size, 3, none⟩ (.int .u32 x.d)).setCell ⟨w.heap.size, 4, none⟩ (.int .u32 x.e)).setCell ⟨w.heap.size, 5, none⟩ (.int .u32 x.f)).setCell ⟨w.heap.size, 6, none⟩ (.int .u32 x.g)).setCell ⟨w.heap.size, 7, none⟩ (.int .u32 x.h)) ⟨x, s.rest, s.many⟩ g2 cur lo hi := by
  have hf := h.far
  exact ⟨cells_set8 h.h0 x, by rw [Below.heap_setCell _ _ _ _ (by simp; omega), Below.heap_setCell _ _ _ _ (by simp; omega), Below.heap_setCell _ _ _ _ (by simp; omega), Below.heap_setCell _ _ _ _ (by simp; omega), Below.heap_setCell _ _ _ _ (by simp; omega), Below.heap_setCell _ _ _ _ (by simp; omega), Below.heap_setCell _ _ _ _ (by simp; omega), Below.heap_setCell _ _ _ _ (by simp; omega)]; exact h.h1, h.far,
    (((((((h.bel.setCell (Nat.le_refl _) _).setCell (Nat.le_refl _) _).setCell (Nat.le_refl _) _).setCell (Nat.le_refl _) _).setCell (Nat.le_refl _) _).setCell (Nat.le_refl _) _).setCell (Nat.le_refl _) _).setCell (Nat.le_refl _) _⟩

set_option maxRecDepth 100000 in
/-- A piece of a row of bytes as a text. -/
theorem piece_string {w : World} {g n t c : Nat} {cur : Array Value} {lo hi : Nat} {full : List UInt8} (h : w.heap[g]? = some (.cells cur 5 (lo, hi))) (ht : cur.toList.take n = bvs full) (hn : 64 * t + 64 ≤ full.length) :
    (convert 69 9 (.slice (some ⟨g, 64 * t, none⟩) 64 c)).run Tryd.prog w = .ok (.string ((ByteArray.mk full.toArray).extract (64 * t) (64 * t + 64))) w := by
  have hl : ((full.drop (64 * t)).take 64).length = 64 := by simp; omega
  have hr := run_convert_bytes_back (P := Tryd.prog) w 69 9 5 ⟨g, 64 * t, none⟩ c ((full.drop (64 * t)).take 64) Tryd.underlying69 Tryd.underlying5 Tryd.underlying9 (by
    intro j hj
    have hj' : j < 64 := by omega
    rw [addr_add, cell_of_row _ g _ cur 5 (lo, hi) h]
    have h1 : (bvs full)[64 * t + j]? = some (.int .u8 (full[64 * t + j].toNat : Int)) := by simp [bvs, List.getElem?_eq_getElem (show 64 * t + j < full.length by omega)]
    rw [← ht, List.getElem?_take] at h1
    split at h1
    · rw [← Array.getElem?_toList, h1]; simp
    · cases h1)
  rw [hl] at hr
  refine hr.trans ?_
  congr 2
  apply bs_ext
  rw [toList_extract]
  show _ = (full.drop (64 * t)).take (64 * t + 64 - 64 * t)
  rw [Nat.add_sub_cancel_left]

set_option maxRecDepth 100000 in
set_option maxHeartbeats 1600000 in
theorem end_any (s : St) (w : World) (hg : goodB s = true) (hok : s.heads.ok) (htab0 : ∀ i, i < 64 → w.cell? ⟨0, i, none⟩ = some (.int .u32 (shaK.getD i 0))) :
    Calls Tryd.prog 36 #[stV s] w fun e w' => e = .returned (.tuple #[.string (endF s), .int .i64 0]) ∧ Below w.heap.size w w' := by
  have HTB : Hid (0 < w.heap.size) := Lib.hid (by have := World.block_lt_of_cell? w _ (htab0 0 (by omega)); exact this)
  have htab := Lib.hid htab0
  clear htab0
  have HG := good_any s
  simp only [stV] at HG
  have hmany : 0 ≤ s.many ∧ s.many < 1152921504606846976 := by simp [goodB] at hg; exact ⟨hg.1, hg.2.1⟩
  have hrest : s.rest.size < 64 := by simp [goodB] at hg; omega
  rw [hg] at HG
  clear hg
  show Calls _ _ #[.agg #[.int .u32 s.heads.a, .int .u32 s.heads.b, .int .u32 s.heads.c, .int .u32 s.heads.d, .int .u32 s.heads.e, .int .u32 s.heads.f, .int .u32 s.heads.g, .int .u32 s.heads.h, .string s.rest, .int .i64 s.many]] w _
  go_enter Tryd.func36, Tryd.ntmps36
  go_wp2_with fail
  refine (HG _).mono ?_
  rintro e w1 ⟨rfl, hb1⟩
  have h0 : w1.heap[w.heap.size]? = some (.cells (stCells s).toArray 83 (0, 0)) := by rw [hb1.block _ (by simp)]; exact heap_alloc_new _ _
  have hbel : Below w.heap.size w w1 := ((Below.refl _ w).alloc (Nat.le_refl _) (.cells (stCells s).toArray 83)).trans (hb1.mono (by simp))
  have hw1 : w.heap.size + 1 ≤ w1.heap.size := by have := lt_of_block h0; omega
  have a8 : w1.cell? ⟨w.heap.size, 8, none⟩ = some (.string s.rest) := (block10 h0).2.2.2.2.2.2.2.2.1
  have kc := fun (w : World) (x : ByteArray) => run_bytes_of_string (P := Tryd.prog) w 9 69 5 x Tryd.underlying9 Tryd.underlying69 Tryd.underlying5
  clear hb1
  go_wp2_with fail
  have hst : ownsM (w1.drew.alloc (.cells (bytesRow (s.rest ++ ⟨#[128]⟩) (grownCap w1 (s.rest.size + 1) 0 5)) 5 ((bytesRow (s.rest ++ ⟨#[128]⟩) (grownCap w1 (s.rest.size + 1) 0 5)).size, (bytesRow (s.rest ++ ⟨#[128]⟩) (grownCap w1 (s.rest.size + 1) 0 5)).size + 1))) (w.heap.size + 1) 5 (.slice (some ⟨w1.heap.size, 0, none⟩) (s.rest.size + 1) (grownCap w1 (s.rest.size + 1) 0 5)) (bvs (s.rest.data.toList ++ [128])) := by
    have hx : (s.rest ++ (⟨#[128]⟩ : ByteArray)).size = s.rest.size + 1 := ByteArray.size_append
    have := ownsM_bytes w1 (w.heap.size + 1) 5 (s.rest ++ ⟨#[128]⟩) hw1 (by rw [hx]; unfold maxLen; omega)
    rw [hx, toList_append] at this
    exact this
  have HH0 := Lib.hid h0
  have HBL := Lib.hid hbel
  have HREST := Lib.hid hrest
  have HMANY := Lib.hid hmany
  have HOK := Lib.hid hok
  have HW1 := Lib.hid hw1
  clear h0 hbel a8 hmany hok hw1
  go_loopw [4] (fun v wr => ∃ j : Nat, j ≤ padN s.rest.size ∧ ownsM wr (w.heap.size + 1) 5 v (bvs (s.rest.data.toList ++ [128] ++ List.replicate j 0)) ∧ Below (w.heap.size + 1) w1 wr) (fun v _ => 200 - sliceLen v)
  case atStart => exact ⟨0, Nat.zero_le _, by rw [List.replicate_zero, List.append_nil]; exact hst, (Below.refl _ w1).drew.alloc (by have := HW1.out; simpa using this) _⟩
  case round =>
    clear hst
    obtain ⟨j, hj, hown, hB⟩ := hrel
    obtain ⟨n, hn⟩ : ∃ n, n = s.rest.size + 1 + j := ⟨_, rfl⟩
    have hl : (bvs (s.rest.data.toList ++ [128] ++ List.replicate j 0)).length = n := by simp [bvs, toList_length]; omega
    obtain ⟨g, cap, hv⟩ := ownsM_form hown
    rw [hl] at hv
    subst hv
    have hpad : padN s.rest.size < 64 ∧ (s.rest.size + 1 + padN s.rest.size) % 64 = 56 := by unfold padN; omega
    have hmt : Int.tmod (n : Int) 64 = (n : Int) % 64 := Int.tmod_eq_emod_of_nonneg (by omega)
    have hwsz : w.heap.size + 1 ≤ wr.heap.size := Nat.le_trans HW1.out hB.size
    by_cases hlt : j < padN s.rest.size
    · have hne : ((n : Int) % 64 == 56) = false := by simp; unfold padN at hlt hj; omega
      have HN := Lib.hid (show n = s.rest.size + 1 + j ∧ j < padN s.rest.size ∧ padN s.rest.size < 64 from ⟨hn, hlt, hpad.1⟩)
      have hn63 : n < 200 := by omega
      have HL := Lib.hid hl
      clear hn hj hlt hpad hl hrest
      go_wp2_with (first | (at_builtin; refine wpList_append1M rfl _ _ 69 rfl info_u8 Tryd.underlying69 rfl hown hB (Nat.le_refl _) hwsz rfl (by rw [HL.out]; omega) rfl rfl ?_; intro v' w2 hown' hB'))
      go_roundw
      case rel =>
        refine ⟨j + 1, by have := HN.out; omega, ?_, hB'⟩
        rw [List.replicate_succ', ← List.append_assoc, bvs_append]
        exact hown'
      case measure =>
        rw [ownsM_len hown', List.length_append, HL.out]
        simp only [sliceLen, List.length_cons, List.length_nil]
        omega
    · have hjp : j = padN s.rest.size := by omega
      have hne : ((n : Int) % 64 == 56) = true := by simp; unfold padN at hjp; omega
      have HN := Lib.hid (show n % 64 = 56 ∧ n < 121 ∧ n = s.rest.size + 1 + padN s.rest.size by omega)
      rw [hjp] at hown hl
      have HL := Lib.hid hl
      have HV := Lib.hid (rfl : Value.slice (some ⟨g, 0, none⟩) n cap = .slice (some ⟨g, 0, none⟩) n cap)
      clear hn hj hlt hpad hl hrest hjp
      clear j
      change ownsM wr (w.heap.size + 1) 5 _ (bvs (pads s.rest)) at hown
      have hown0 := hown
      go_wp2_with fail
      clear hown hwsz hmt hne
      go_loopw [4, 5] (fun v i wr => ∃ m : Nat, m ≤ 8 ∧ i = .int .i64 (56 - 8 * (m : Int)) ∧ ownsM wr (w.heap.size + 1) 5 v (bvs (pads s.rest ++ lenB (8 * s.many.toNat) m)) ∧ Below (w.heap.size + 1) w1 wr) (fun _ i _ => (intOr i + 8).toNat)
      case atStart => exact ⟨0, by omega, rfl, by rw [lenB, List.range_zero, List.map_nil, List.append_nil]; exact hown0, hB⟩
      case round =>
        clear hown0 hB HV
        obtain ⟨m, hm, rfl, hown, hB⟩ := hrel
        have HMM := HMANY.out
        have h0 : wr.heap[w.heap.size]? = some (.cells (stCells s).toArray 83 (0, 0)) := by rw [hB.block _ (by omega)]; exact HH0.out
        have a9 : wr.cell? ⟨w.heap.size, 9, none⟩ = some (.int .i64 s.many) := (block10 h0).2.2.2.2.2.2.2.2.2
        have hwsz : w.heap.size + 1 ≤ wr.heap.size := Nat.le_trans HW1.out hB.size
        obtain ⟨n2, hn2⟩ : ∃ n2, n2 = n + m := ⟨_, rfl⟩
        have hl2 : (bvs (pads s.rest ++ lenB (8 * s.many.toNat) m)).length = n2 := by
          have h1 : (bvs (pads s.rest)).length = n := HL.out
          simp only [bvs, List.map_append, List.length_append, List.length_map, lenB, List.length_range] at h1 ⊢
          omega
        obtain ⟨g2, cap2, hv⟩ := ownsM_form hown
        rw [hl2] at hv
        subst hv
        have H0 := Lib.hid h0
        clear h0
        by_cases h8 : m < 8
        · obtain ⟨k, hk⟩ : ∃ k : Nat, k = 56 - 8 * m := ⟨_, rfl⟩
          have e : (56 - 8 * (m : Int)) = (k : Int) := by omega
          have e8 : IntKind.i64.wrap (8 * s.many) = 8 * s.many := IntWalk.i64_in _ (by omega)
          have hkb : decide ((0 : Int) ≤ (k : Int)) = true := by simp
          have hku : (k : Int) % 18446744073709551616 = (k : Int) := by omega
          have HK := Lib.hid (show k + 8 * m = 56 by omega)
          have HN2 := Lib.hid (show n2 = n + m ∧ n2 < 200 by have := HN.out; omega)
          have HL2 := Lib.hid hl2
          rw [e]
          clear e hk hn2 hl2 hm HMM
          go_wp2_with (first | (at_builtin; refine wpList_append1M rfl _ _ 69 rfl info_u8 Tryd.underlying69 rfl hown hB (Nat.le_refl _) hwsz rfl (by rw [HL2.out]; have := HN2.out; omega) rfl rfl ?_; intro v' w2 hown' hB'))
          go_roundw
          case rel =>
            refine ⟨m + 1, by omega, by have := HK.out; rw [IntWalk.wrap64_in _ (by omega)]; congr 1; omega, ?_, hB'⟩
            rw [lenB_val s.many k (56 - 8 * m) HMANY.out.1 (by have := HK.out; omega) (by omega)] at hown'
            rw [lenB_succ, ← List.append_assoc, bvs_append]
            exact hown'
          case measure =>
            have := HK.out
            rw [IntWalk.wrap64_in _ (by omega)]
            show ((k : Int) - 8 + 8).toNat < ((k : Int) + 8).toNat
            omega
        · have hm8 : m = 8 := by omega
          subst hm8
          clear hm h8
          have hi8 : (56 - 8 * ((8 : Nat) : Int)) = -8 := by decide
          rw [hi8]
          clear hi8
          obtain ⟨full, hfull⟩ : ∃ full, full = pads s.rest ++ lenB (8 * s.many.toNat) 8 := ⟨_, rfl⟩
          rw [← hfull] at hown hl2
          have HFULL := Lib.hid hfull
          have hfl : full.length = n2 := by simpa [bvs] using hl2
          have hn64 : n2 % 64 = 0 ∧ n2 < 200 := by have := HN.out; omega
          obtain ⟨g', cap', cur, lo, hi, hvv, hgb, hgrow, hmark, hnc, hcm, hcs, htake⟩ := hown
          injection hvv with hv1 hvl hv2
          clear hvl
          injection hv1 with hv1
          injection hv1 with hv1 _ _
          subst hv1
          subst hv2
          have HROW := Lib.hid hgrow
          have HTAKE := Lib.hid htake
          have HFL := Lib.hid hfl
          have HCAP := Lib.hid (show n2 ≤ cap2 ∧ cur.size = cap2 by rw [hl2] at hnc; exact ⟨hnc, hcs⟩)
          have HN64 := Lib.hid hn64
          have HGB := Lib.hid hgb
          have hB3 : Below w.heap.size w wr := HBL.out.trans (hB.mono (by omega))
          clear hfull hl2 hfl hn64 hgb hgrow hmark hnc hcm hcs htake HMM hn2 a9
          go_wp2_with fail
          have hE0 : EndW w wr ⟨s.heads, s.rest, s.many⟩ g2 cur lo hi := ⟨H0.out, HROW.out, by have := HGB.out; omega, hB3⟩
          clear hB3 hB hwsz
          go_loopw [4] (fun v wr => ∃ (t off c : Nat), 64 * t ≤ n2 ∧ v = .slice (some ⟨g2, off, none⟩) (n2 - 64 * t) c ∧ (64 * t < n2 → off = 64 * t) ∧ n2 - 64 * t ≤ c ∧ EndW w wr ⟨blkN s.heads ⟨full.toArray⟩ t, s.rest, s.many⟩ g2 cur lo hi) (fun v _ => sliceLen v)
          case atStart => exact ⟨0, 0, cap2, by omega, by rw [Nat.mul_zero, Nat.sub_zero], fun _ => rfl, by have := HCAP.out; omega, hE0⟩
          case round =>
            clear hE0
            obtain ⟨t, off, c, ht, rfl, hoff, hc, hE⟩ := hrel
            obtain ⟨d, hd⟩ : ∃ d, d = n2 - 64 * t := ⟨_, rfl⟩
            rw [← hd] at hc ⊢
            have h64 := HN64.out
            by_cases hpos : 0 < d
            · have ho := hoff (by omega)
              subst ho
              have hd64 : 64 ≤ d := by omega
              have hok2 := blkN_ok s.heads ⟨full.toArray⟩ HOK.out t
              have hsz : ((ByteArray.mk full.toArray).extract (64 * t) (64 * t + 64)).size = 64 := by
                have : (ByteArray.mk full.toArray).size = n2 := by rw [← HFL.out]; rfl
                simp only [ByteArray.size_extract, this]
                omega
              have HKB := Lib.hid (fun (w' : World) (h : w'.heap[g2]? = some (.cells cur 5 (lo, hi))) (c : Nat) => piece_string (t := t) (c := c) h HTAKE.out (by rw [HFL.out]; omega))
              have HNX : Hid (blkN s.heads ⟨full.toArray⟩ (t + 1) = blockF (blkN s.heads ⟨full.toArray⟩ t) ((ByteArray.mk full.toArray).extract (64 * t) (64 * t + 64))) := Lib.hid rfl
              have HD := Lib.hid (show d = n2 - 64 * t ∧ 64 ≤ d ∧ 64 * t ≤ n2 ∧ d ≤ c from ⟨hd, hd64, ht, hc⟩)
              have HSZ := Lib.hid hsz
              have HOK2 := Lib.hid hok2
              have hdb : decide ((0 : Int) < (d : Int)) = true := by simp; omega
              have hci : (64 : Int) ≤ (c : Int) := by omega
              have hdi : (64 : Int) ≤ (d : Int) := by omega
              clear hd hoff hc ht h64 hd64 hsz hok2 hpos
              generalize (ByteArray.mk full.toArray).extract (64 * t) (64 * t + 64) = blk at *
              generalize blkN s.heads ⟨full.toArray⟩ t = hh at *
              obtain ⟨a0, a1, a2, a3, a4, a5, a6, a7, a8, a9⟩ := block10 hE.h0
              dsimp only at a0 a1 a2 a3 a4 a5 a6 a7
              clear a8 a9
              go_wp2_with fail
              refine Lone.wp_region_order [(0, false), (1, false), (2, false), (3, false), (4, false), (5, true), (6, false), (7, true)] (fun w' => w'.cell? ⟨w.heap.size, 0, none⟩ = some (.int .u32 hh.a) ∧ w'.cell? ⟨w.heap.size, 1, none⟩ = some (.int .u32 hh.b) ∧ w'.cell? ⟨w.heap.size, 2, none⟩ = some (.int .u32 hh.c) ∧ w'.cell? ⟨w.heap.size, 3, none⟩ = some (.int .u32 hh.d) ∧ w'.cell? ⟨w.heap.size, 4, none⟩ = some (.int .u32 hh.e) ∧ w'.cell? ⟨w.heap.size, 5, none⟩ = some (.int .u32 hh.f) ∧ w'.cell? ⟨w.heap.size, 6, none⟩ = some (.int .u32 hh.g) ∧ w'.cell? ⟨w.heap.size, 7, none⟩ = some (.int .u32 hh.h) ∧ w'.heap[g2]? = some (.cells cur 5 (lo, hi))) (by kernel_rfl) (by kernel_rfl) rfl (by kernel_rfl) (by intro _ _ d _ _ h; cases d <;> exact h) (⟨a0, a1, a2, a3, a4, a5, a6, a7, hE.h1⟩) ?_; simp only [List.map_cons, List.map_nil, List.getElem?_toArray, List.getElem?_cons_zero, List.getElem?_cons_succ, Option.getD_some]
              repeat (first | (refine Lone.ro_q (by rfl) (v := ?_) ?_ ?_; rotate_left; (focus (intro w' hSw; (try dsimp only at hSw); go_simp; try with_reducible rfl)); simp only [Act.put, List.setIfInBounds_toArray, List.set_cons_zero, List.set_cons_succ]) | (refine Lone.ro_skip (by rfl) ?_; simp only [Act.put, List.setIfInBounds_toArray, List.set_cons_zero, List.set_cons_succ]))
              refine Lone.ro_q (by rfl) (v := .string blk) ?_ ?_
              · intro w' hSw
                have hk := HKB.out w' hSw.2.2.2.2.2.2.2.2 c
                simp only [execOp, Act.eval, List.getElem?_toArray, List.getElem?_cons_zero, List.getElem?_cons_succ, Array.getD_eq_getD_getElem?, Option.getD_some, Sem.run_bind, hk, Result.andThen, Sem.run_pure]
              simp only [Act.put, List.setIfInBounds_toArray, List.set_cons_zero, List.set_cons_succ]
              repeat (first | (refine Lone.ro_q (by rfl) (v := ?_) ?_ ?_; rotate_left; (focus (intro w' hSw; (try dsimp only at hSw); go_simp; try with_reducible rfl)); simp only [Act.put, List.setIfInBounds_toArray, List.set_cons_zero, List.set_cons_succ]) | (refine Lone.ro_skip (by rfl) ?_; simp only [Act.put, List.setIfInBounds_toArray, List.set_cons_zero, List.set_cons_succ]))
              (refine Lone.ro_loud (by rfl) (fun K hK => ?_); go_simp)
              refine (block_any hh blk _ HSZ.out HOK2.out (fun i hi => by rw [hE.drew.bel.cell (p := ⟨0, i, none⟩) HTB.out]; exact htab.out i hi)).mono ?_
              rintro e w5 ⟨rfl, hb5⟩
              have hE5 := hE.drew.below' hb5
              obtain ⟨e0, e1, e2, e3, e4, e5, e6, e7, e8, e9⟩ := block10 hE5.h0
              dsimp only at e0 e1 e2 e3 e4 e5 e6 e7
              clear e8 e9
              have y0 := row_free hE5.h0 0
              have y1 := row_free hE5.h0 1
              have y2 := row_free hE5.h0 2
              have y3 := row_free hE5.h0 3
              have y4 := row_free hE5.h0 4
              have y5 := row_free hE5.h0 5
              have y6 := row_free hE5.h0 6
              have y7 := row_free hE5.h0 7
              simp only [hdV]
              (refine hK.out _ _ (fun w' => w'.cell? ⟨w.heap.size, 0, none⟩ = some (.int .u32 hh.a) ∧ w'.cell? ⟨w.heap.size, 1, none⟩ = some (.int .u32 hh.b) ∧ w'.cell? ⟨w.heap.size, 2, none⟩ = some (.int .u32 hh.c) ∧ w'.cell? ⟨w.heap.size, 3, none⟩ = some (.int .u32 hh.d) ∧ w'.cell? ⟨w.heap.size, 4, none⟩ = some (.int .u32 hh.e) ∧ w'.cell? ⟨w.heap.size, 5, none⟩ = some (.int .u32 hh.f) ∧ w'.cell? ⟨w.heap.size, 6, none⟩ = some (.int .u32 hh.g) ∧ w'.cell? ⟨w.heap.size, 7, none⟩ = some (.int .u32 hh.h) ∧ w'.heap[g2]? = some (.cells cur 5 (lo, hi))) (.inl fun _ h => h) (⟨e0, e1, e2, e3, e4, e5, e6, e7, hE5.h1⟩) ?_; clear hK K; try simp only [Act.put, List.setIfInBounds_toArray, List.set_cons_zero, List.set_cons_succ])
              repeat (first | (refine Lone.ro_q (by rfl) (v := ?_) ?_ ?_; rotate_left; (focus (intro w' hSw; (try dsimp only at hSw); go_simp; try with_reducible rfl)); simp only [Act.put, List.setIfInBounds_toArray, List.set_cons_zero, List.set_cons_succ]) | (refine Lone.ro_skip (by rfl) ?_; simp only [Act.put, List.setIfInBounds_toArray, List.set_cons_zero, List.set_cons_succ]))
              (refine Lone.ro_loud (by rfl) (fun K hK => ?_); go_simp)
              (refine hK.out _ _ (fun _ => True) (.inr (by kernel_rfl)) (trivial) ?_; clear hK K; try simp only [Act.put, List.setIfInBounds_toArray, List.set_cons_zero, List.set_cons_succ])
              (refine Lone.ro_nil ?_; go_wp2_with fail)
              go_roundw
              case rel =>
                have hD := HD.out
                refine ⟨t + 1, if c = 64 then 64 * t else 64 * t + 64, c - 64, by omega, ?_, ?_, by omega, ?_⟩
                · rw [show n2 - 64 * (t + 1) = d - 64 by omega]
                  split <;> rfl
                · intro h
                  split <;> omega
                · rw [HNX.out]
                  exact hE5.heads (blockF hh blk)
              case measure =>
                have hD := HD.out
                simp only [sliceLen]
                omega
            · have hd0 : d = 0 := by omega
              have htn : t = n2 / 64 := by omega
              rw [hd0]
              rw [htn] at hE
              have HOKE := Lib.hid (blkN_ok s.heads ⟨full.toArray⟩ HOK.out (n2 / 64))
              obtain ⟨a0, a1, a2, a3, a4, a5, a6, a7, a8, a9⟩ := block10 hE.h0
              dsimp only at a0 a1 a2 a3 a4 a5 a6 a7
              clear a8 a9 hoff hc ht hpos hd hd0 htn h64
              clear t
              obtain ⟨hh, hhh⟩ : ∃ hh, hh = blkN s.heads ⟨full.toArray⟩ (n2 / 64) := ⟨_, rfl⟩
              have HHH := Lib.hid hhh
              rw [← hhh] at hE HOKE a0 a1 a2 a3 a4 a5 a6 a7
              clear hhh
              go_wp2_with fail
              have hbw := hE.bel
              clear hE a0 a1 a2 a3 a4 a5 a6 a7
              go_loopw [51, 6] (fun i v wr => ∃ k : Nat, k ≤ 8 ∧ i = .int .i64 k ∧ wr.ownsRow w.heap.size 5 1 v (4 * k) (bvs (outB hh k)) ∧ Below w.heap.size w wr) (fun i _ _ => 8 - (intOf i).toNat)
              case atStart => exact ⟨0, by omega, rfl, World.ownsRow_nil _ _ _ _, hbw⟩
              case round =>
                clear hbw
                obtain ⟨k, hk, rfl, hown, hB⟩ := hrel
                have hsz := hB.size
                by_cases h8 : k < 8
                · have hix := fun (w : World) => run_idx8 w _ k _ h8 (idx_get hh k h8)
                  have k8 : (k : Int) < 8 := by omega
                  have kb : decide ((k : Int) < 8) = true := by simp; omega
                  have hn4 : 4 * k < 40 := by omega
                  have HON : Hid (outB hh (k + 1) = outB hh k ++ four (idx hh k)) := Lib.hid rfl
                  have HY := Lib.hid (idx_ok HOKE.out k).1
                  generalize idx hh k = y at *
                  obtain ⟨xs, hxs⟩ : ∃ xs, xs = bvs (outB hh k) := ⟨_, rfl⟩
                  rw [← hxs] at hown
                  have HXS := Lib.hid hxs
                  clear hxs
                  go_wp2_with (first | (at_builtin; refine wpList_appendN rfl _ _ 69 rfl info_u8 Tryd.underlying69 rfl hown hB (Nat.le_refl _) hsz 4 rfl (by simp [Value.oneCell']) (by omega) rfl rfl ?_; intro v' w2 hown' hB'))
                  go_roundw
                  case rel =>
                    refine ⟨k + 1, by omega, rfl, ?_, hB'⟩
                    rw [HON.out, bvs_append, four_vals y HY.out, ← HXS.out]
                    exact hown'
                  case measure => simp [intOf]; omega
                · have hk8 : k = 8 := by omega
                  subst hk8
                  have kb : decide (((8 : Nat) : Int) < 8) = false := by simp
                  clear hk h8
                  have hR := rdRow_of_owns hown
                  have HOWN := Lib.hid hown
                  clear hown
                  go_wp2_with (first | (refine wpList_bytes_string rfl _ _ _ _ rfl Tryd.underlying69 Tryd.underlying5 Tryd.underlying9 (l := outB hh 8) (n := 32) hR rfl ?_))
                  have hfin : endF s = ⟨(outB hh 8).toArray⟩ := by
                    have h1 : padded s = full := HFULL.out.symm
                    rw [endF, h1, HFL.out, ← HHH.out]
                  go_ret2
                  exact ⟨by rw [hfin]; rfl, hB⟩
end Go.Proofs.YtmacceamebdelaaDoor
/-! SumSum -/
namespace Go.Proofs.YtmacceamebdelaaDoor
open Go.RowKit
set_option linter.unusedVariables false
set_option linter.unusedSimpArgs false

set_option maxRecDepth 100000 in
set_option maxHeartbeats 1600000 in
theorem end_bad (s : St) (w : World) (hg : goodB s = false) :
    Calls Tryd.prog 36 #[stV s] w fun e w' => e = .returned (.tuple #[.string ⟨#[]⟩, .int .i64 3]) ∧ Below w.heap.size w w' := by
  have HG := good_any s
  simp only [stV] at HG
  rw [hg] at HG
  clear hg
  show Calls _ _ #[.agg #[.int .u32 s.heads.a, .int .u32 s.heads.b, .int .u32 s.heads.c, .int .u32 s.heads.d, .int .u32 s.heads.e, .int .u32 s.heads.f, .int .u32 s.heads.g, .int .u32 s.heads.h, .string s.rest, .int .i64 s.many]] w _
  go_enter Tryd.func36, Tryd.ntmps36
  go_wp2_with fail
  refine (HG _).mono ?_
  rintro e w1 ⟨rfl, hb1⟩
  go_wp2_with fail
  go_ret2
  exact ⟨rfl, ((Below.refl _ w).alloc (Nat.le_refl _) _).trans (hb1.mono (by simp))⟩

/-- What tells that the table lies where it lay at the start. -/
def Tab (w : World) : Prop := ∀ i, i < 64 → w.cell? ⟨0, i, none⟩ = some (.int .u32 (shaK.getD i 0))
theorem Tab.pos {w : World} (h : Tab w) : 0 < w.heap.size := by have := World.block_lt_of_cell? w _ (h 0 (by omega)); exact this
theorem Tab.below {w w' : World} (h : Tab w) (hb : Below w.heap.size w w') : Tab w' := fun i hi => by rw [hb.cell (p := ⟨0, i, none⟩) h.pos]; exact h i hi
theorem start_ok : start.heads.ok := by unfold start Hd.ok isU; simp
theorem noSt_ok : noSt.heads.ok := by unfold noSt Hd.ok isU; simp
theorem good_start : goodB start = true := by rfl
theorem good_noSt : goodB noSt = true := by rfl
theorem addF_ok {s : St} {b : ByteArray} (h : s.heads.ok) : (addF s b).heads.ok := blkN_ok _ _ h _
theorem good_add {s : St} {b : ByteArray} (h : addOk s b = true) : goodB (addF s b) = true := by
  simp only [addOk, goodB, Bool.and_eq_true, decide_eq_true_eq] at h
  obtain ⟨⟨h0, h1, h2⟩, h3, h4⟩ := h
  have hx : (s.rest ++ b).size = s.rest.size + b.size := ByteArray.size_append
  have hr : (addF s b).rest.size = (s.rest ++ b).size - 64 * ((s.rest ++ b).size / 64) := by
    show ((s.rest ++ b).extract (64 * ((s.rest ++ b).size / 64)) (s.rest ++ b).size).size = _
    rw [extract_size' _ _ (by omega)]
  simp only [goodB, Bool.and_eq_true, decide_eq_true_eq, hr]
  show 0 ≤ s.many + b.size ∧ s.many + b.size < 1152921504606846976 ∧ _ = (s.many + b.size) % 64
  refine ⟨by omega, by omega, ?_⟩
  omega
def addR (s : St) (b : ByteArray) : St := if addOk s b then addF s b else noSt
theorem addR_good (s : St) (b : ByteArray) : goodB (addR s b) = true := by
  unfold addR; split
  · rename_i h; exact good_add h
  · rfl
theorem addR_ok {s : St} {b : ByteArray} (h : s.heads.ok) : (addR s b).heads.ok := by
  unfold addR; split
  · exact addF_ok h
  · exact noSt_ok
/-- What Sum answers. -/
def sumF (b : ByteArray) : ByteArray := endF (addR start b)
theorem outB_len8 (x : Hd) : (outB x 8).length = 32 := outB_length x 8
theorem endF_size (s : St) : (endF s).size = 32 := by
  show (outB _ 8).length = 32
  exact outB_length _ 8
def addE (s : St) (b : ByteArray) : Int := if addOk s b then 0 else 3
theorem add_all (s : St) (b : ByteArray) (w : World) (hok : s.heads.ok) (ht : Tab w) :
    Calls Tryd.prog 34 #[stV s, .string b] w fun e w' => e = .returned (.tuple #[stV (addR s b), .int .i64 (addE s b)]) ∧ Below w.heap.size w w' := by
  have h := add_any s b w hok ht
  unfold addR addE
  split <;> rename_i hb <;> simpa [hb] using h

set_option maxRecDepth 100000 in
set_option maxHeartbeats 1600000 in
theorem sum_any (b : ByteArray) (w : World) (ht : Tab w) :
    Calls Tryd.prog 16 #[.string b] w fun e w' => e = .returned (.string (sumF b)) ∧ Below w.heap.size w w' := by
  have HT := Lib.hid ht
  clear ht
  go_enter Tryd.func16, Tryd.ntmps16
  go_wp2_with fail
  refine (begin_any _).mono ?_
  rintro e w1 ⟨rfl, hb1⟩
  go_wp2_with fail
  refine (add_all start b _ start_ok (HT.out.below hb1)).mono ?_
  rintro e w2 ⟨rfl, hb2⟩
  have HR := Lib.hid (show goodB (addR start b) = true ∧ (addR start b).heads.ok ∧ sumF b = endF (addR start b) from ⟨addR_good _ _, addR_ok start_ok, rfl⟩)
  have HT2 := Lib.hid ((HT.out.below hb1).below hb2)
  have HBB := Lib.hid (hb1.trans (hb2.mono hb1.size))
  clear hb1 hb2
  generalize addR start b = r at *
  simp only [stV]
  go_wp2_with fail
  refine (end_any r _ HR.out.1 HR.out.2.1 (HT2.out.below ((Below.refl _ _).alloc (Nat.le_refl _) _))).mono ?_
  rintro e w3 ⟨rfl, hb3⟩
  go_wp2_with fail
  go_ret
  exact ⟨by rw [HR.out.2.2]; rfl, HBB.out.trans (((Below.refl _ w2).alloc (Nat.le_refl _) _).trans (hb3.mono (by simp)) |>.mono HBB.out.size)⟩
end Go.Proofs.YtmacceamebdelaaDoor
/-! SumSeal -/
namespace Go.Proofs.YtmacceamebdelaaDoor
open Go.RowKit
set_option linter.unusedVariables false
set_option linter.unusedSimpArgs false

/-- Byte i of a pad. -/
def padB (c : UInt8) (key : ByteArray) (i : Nat) : UInt8 := if i < key.size then c ^^^ key.data.toList.getD i 0 else c
def padL (c : UInt8) (key : ByteArray) : Nat → List UInt8
  | 0 => List.replicate 64 0
  | i + 1 => (padL c key i).set i (padB c key i)
theorem padL_length (c : UInt8) (key : ByteArray) : ∀ i, (padL c key i).length = 64
  | 0 => by simp [padL]
  | i + 1 => by rw [padL, List.length_set, padL_length c key i]
def padS (c : UInt8) (key : ByteArray) : ByteArray := ⟨(padL c key 64).toArray⟩
theorem padS_size (c : UInt8) (key : ByteArray) : (padS c key).size = 64 := by
  show (padL c key 64).toArray.size = 64
  rw [List.size_toArray, padL_length]
/-- The key that a seal works with. -/
def keyN (key : ByteArray) : ByteArray := if key.size ≤ 64 then key else sumF key
theorem sumF_size (b : ByteArray) : (sumF b).size = 32 := endF_size _
theorem keyN_size (key : ByteArray) : (keyN key).size ≤ 64 := by
  unfold keyN; split
  · assumption
  · rw [sumF_size]; decide
def sealF (key b : ByteArray) : ByteArray := sumF (padS 92 (keyN key) ++ sumF (padS 54 (keyN key) ++ b))
theorem bvs_set (l : List UInt8) (i : Nat) (c : UInt8) : (bvs l).set i (.int .u8 (c.toNat : Int)) = bvs (l.set i c) := by simp [bvs, List.map_set]
theorem set_twice {α : Type} (l : List α) (i : Nat) (x y : α) : (l.set i x).set i y = l.set i y := by simp
theorem xor_u8 (a b : UInt8) : bits .xor .u8 (a.toNat : Int) (b.toNat : Int) = ((a ^^^ b).toNat : Int) := by
  rw [u8_xor_nat _ _ (UInt8.toNat_lt a) (UInt8.toNat_lt b), UInt8.toNat_xor]
theorem key_at (key : ByteArray) (i : Nat) (h : i < key.size) : key[i] = key.data.toList.getD i 0 := by
  have h' : i < key.data.toList.length := by rw [Array.length_toList]; exact h
  rw [List.getD, List.getElem?_eq_getElem h']; rfl
/-- A pad's cells behind a round. -/
theorem pad_in (c : UInt8) (key : ByteArray) (i : Nat) (h : i < key.size) :
    ((bvs (padL c key i)).set i (.int .u8 (c.toNat : Int))).set i (.int .u8 (bits .xor .u8 (c.toNat : Int) (key[i].toNat : Int))) = bvs (padL c key (i + 1)) := by
  rw [set_twice, xor_u8, bvs_set, key_at key i h, padL, padB, if_pos h]
theorem pad_out (c : UInt8) (key : ByteArray) (i : Nat) (h : ¬ i < key.size) :
    (bvs (padL c key i)).set i (.int .u8 (c.toNat : Int)) = bvs (padL c key (i + 1)) := by
  rw [bvs_set, padL, padB, if_neg h]

theorem pad_in54 (key : ByteArray) (i : Nat) (h : i < key.size) :
    ((bvs (padL 54 key i)).set i (.int .u8 54)).set i (.int .u8 (bits .xor .u8 54 (key[i].toNat : Int))) = bvs (padL 54 key (i + 1)) := pad_in 54 key i h
theorem pad_out54 (key : ByteArray) (i : Nat) (h : ¬ i < key.size) : (bvs (padL 54 key i)).set i (.int .u8 54) = bvs (padL 54 key (i + 1)) := pad_out 54 key i h
theorem pad_in92 (key : ByteArray) (i : Nat) (h : i < key.size) :
    ((bvs (padL 92 key i)).set i (.int .u8 92)).set i (.int .u8 (bits .xor .u8 92 (key[i].toNat : Int))) = bvs (padL 92 key (i + 1)) := pad_in 92 key i h
theorem pad_out92 (key : ByteArray) (i : Nat) (h : ¬ i < key.size) : (bvs (padL 92 key i)).set i (.int .u8 92) = bvs (padL 92 key (i + 1)) := pad_out 92 key i h

/-- The two pads at work. -/
structure SealW (w wr : World) (g : Nat) (xs ys : List Value) : Prop where
  h0 : wr.heap[g]? = some (.cells xs.toArray 88 (0, 0))
  h1 : wr.heap[g + 1]? = some (.cells ys.toArray 88 (0, 0))
  lo : w.heap.size ≤ g
  bel : Below w.heap.size w wr
theorem SealW.set0 {w wr : World} {g : Nat} {xs ys : List Value} (h : SealW w wr g xs ys) (i : Nat) (u : Value) : SealW w (wr.setCell ⟨g, i, none⟩ u) g (xs.set i u) ys :=
  ⟨row_set h.h0 i u, by rw [Below.heap_setCell _ _ _ _ (by simp)]; exact h.h1, h.lo, h.bel.setCell h.lo _⟩
theorem SealW.set1 {w wr : World} {g : Nat} {xs ys : List Value} (h : SealW w wr g xs ys) (i : Nat) (u : Value) : SealW w (wr.setCell ⟨g + 1, i, none⟩ u) g xs (ys.set i u) :=
  ⟨by rw [Below.heap_setCell _ _ _ _ (by simp)]; exact h.h0, row_set h.h1 i u, h.lo, h.bel.setCell (by have := h.lo; simp; omega) _⟩
theorem SealW.drew {w wr : World} {g : Nat} {xs ys : List Value} (h : SealW w wr g xs ys) : SealW w wr.drew g xs ys := ⟨h.h0, h.h1, h.lo, h.bel.drew⟩
theorem rd_of_row {w : World} {g : Nat} {l : List UInt8} {t : TypeId} (h : w.heap[g]? = some (.cells (bvs l).toArray t (0, 0))) (hl : l.length = 64) : rdRow w 1 (.slice (some ⟨g, 0, none⟩) 64 64) 64 (bvs l) := by
  refine ⟨by rw [bvs_length, hl], _, 64, rfl, Nat.le_refl _, by decide, (fun h => by cases h), fun a ha j u hu => ?_⟩
  obtain rfl := Option.some.inj ha
  rw [addr_add, Nat.zero_add, row_cell h]
  exact hu

set_option maxRecDepth 100000 in
set_option maxHeartbeats 1600000 in
theorem seal_any (key b : ByteArray) (w : World) (hb : b.size ≤ 140737488355328) (hk0 : key.size ≤ 140737488355328) (ht : Tab w) :
    Calls Tryd.prog 17 #[.string key, .string b] w fun e w' => e = .returned (.string (sealF key b)) ∧ Below w.heap.size w w' := by
  have HT := Lib.hid ht
  clear ht
  by_cases hkl : key.size ≤ 64
  · have hkn : keyN key = key := by unfold keyN; rw [if_pos hkl]
    have hF : sealF key b = sumF (padS 92 key ++ sumF (padS 54 key ++ b)) := by unfold sealF; rw [hkn]
    rw [hF]
    clear hkn hF
    have HB1 := Lib.hid (Below.refl w.heap.size w)
    have hw1 : w.heap.size ≤ w.heap.size := Nat.le_refl _
    go_enter Tryd.func17, Tryd.ntmps17
    go_wp2_with fail
    have hS0 : SealW w ((w.alloc (.cells (bvs (padL 54 key 0)).toArray 88)).alloc (.cells (bvs (padL 92 key 0)).toArray 88)) w.heap.size (bvs (padL 54 key 0)) (bvs (padL 92 key 0)) :=
      ⟨by rw [Below.heap_alloc _ _ _ (by simp)]; exact heap_alloc_new _ _, by have := heap_alloc_new (w.alloc (.cells (bvs (padL 54 key 0)).toArray 88)) (.cells (bvs (padL 92 key 0)).toArray 88); simpa using this, hw1, (HB1.out.alloc hw1 _).alloc (Nat.le_trans hw1 (by simp)) _⟩
    go_loopw [13] (fun v wr => ∃ k : Nat, k ≤ 64 ∧ v = .int .i64 k ∧ SealW w wr w.heap.size (bvs (padL 54 key k)) (bvs (padL 92 key k))) (fun v _ => 64 - (intOf v).toNat)
    case atStart => exact ⟨0, by omega, rfl, hS0⟩
    case round =>
      clear hS0
      obtain ⟨k, hk, rfl, hS⟩ := hrel
      by_cases hlt : k < 64
      · have hkb : decide ((k : Int) < 64) = true := by simp; omega
        have hki : (k : Int) < 64 := by omega
        have c0 : wr.cell? ⟨w.heap.size, k, none⟩ = some (.int .u8 (((padL 54 key k).getD k 0).toNat : Int)) := by
          rw [row_cell hS.h0, bvs, List.getElem?_map, List.getD, List.getElem?_eq_getElem (by rw [padL_length]; exact hlt)]; rfl
        have c1 : wr.cell? ⟨w.heap.size + 1, k, none⟩ = some (.int .u8 (((padL 92 key k).getD k 0).toNat : Int)) := by
          rw [row_cell hS.h1, bvs, List.getElem?_map, List.getD, List.getElem?_eq_getElem (by rw [padL_length]; exact hlt)]; rfl
        have z0 := row_free hS.h0 k
        have z1 := row_free hS.h1 k
        have hS1 := (hS.set0 k (.int .u8 54)).set1 k (.int .u8 92)
        have HLT := Lib.hid hlt
        by_cases hkk : k < key.size
        · have hkkb : decide ((k : Int) < (key.size : Int)) = true := by simp; omega
          have hkki : (k : Int) < (key.size : Int) := by omega
          clear hlt hS
          go_wp2_with fail
          generalize (wr.setCell ⟨w.heap.size, k, none⟩ (.int .u8 54)).setCell ⟨w.heap.size + 1, k, none⟩ (.int .u8 92) = w2 at *
          have hl5 : k < (bvs (padL 54 key k)).length := by rw [bvs_length, padL_length]; omega
          have hl9 : k < (bvs (padL 92 key k)).length := by rw [bvs_length, padL_length]; omega
          have d0 : w2.cell? ⟨w.heap.size, k, none⟩ = some (.int .u8 54) := by rw [row_cell hS1.h0]; simp [hl5]
          have d1 : w2.cell? ⟨w.heap.size + 1, k, none⟩ = some (.int .u8 92) := by rw [row_cell hS1.h1]; simp [hl9]
          have y0 := row_free hS1.h0 k
          have y1 := row_free hS1.h1 k
          have ki0 : (0 : Int) ≤ (k : Int) := by omega
          refine Lone.wp_region_order [(0, false), (1, false), (2, false), (3, false), (4, false), (5, false), (6, false), (7, false), (8, true)] (fun w' => w'.cell? ⟨w.heap.size, k, none⟩ = some (.int .u8 54) ∧ w'.frozen? ⟨w.heap.size, k, none⟩ = false) (by kernel_rfl) (by kernel_rfl) rfl (by kernel_rfl) (by intro _ _ d _ _ h; cases d <;> exact h) (⟨d0, y0⟩) ?_; simp only [List.map_cons, List.map_nil, List.getElem?_toArray, List.getElem?_cons_zero, List.getElem?_cons_succ, Option.getD_some]
          repeat (first | (refine Lone.ro_q (by rfl) (v := ?_) ?_ ?_; rotate_left; (focus (intro w' hSw; (try dsimp only at hSw); go_simp; try with_reducible rfl)); simp only [Act.put, List.setIfInBounds_toArray, List.set_cons_zero, List.set_cons_succ]) | (refine Lone.ro_skip (by rfl) ?_; simp only [Act.put, List.setIfInBounds_toArray, List.set_cons_zero, List.set_cons_succ]))
          (refine Lone.ro_loud (by rfl) (fun K hK => ?_); go_simp)
          (refine hK.out _ _ (fun _ => True) (.inr (by kernel_rfl)) (trivial) ?_; clear hK K; try simp only [Act.put, List.setIfInBounds_toArray, List.set_cons_zero, List.set_cons_succ])
          (refine Lone.ro_nil ?_; go_wp2_with fail)
          have hS2 := (hS1.set0 k (.int .u8 (bits .xor .u8 54 (key[k].toNat : Int)))).drew
          rw [pad_in54 key k hkk] at hS2
          generalize (w2.setCell ⟨w.heap.size, k, none⟩ (.int .u8 (bits .xor .u8 54 (key[k].toNat : Int)))).drew = w3 at *
          have x1 : w3.cell? ⟨w.heap.size + 1, k, none⟩ = some (.int .u8 92) := by rw [row_cell hS2.h1]; simp [hl9]
          have v1 := row_free hS2.h1 k
          clear d0 d1 y0 y1 hS1 hl5 hl9
          refine Lone.wp_region_order [(0, false), (1, false), (2, false), (3, false), (4, false), (5, false), (6, false), (7, false), (8, true)] (fun w' => w'.cell? ⟨w.heap.size + 1, k, none⟩ = some (.int .u8 92) ∧ w'.frozen? ⟨w.heap.size + 1, k, none⟩ = false) (by kernel_rfl) (by kernel_rfl) rfl (by kernel_rfl) (by intro _ _ d _ _ h; cases d <;> exact h) (⟨x1, v1⟩) ?_; simp only [List.map_cons, List.map_nil, List.getElem?_toArray, List.getElem?_cons_zero, List.getElem?_cons_succ, Option.getD_some]
          repeat (first | (refine Lone.ro_q (by rfl) (v := ?_) ?_ ?_; rotate_left; (focus (intro w' hSw; (try dsimp only at hSw); go_simp; try with_reducible rfl)); simp only [Act.put, List.setIfInBounds_toArray, List.set_cons_zero, List.set_cons_succ]) | (refine Lone.ro_skip (by rfl) ?_; simp only [Act.put, List.setIfInBounds_toArray, List.set_cons_zero, List.set_cons_succ]))
          (refine Lone.ro_loud (by rfl) (fun K hK => ?_); go_simp)
          (refine hK.out _ _ (fun _ => True) (.inr (by kernel_rfl)) (trivial) ?_; clear hK K; try simp only [Act.put, List.setIfInBounds_toArray, List.set_cons_zero, List.set_cons_succ])
          (refine Lone.ro_nil ?_; go_wp2_with fail)
          have hS3 := (hS2.set1 k (.int .u8 (bits .xor .u8 92 (key[k].toNat : Int)))).drew
          rw [pad_in92 key k hkk] at hS3
          go_roundw
          case rel => exact ⟨k + 1, by have := HLT.out; omega, rfl, hS3⟩
          case measure =>
            have := HLT.out
            simp [intOf]; omega
        · have hkkb : decide ((k : Int) < (key.size : Int)) = false := by simp; omega
          have hkki : (key.size : Int) ≤ (k : Int) := by omega
          have hS3 := hS1
          rw [pad_out54 key k hkk, pad_out92 key k hkk] at hS3
          clear hlt hS hS1 hkk
          go_wp2_with fail
          go_roundw
          case rel => exact ⟨k + 1, by have := HLT.out; omega, rfl, hS3⟩
          case measure =>
            have := HLT.out
            simp [intOf]; omega
      · have h64 : k = 64 := by omega
        subst h64
        clear hk hlt
        have hkb : decide (((64 : Nat) : Int) < 64) = false := by decide
        have HP0 := Lib.hid (padS_size 54 key)
        have HP1 := Lib.hid (padS_size 92 key)
        have hz0 : (padS 54 key).size ≤ 64 := by rw [padS_size]; exact Nat.le_refl _
        have hz1 : (padS 92 key).size ≤ 64 := by rw [padS_size]; exact Nat.le_refl _
        have hz2 : (sumF (padS 54 key ++ b)).size ≤ 32 := by rw [sumF_size]; exact Nat.le_refl _
        have hs1 : (padS 54 key).size + b.size ≤ 9223372036854775807 := by omega
        have hs2 : (padS 92 key).size + (sumF (padS 54 key ++ b)).size ≤ 9223372036854775807 := by omega
        have HK0 := Lib.hid (fun (w' : World) (h : w'.heap[w.heap.size]? = some (.cells (bvs (padL 54 key 64)).toArray 88 (0, 0))) => run_bytes_string Tryd.underlying69 Tryd.underlying5 Tryd.underlying9 (rd_of_row h (padL_length 54 key 64)))
        have HK1 := Lib.hid (fun (w' : World) (h : w'.heap[w.heap.size + 1]? = some (.cells (bvs (padL 92 key 64)).toArray 88 (0, 0))) => run_bytes_string Tryd.underlying69 Tryd.underlying5 Tryd.underlying9 (rd_of_row h (padL_length 92 key 64)))
        have HSW := Lib.hid hS.drew
        have hh0 := hS.drew.h0
        have hh1 := hS.drew.h1
        clear hS
        go_wp2_with fail
        refine Lone.wp_region_order [(0, false), (1, false), (2, false), (3, false), (4, false), (5, false), (6, true), (7, false), (8, true), (9, false)] (fun w' => w'.heap[w.heap.size]? = some (.cells (bvs (padL 54 key 64)).toArray 88 (0, 0)) ∧ w'.heap[w.heap.size + 1]? = some (.cells (bvs (padL 92 key 64)).toArray 88 (0, 0))) (by kernel_rfl) (by kernel_rfl) rfl (by kernel_rfl) (by intro _ _ d _ _ h; cases d <;> exact h) (⟨hh0, hh1⟩) ?_; simp only [List.map_cons, List.map_nil, List.getElem?_toArray, List.getElem?_cons_zero, List.getElem?_cons_succ, Option.getD_some]
        repeat (first | (refine Lone.ro_q (by rfl) (v := ?_) ?_ ?_; rotate_left; (focus (intro w' hSw; (try dsimp only at hSw); go_simp; try with_reducible rfl)); simp only [Act.put, List.setIfInBounds_toArray, List.set_cons_zero, List.set_cons_succ]) | (refine Lone.ro_skip (by rfl) ?_; simp only [Act.put, List.setIfInBounds_toArray, List.set_cons_zero, List.set_cons_succ]))
        refine Lone.ro_q (by rfl) (v := .string (padS 92 key)) ?_ ?_
        · intro w' hSw
          have hk := HK1.out w' hSw.2
          simp only [execOp, Act.eval, List.getElem?_toArray, List.getElem?_cons_zero, List.getElem?_cons_succ, Array.getD_eq_getD_getElem?, Option.getD_some, Sem.run_bind, hk, Result.andThen, Sem.run_pure]
          rfl
        simp only [Act.put, List.setIfInBounds_toArray, List.set_cons_zero, List.set_cons_succ]
        repeat (first | (refine Lone.ro_q (by rfl) (v := ?_) ?_ ?_; rotate_left; (focus (intro w' hSw; (try dsimp only at hSw); go_simp; try with_reducible rfl)); simp only [Act.put, List.setIfInBounds_toArray, List.set_cons_zero, List.set_cons_succ]) | (refine Lone.ro_skip (by rfl) ?_; simp only [Act.put, List.setIfInBounds_toArray, List.set_cons_zero, List.set_cons_succ]))
        refine Lone.ro_q (by rfl) (v := .string (padS 54 key)) ?_ ?_
        · intro w' hSw
          have hk := HK0.out w' hSw.1
          simp only [execOp, Act.eval, List.getElem?_toArray, List.getElem?_cons_zero, List.getElem?_cons_succ, Array.getD_eq_getD_getElem?, Option.getD_some, Sem.run_bind, hk, Result.andThen, Sem.run_pure]
          rfl
        simp only [Act.put, List.setIfInBounds_toArray, List.set_cons_zero, List.set_cons_succ]
        repeat (first | (refine Lone.ro_q (by rfl) (v := ?_) ?_ ?_; rotate_left; (focus (intro w' hSw; (try dsimp only at hSw); go_simp; try with_reducible rfl)); simp only [Act.put, List.setIfInBounds_toArray, List.set_cons_zero, List.set_cons_succ]) | (refine Lone.ro_skip (by rfl) ?_; simp only [Act.put, List.setIfInBounds_toArray, List.set_cons_zero, List.set_cons_succ]))
        refine Lone.ro_q (by rfl) (v := .string (padS 54 key ++ b)) ?_ ?_
        · intro w' hSw
          go_simp
        simp only [Act.put, List.setIfInBounds_toArray, List.set_cons_zero, List.set_cons_succ]
        (refine Lone.ro_loud (by rfl) (fun K hK => ?_); go_simp)
        refine (sum_any (padS 54 key ++ b) _ (HT.out.below HSW.out.bel)).mono ?_
        rintro e w5 ⟨rfl, hb5⟩
        have j0 := blk_below hh0 hb5
        have j1 := blk_below hh1 hb5
        have HB5 := Lib.hid (HSW.out.bel.trans (hb5.mono HSW.out.bel.size))
        clear hb5
        (refine hK.out _ _ (fun w' => w'.heap[w.heap.size]? = some (.cells (bvs (padL 54 key 64)).toArray 88 (0, 0)) ∧ w'.heap[w.heap.size + 1]? = some (.cells (bvs (padL 92 key 64)).toArray 88 (0, 0))) (.inl fun _ h => h) (⟨j0, j1⟩) ?_; clear hK K; try simp only [Act.put, List.setIfInBounds_toArray, List.set_cons_zero, List.set_cons_succ])
        repeat (first | (refine Lone.ro_q (by rfl) (v := ?_) ?_ ?_; rotate_left; (focus (intro w' hSw; (try dsimp only at hSw); go_simp; try with_reducible rfl)); simp only [Act.put, List.setIfInBounds_toArray, List.set_cons_zero, List.set_cons_succ]) | (refine Lone.ro_skip (by rfl) ?_; simp only [Act.put, List.setIfInBounds_toArray, List.set_cons_zero, List.set_cons_succ]))
        refine Lone.ro_q (by rfl) (v := .string (padS 92 key ++ sumF (padS 54 key ++ b))) ?_ ?_
        · intro w' hSw
          go_simp
        simp only [Act.put, List.setIfInBounds_toArray, List.set_cons_zero, List.set_cons_succ]
        (refine Lone.ro_loud (by rfl) (fun K hK => ?_); go_simp)
        refine (sum_any (padS 92 key ++ sumF (padS 54 key ++ b)) _ (HT.out.below HB5.out)).mono ?_
        rintro e w6 ⟨rfl, hb6⟩
        have l0 := blk_below j0 hb6
        have l1 := blk_below j1 hb6
        have HB6 := Lib.hid (HB5.out.trans (hb6.mono HB5.out.size))
        clear hb6
        (refine hK.out _ _ (fun w' => w'.heap[w.heap.size]? = some (.cells (bvs (padL 54 key 64)).toArray 88 (0, 0)) ∧ w'.heap[w.heap.size + 1]? = some (.cells (bvs (padL 92 key 64)).toArray 88 (0, 0))) (.inl fun _ h => h) (⟨l0, l1⟩) ?_; clear hK K; try simp only [Act.put, List.setIfInBounds_toArray, List.set_cons_zero, List.set_cons_succ])
        repeat (first | (refine Lone.ro_q (by rfl) (v := ?_) ?_ ?_; rotate_left; (focus (intro w' hSw; (try dsimp only at hSw); go_simp; try with_reducible rfl)); simp only [Act.put, List.setIfInBounds_toArray, List.set_cons_zero, List.set_cons_succ]) | (refine Lone.ro_skip (by rfl) ?_; simp only [Act.put, List.setIfInBounds_toArray, List.set_cons_zero, List.set_cons_succ]))
        (refine Lone.ro_nil ?_; go_wp2_with fail)
        go_ret
        exact ⟨rfl, HB6.out⟩
  · have hkn : keyN key = sumF key := by unfold keyN; rw [if_neg hkl]
    have hF : sealF key b = sumF (padS 92 (sumF key) ++ sumF (padS 54 (sumF key) ++ b)) := by unfold sealF; rw [hkn]
    obtain ⟨kk, hkk⟩ : ∃ kk, kk = sumF key := ⟨_, rfl⟩
    rw [hF, ← hkk]
    have HKK := Lib.hid hkk
    clear hkn hF hkk
    have hkg : (64 : Int) < (key.size : Int) := by omega
    clear hkl
    go_enter Tryd.func17, Tryd.ntmps17
    go_wp2_with fail
    refine (sum_any key _ HT.out).mono ?_
    rintro e w1 ⟨rfl, hb1⟩
    have HB1 := Lib.hid hb1
    have hw1 := hb1.size
    clear hb1
    rw [← HKK.out]
    go_wp2_with fail
    have hS0 : SealW w ((w1.alloc (.cells (bvs (padL 54 kk 0)).toArray 88)).alloc (.cells (bvs (padL 92 kk 0)).toArray 88)) w1.heap.size (bvs (padL 54 kk 0)) (bvs (padL 92 kk 0)) :=
      ⟨by rw [Below.heap_alloc _ _ _ (by simp)]; exact heap_alloc_new _ _, by have := heap_alloc_new (w1.alloc (.cells (bvs (padL 54 kk 0)).toArray 88)) (.cells (bvs (padL 92 kk 0)).toArray 88); simpa using this, hw1, (HB1.out.alloc hw1 _).alloc (Nat.le_trans hw1 (by simp)) _⟩
    go_loopw [13] (fun v wr => ∃ k : Nat, k ≤ 64 ∧ v = .int .i64 k ∧ SealW w wr w1.heap.size (bvs (padL 54 kk k)) (bvs (padL 92 kk k))) (fun v _ => 64 - (intOf v).toNat)
    case atStart => exact ⟨0, by omega, rfl, hS0⟩
    case round =>
      clear hS0
      obtain ⟨k, hk, rfl, hS⟩ := hrel
      by_cases hlt : k < 64
      · have hkb : decide ((k : Int) < 64) = true := by simp; omega
        have hki : (k : Int) < 64 := by omega
        have c0 : wr.cell? ⟨w1.heap.size, k, none⟩ = some (.int .u8 (((padL 54 kk k).getD k 0).toNat : Int)) := by
          rw [row_cell hS.h0, bvs, List.getElem?_map, List.getD, List.getElem?_eq_getElem (by rw [padL_length]; exact hlt)]; rfl
        have c1 : wr.cell? ⟨w1.heap.size + 1, k, none⟩ = some (.int .u8 (((padL 92 kk k).getD k 0).toNat : Int)) := by
          rw [row_cell hS.h1, bvs, List.getElem?_map, List.getD, List.getElem?_eq_getElem (by rw [padL_length]; exact hlt)]; rfl
        have z0 := row_free hS.h0 k
        have z1 := row_free hS.h1 k
        have hS1 := (hS.set0 k (.int .u8 54)).set1 k (.int .u8 92)
        have HLT := Lib.hid hlt
        by_cases hkk : k < kk.size
        · have hkkb : decide ((k : Int) < (kk.size : Int)) = true := by simp; omega
          have hkki : (k : Int) < (kk.size : Int) := by omega
          clear hlt hS
          go_wp2_with fail
          generalize (wr.setCell ⟨w1.heap.size, k, none⟩ (.int .u8 54)).setCell ⟨w1.heap.size + 1, k, none⟩ (.int .u8 92) = w2 at *
          have hl5 : k < (bvs (padL 54 kk k)).length := by rw [bvs_length, padL_length]; omega
          have hl9 : k < (bvs (padL 92 kk k)).length := by rw [bvs_length, padL_length]; omega
          have d0 : w2.cell? ⟨w1.heap.size, k, none⟩ = some (.int .u8 54) := by rw [row_cell hS1.h0]; simp [hl5]
          have d1 : w2.cell? ⟨w1.heap.size + 1, k, none⟩ = some (.int .u8 92) := by rw [row_cell hS1.h1]; simp [hl9]
          have y0 := row_free hS1.h0 k
          have y1 := row_free hS1.h1 k
          have ki0 : (0 : Int) ≤ (k : Int) := by omega
          refine Lone.wp_region_order [(0, false), (1, false), (2, false), (3, false), (4, false), (5, false), (6, false), (7, false), (8, true)] (fun w' => w'.cell? ⟨w1.heap.size, k, none⟩ = some (.int .u8 54) ∧ w'.frozen? ⟨w1.heap.size, k, none⟩ = false) (by kernel_rfl) (by kernel_rfl) rfl (by kernel_rfl) (by intro _ _ d _ _ h; cases d <;> exact h) (⟨d0, y0⟩) ?_; simp only [List.map_cons, List.map_nil, List.getElem?_toArray, List.getElem?_cons_zero, List.getElem?_cons_succ, Option.getD_some]
          repeat (first | (refine Lone.ro_q (by rfl) (v := ?_) ?_ ?_; rotate_left; (focus (intro w' hSw; (try dsimp only at hSw); go_simp; try with_reducible rfl)); simp only [Act.put, List.setIfInBounds_toArray, List.set_cons_zero, List.set_cons_succ]) | (refine Lone.ro_skip (by rfl) ?_; simp only [Act.put, List.setIfInBounds_toArray, List.set_cons_zero, List.set_cons_succ]))
          (refine Lone.ro_loud (by rfl) (fun K hK => ?_); go_simp)
          (refine hK.out _ _ (fun _ => True) (.inr (by kernel_rfl)) (trivial) ?_; clear hK K; try simp only [Act.put, List.setIfInBounds_toArray, List.set_cons_zero, List.set_cons_succ])
          (refine Lone.ro_nil ?_; go_wp2_with fail)
          have hS2 := (hS1.set0 k (.int .u8 (bits .xor .u8 54 (kk[k].toNat : Int)))).drew
          rw [pad_in54 kk k hkk] at hS2
          generalize (w2.setCell ⟨w1.heap.size, k, none⟩ (.int .u8 (bits .xor .u8 54 (kk[k].toNat : Int)))).drew = w3 at *
          have x1 : w3.cell? ⟨w1.heap.size + 1, k, none⟩ = some (.int .u8 92) := by rw [row_cell hS2.h1]; simp [hl9]
          have v1 := row_free hS2.h1 k
          clear d0 d1 y0 y1 hS1 hl5 hl9
          refine Lone.wp_region_order [(0, false), (1, false), (2, false), (3, false), (4, false), (5, false), (6, false), (7, false), (8, true)] (fun w' => w'.cell? ⟨w1.heap.size + 1, k, none⟩ = some (.int .u8 92) ∧ w'.frozen? ⟨w1.heap.size + 1, k, none⟩ = false) (by kernel_rfl) (by kernel_rfl) rfl (by kernel_rfl) (by intro _ _ d _ _ h; cases d <;> exact h) (⟨x1, v1⟩) ?_; simp only [List.map_cons, List.map_nil, List.getElem?_toArray, List.getElem?_cons_zero, List.getElem?_cons_succ, Option.getD_some]
          repeat (first | (refine Lone.ro_q (by rfl) (v := ?_) ?_ ?_; rotate_left; (focus (intro w' hSw; (try dsimp only at hSw); go_simp; try with_reducible rfl)); simp only [Act.put, List.setIfInBounds_toArray, List.set_cons_zero, List.set_cons_succ]) | (refine Lone.ro_skip (by rfl) ?_; simp only [Act.put, List.setIfInBounds_toArray, List.set_cons_zero, List.set_cons_succ]))
          (refine Lone.ro_loud (by rfl) (fun K hK => ?_); go_simp)
          (refine hK.out _ _ (fun _ => True) (.inr (by kernel_rfl)) (trivial) ?_; clear hK K; try simp only [Act.put, List.setIfInBounds_toArray, List.set_cons_zero, List.set_cons_succ])
          (refine Lone.ro_nil ?_; go_wp2_with fail)
          have hS3 := (hS2.set1 k (.int .u8 (bits .xor .u8 92 (kk[k].toNat : Int)))).drew
          rw [pad_in92 kk k hkk] at hS3
          go_roundw
          case rel => exact ⟨k + 1, by have := HLT.out; omega, rfl, hS3⟩
          case measure =>
            have := HLT.out
            simp [intOf]; omega
        · have hkkb : decide ((k : Int) < (kk.size : Int)) = false := by simp; omega
          have hkki : (kk.size : Int) ≤ (k : Int) := by omega
          have hS3 := hS1
          rw [pad_out54 kk k hkk, pad_out92 kk k hkk] at hS3
          clear hlt hS hS1 hkk
          go_wp2_with fail
          go_roundw
          case rel => exact ⟨k + 1, by have := HLT.out; omega, rfl, hS3⟩
          case measure =>
            have := HLT.out
            simp [intOf]; omega
      · have h64 : k = 64 := by omega
        subst h64
        clear hk hlt
        have hkb : decide (((64 : Nat) : Int) < 64) = false := by decide
        have HP0 := Lib.hid (padS_size 54 kk)
        have HP1 := Lib.hid (padS_size 92 kk)
        have hz0 : (padS 54 kk).size ≤ 64 := by rw [padS_size]; exact Nat.le_refl _
        have hz1 : (padS 92 kk).size ≤ 64 := by rw [padS_size]; exact Nat.le_refl _
        have hz2 : (sumF (padS 54 kk ++ b)).size ≤ 32 := by rw [sumF_size]; exact Nat.le_refl _
        have hs1 : (padS 54 kk).size + b.size ≤ 9223372036854775807 := by omega
        have hs2 : (padS 92 kk).size + (sumF (padS 54 kk ++ b)).size ≤ 9223372036854775807 := by omega
        have HK0 := Lib.hid (fun (w' : World) (h : w'.heap[w1.heap.size]? = some (.cells (bvs (padL 54 kk 64)).toArray 88 (0, 0))) => run_bytes_string Tryd.underlying69 Tryd.underlying5 Tryd.underlying9 (rd_of_row h (padL_length 54 kk 64)))
        have HK1 := Lib.hid (fun (w' : World) (h : w'.heap[w1.heap.size + 1]? = some (.cells (bvs (padL 92 kk 64)).toArray 88 (0, 0))) => run_bytes_string Tryd.underlying69 Tryd.underlying5 Tryd.underlying9 (rd_of_row h (padL_length 92 kk 64)))
        have HSW := Lib.hid hS.drew
        have hh0 := hS.drew.h0
        have hh1 := hS.drew.h1
        clear hS
        go_wp2_with fail
        refine Lone.wp_region_order [(0, false), (1, false), (2, false), (3, false), (4, false), (5, false), (6, true), (7, false), (8, true), (9, false)] (fun w' => w'.heap[w1.heap.size]? = some (.cells (bvs (padL 54 kk 64)).toArray 88 (0, 0)) ∧ w'.heap[w1.heap.size + 1]? = some (.cells (bvs (padL 92 kk 64)).toArray 88 (0, 0))) (by kernel_rfl) (by kernel_rfl) rfl (by kernel_rfl) (by intro _ _ d _ _ h; cases d <;> exact h) (⟨hh0, hh1⟩) ?_; simp only [List.map_cons, List.map_nil, List.getElem?_toArray, List.getElem?_cons_zero, List.getElem?_cons_succ, Option.getD_some]
        repeat (first | (refine Lone.ro_q (by rfl) (v := ?_) ?_ ?_; rotate_left; (focus (intro w' hSw; (try dsimp only at hSw); go_simp; try with_reducible rfl)); simp only [Act.put, List.setIfInBounds_toArray, List.set_cons_zero, List.set_cons_succ]) | (refine Lone.ro_skip (by rfl) ?_; simp only [Act.put, List.setIfInBounds_toArray, List.set_cons_zero, List.set_cons_succ]))
        refine Lone.ro_q (by rfl) (v := .string (padS 92 kk)) ?_ ?_
        · intro w' hSw
          have hk := HK1.out w' hSw.2
          simp only [execOp, Act.eval, List.getElem?_toArray, List.getElem?_cons_zero, List.getElem?_cons_succ, Array.getD_eq_getD_getElem?, Option.getD_some, Sem.run_bind, hk, Result.andThen, Sem.run_pure]
          rfl
        simp only [Act.put, List.setIfInBounds_toArray, List.set_cons_zero, List.set_cons_succ]
        repeat (first | (refine Lone.ro_q (by rfl) (v := ?_) ?_ ?_; rotate_left; (focus (intro w' hSw; (try dsimp only at hSw); go_simp; try with_reducible rfl)); simp only [Act.put, List.setIfInBounds_toArray, List.set_cons_zero, List.set_cons_succ]) | (refine Lone.ro_skip (by rfl) ?_; simp only [Act.put, List.setIfInBounds_toArray, List.set_cons_zero, List.set_cons_succ]))
        refine Lone.ro_q (by rfl) (v := .string (padS 54 kk)) ?_ ?_
        · intro w' hSw
          have hk := HK0.out w' hSw.1
          simp only [execOp, Act.eval, List.getElem?_toArray, List.getElem?_cons_zero, List.getElem?_cons_succ, Array.getD_eq_getD_getElem?, Option.getD_some, Sem.run_bind, hk, Result.andThen, Sem.run_pure]
          rfl
        simp only [Act.put, List.setIfInBounds_toArray, List.set_cons_zero, List.set_cons_succ]
        repeat (first | (refine Lone.ro_q (by rfl) (v := ?_) ?_ ?_; rotate_left; (focus (intro w' hSw; (try dsimp only at hSw); go_simp; try with_reducible rfl)); simp only [Act.put, List.setIfInBounds_toArray, List.set_cons_zero, List.set_cons_succ]) | (refine Lone.ro_skip (by rfl) ?_; simp only [Act.put, List.setIfInBounds_toArray, List.set_cons_zero, List.set_cons_succ]))
        refine Lone.ro_q (by rfl) (v := .string (padS 54 kk ++ b)) ?_ ?_
        · intro w' hSw
          go_simp
        simp only [Act.put, List.setIfInBounds_toArray, List.set_cons_zero, List.set_cons_succ]
        (refine Lone.ro_loud (by rfl) (fun K hK => ?_); go_simp)
        refine (sum_any (padS 54 kk ++ b) _ (HT.out.below HSW.out.bel)).mono ?_
        rintro e w5 ⟨rfl, hb5⟩
        have j0 := blk_below hh0 hb5
        have j1 := blk_below hh1 hb5
        have HB5 := Lib.hid (HSW.out.bel.trans (hb5.mono HSW.out.bel.size))
        clear hb5
        (refine hK.out _ _ (fun w' => w'.heap[w1.heap.size]? = some (.cells (bvs (padL 54 kk 64)).toArray 88 (0, 0)) ∧ w'.heap[w1.heap.size + 1]? = some (.cells (bvs (padL 92 kk 64)).toArray 88 (0, 0))) (.inl fun _ h => h) (⟨j0, j1⟩) ?_; clear hK K; try simp only [Act.put, List.setIfInBounds_toArray, List.set_cons_zero, List.set_cons_succ])
        repeat (first | (refine Lone.ro_q (by rfl) (v := ?_) ?_ ?_; rotate_left; (focus (intro w' hSw; (try dsimp only at hSw); go_simp; try with_reducible rfl)); simp only [Act.put, List.setIfInBounds_toArray, List.set_cons_zero, List.set_cons_succ]) | (refine Lone.ro_skip (by rfl) ?_; simp only [Act.put, List.setIfInBounds_toArray, List.set_cons_zero, List.set_cons_succ]))
        refine Lone.ro_q (by rfl) (v := .string (padS 92 kk ++ sumF (padS 54 kk ++ b))) ?_ ?_
        · intro w' hSw
          go_simp
        simp only [Act.put, List.setIfInBounds_toArray, List.set_cons_zero, List.set_cons_succ]
        (refine Lone.ro_loud (by rfl) (fun K hK => ?_); go_simp)
        refine (sum_any (padS 92 kk ++ sumF (padS 54 kk ++ b)) _ (HT.out.below HB5.out)).mono ?_
        rintro e w6 ⟨rfl, hb6⟩
        have l0 := blk_below j0 hb6
        have l1 := blk_below j1 hb6
        have HB6 := Lib.hid (HB5.out.trans (hb6.mono HB5.out.size))
        clear hb6
        (refine hK.out _ _ (fun w' => w'.heap[w1.heap.size]? = some (.cells (bvs (padL 54 kk 64)).toArray 88 (0, 0)) ∧ w'.heap[w1.heap.size + 1]? = some (.cells (bvs (padL 92 kk 64)).toArray 88 (0, 0))) (.inl fun _ h => h) (⟨l0, l1⟩) ?_; clear hK K; try simp only [Act.put, List.setIfInBounds_toArray, List.set_cons_zero, List.set_cons_succ])
        repeat (first | (refine Lone.ro_q (by rfl) (v := ?_) ?_ ?_; rotate_left; (focus (intro w' hSw; (try dsimp only at hSw); go_simp; try with_reducible rfl)); simp only [Act.put, List.setIfInBounds_toArray, List.set_cons_zero, List.set_cons_succ]) | (refine Lone.ro_skip (by rfl) ?_; simp only [Act.put, List.setIfInBounds_toArray, List.set_cons_zero, List.set_cons_succ]))
        (refine Lone.ro_nil ?_; go_wp2_with fail)
        go_ret
        exact ⟨rfl, HB6.out⟩

end Go.Proofs.YtmacceamebdelaaDoor
/-! SumAbc -/
namespace Go.Proofs.YtmacceamebdelaaDoor
set_option maxRecDepth 1000000 in
theorem abc4 : ((sumF ⟨#[97, 98, 99]⟩).extract 0 4).data.toList = [0xba, 0x78, 0x16, 0xbf] := by kernel_rfl
end Go.Proofs.YtmacceamebdelaaDoor
/-! SumHex -/
namespace Go.Proofs.YtmacceamebdelaaDoor
open Go.RowKit
set_option linter.unusedVariables false
set_option linter.unusedSimpArgs false

def ds : ByteArray := ⟨#[48, 49, 50, 51, 52, 53, 54, 55, 56, 57, 97, 98, 99, 100, 101, 102]⟩
def dg (n : Nat) : UInt8 := ds.data.toList.getD n 0
theorem run_dig (w : World) (n : Nat) (h : n < 16) : (Instr.index 9 (.string ⟨#[48, 49, 50, 51, 52, 53, 54, 55, 56, 57, 97, 98, 99, 100, 101, 102]⟩) (.int .u8 (n : Int))).run Tryd.prog w = .ok (.int .u8 ((dg n).toNat : Int)) w := by
  have hn : (n : Int) < 16 := by omega
  have h0 : (0 : Int) ≤ (n : Int) := by omega
  have hd : (ds[n]'h).toNat = (dg n).toNat := by
    have : dg n = ds[n]'h := by
      show ds.data.toList.getD n 0 = _
      rw [List.getD, List.getElem?_eq_getElem (by exact h)]; rfl
    rw [this]
  have e : (⟨#[48, 49, 50, 51, 52, 53, 54, 55, 56, 57, 97, 98, 99, 100, 101, 102]⟩ : ByteArray) = ds := rfl
  have hsz : ds.size = 16 := rfl
  have hl : (n : Int) < (ds.size : Int) := by rw [hsz]; omega
  have hln : n < ds.size := h
  rw [e]
  simp [Instr.index, run_underlying Tryd.underlying9, asIntOf, hl, hln, h0, go_sem]
  exact congrArg (fun x : Nat => (x : Int)) hd
/-- The digits of bytes. -/
def hexL (l : List UInt8) : List UInt8 := l.flatMap fun c => [dg (c.toNat / 16), dg (c.toNat % 16)]

def hexF (b : ByteArray) : ByteArray := ⟨(hexL b.data.toList).toArray⟩
theorem hexL_step (l : List UInt8) (k : Nat) (h : k < l.length) : hexL (l.take (k + 1)) = hexL (l.take k) ++ [dg ((l.getD k 0).toNat / 16), dg ((l.getD k 0).toNat % 16)] := by
  rw [List.take_add_one, List.getElem?_eq_getElem h, List.getD, List.getElem?_eq_getElem h]
  show List.flatMap _ (l.take k ++ [l[k]]) = _
  rw [List.flatMap_append]
  rfl

end Go.Proofs.YtmacceamebdelaaDoor
/-! SumAbcWalk -/
namespace Go.Proofs.YtmacceamebdelaaDoor
open Go.RowKit
set_option linter.unusedVariables false
set_option linter.unusedSimpArgs false

end Go.Proofs.YtmacceamebdelaaDoor
/-! SumSealed -/
namespace Go.Proofs.YtmacceamebdelaaDoor
open Go.RowKit
set_option linter.unusedVariables false
set_option linter.unusedSimpArgs false

theorem keyN_keyN (key : ByteArray) : keyN (keyN key) = keyN key := by
  have h := keyN_size key
  rw [show keyN (keyN key) = if (keyN key).size ≤ 64 then keyN key else sumF (keyN key) from rfl, if_pos h]
theorem sealF_keyN (key b : ByteArray) : sealF (keyN key) b = sealF key b := by unfold sealF; rw [keyN_keyN]
theorem sealF_size (key b : ByteArray) : (sealF key b).size = 32 := sumF_size _
theorem padB_zero (c : UInt8) (key : ByteArray) (i : Nat) : padB c (key ++ ⟨#[0]⟩) i = padB c key i := by
  have hsz : (key ++ ⟨#[0]⟩ : ByteArray).size = key.size + 1 := ByteArray.size_append
  have hx : (key ++ ⟨#[0]⟩ : ByteArray).data.toList = key.data.toList ++ [0] := toList_append _ _
  unfold padB
  rw [hsz, hx]
  have hl := toList_length key
  by_cases h : i < key.size
  · rw [if_pos h, if_pos (by omega), List.getD, List.getD, List.getElem?_append_left (by omega)]
  · rw [if_neg h]
    by_cases h2 : i = key.size
    · rw [if_pos (by omega), List.getD, List.getElem?_append_right (by omega), hl, h2, Nat.sub_self]
      simp
    · rw [if_neg (by omega)]
theorem padL_zero (c : UInt8) (key : ByteArray) : ∀ n, padL c (key ++ ⟨#[0]⟩) n = padL c key n
  | 0 => rfl
  | n + 1 => by rw [padL, padL, padL_zero c key n, padB_zero]
theorem sealF_zero (key b : ByteArray) (h : key.size < 64) : sealF (key ++ ⟨#[0]⟩) b = sealF key b := by
  have hsz : (key ++ ⟨#[0]⟩ : ByteArray).size = key.size + 1 := ByteArray.size_append
  have h1 : keyN key = key := by unfold keyN; rw [if_pos (by omega)]
  have h2 : keyN (key ++ ⟨#[0]⟩) = key ++ ⟨#[0]⟩ := by unfold keyN; rw [if_pos (by omega)]
  unfold sealF padS
  rw [h1, h2, padL_zero, padL_zero]

end Go.Proofs.YtmacceamebdelaaDoor
