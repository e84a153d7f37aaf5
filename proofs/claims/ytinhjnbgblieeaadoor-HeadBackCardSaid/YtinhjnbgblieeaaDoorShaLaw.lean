/- What sum.block computes, in the walk's own spelling. -/
import Derived.Laws.Closers25b
import Derived.RowKit
namespace Go.Proofs.YtinhjnbgblieeaaDoor
open Go.RowKit
set_option linter.unusedVariables false
set_option linter.unusedSimpArgs false

def turnF (x n : Int) : Int := bits .or .u32 (x / 2 ^ n.toNat) (x * 2 ^ (32 - n.toNat) % 4294967296)
def u32s (xs : List Int) : List Value := xs.map (.int .u32)
/-- A number of 32 bits. -/
def isU (x : Int) : Prop := 0 ≤ x ∧ x < 4294967296
theorem isU_bits (op : BinOp) (a b : Int) : isU (bits op .u32 a b) := by
  have h1 := bits_lo_u32 op a b
  have h2 := bits_hi_u32 op a b
  exact ⟨h1, by omega⟩
theorem isU_turn (x n : Int) : isU (turnF x n) := isU_bits _ _ _
theorem isU_mod (x : Int) : isU (x % 4294967296) := ⟨Int.emod_nonneg _ (by decide), Int.emod_lt_of_pos _ (by decide)⟩
theorem u32s_length (xs : List Int) : (u32s xs).length = xs.length := by simp [u32s]
theorem u32s_get {xs : List Int} {i : Nat} (h : i < xs.length) : (u32s xs)[i]? = some (.int .u32 (xs.getD i 0)) := by
  simp [u32s, List.getD, List.getElem?_eq_getElem h]
theorem u32s_set (xs : List Int) (i : Nat) (v : Int) : u32s (xs.set i v) = (u32s xs).set i (.int .u32 v) := by simp [u32s, List.map_set]

/-- Eight heads. -/
structure Hd where
  a : Int
  b : Int
  c : Int
  d : Int
  e : Int
  f : Int
  g : Int
  h : Int
def Hd.ok (x : Hd) : Prop := isU x.a ∧ isU x.b ∧ isU x.c ∧ isU x.d ∧ isU x.e ∧ isU x.f ∧ isU x.g ∧ isU x.h
def Hd.list (x : Hd) : List Int := [x.a, x.b, x.c, x.d, x.e, x.f, x.g, x.h]
/-- Heads as the value of an array. -/
def hdV (x : Hd) : Value := .agg #[.int .u32 x.a, .int .u32 x.b, .int .u32 x.c, .int .u32 x.d, .int .u32 x.e, .int .u32 x.f, .int .u32 x.g, .int .u32 x.h]

def byteI (b : ByteArray) (i : Nat) : Int := ((b.data.toList.getD i 0).toNat : Int)
/-- Word i of a block. -/
def word0 (b : ByteArray) (i : Nat) : Int :=
  bits .or .u32 (bits .or .u32 (bits .or .u32 (byteI b (4 * i) % 4294967296 * 16777216 % 4294967296) (byteI b (4 * i + 1) % 4294967296 * 65536 % 4294967296)) (byteI b (4 * i + 2) % 4294967296 * 256 % 4294967296)) (byteI b (4 * i + 3) % 4294967296)
def wsA (b : ByteArray) : Nat → List Int
  | 0 => List.replicate 64 0
  | i + 1 => (wsA b i).set i (word0 b i)
/-- Word j + 16 out of those ahead of it. -/
def sched (ws : List Int) (j : Nat) : Int :=
  (((ws.getD j 0 + bits .xor .u32 (bits .xor .u32 (turnF (ws.getD (j + 1) 0) 7) (turnF (ws.getD (j + 1) 0) 18)) (ws.getD (j + 1) 0 / 8)) % 4294967296 + ws.getD (j + 9) 0) % 4294967296
    + bits .xor .u32 (bits .xor .u32 (turnF (ws.getD (j + 14) 0) 17) (turnF (ws.getD (j + 14) 0) 19)) (ws.getD (j + 14) 0 / 1024)) % 4294967296
def wsB (b : ByteArray) : Nat → List Int
  | 0 => wsA b 16
  | j + 1 => (wsB b j).set (j + 16) (sched (wsB b j) j)
/-- The constants. -/
def shaK : List Int := [1116352408, 1899447441, 3049323471, 3921009573, 961987163, 1508970993, 2453635748, 2870763221, 3624381080, 310598401, 607225278, 1426881987, 1925078388, 2162078206, 2614888103, 3248222580, 3835390401, 4022224774, 264347078, 604807628, 770255983, 1249150122, 1555081692, 1996064986, 2554220882, 2821834349, 2952996808, 3210313671, 3336571891, 3584528711, 113926993, 338241895, 666307205, 773529912, 1294757372, 1396182291, 1695183700, 1986661051, 2177026350, 2456956037, 2730485921, 2820302411, 3259730800, 3345764771, 3516065817, 3600352804, 4094571909, 275423344, 430227734, 506948616, 659060556, 883997877, 958139571, 1322822218, 1537002063, 1747873779, 1955562222, 2024104815, 2227730452, 2361852424, 2428436474, 2756734187, 3204031479, 3329325298]
/-- One round of sixty-four. -/
def roundT (s : Hd) (k x : Int) : Int :=
  ((((s.h + bits .xor .u32 (bits .xor .u32 (turnF s.e 6) (turnF s.e 11)) (turnF s.e 25)) % 4294967296 + bits .xor .u32 (bits .and .u32 s.e s.f) (bits .and .u32 (bits .xor .u32 4294967295 s.e) s.g)) % 4294967296 + k) % 4294967296 + x) % 4294967296
def roundU (s : Hd) : Int :=
  (bits .xor .u32 (bits .xor .u32 (turnF s.a 2) (turnF s.a 13)) (turnF s.a 22) + bits .xor .u32 (bits .xor .u32 (bits .and .u32 s.a s.b) (bits .and .u32 s.a s.c)) (bits .and .u32 s.b s.c)) % 4294967296
def roundF (s : Hd) (k x : Int) : Hd := ⟨(roundT s k x + roundU s) % 4294967296, s.a, s.b, s.c, (s.d + roundT s k x) % 4294967296, s.e, s.f, s.g⟩
def rounds64 (b : ByteArray) (hd : Hd) : Nat → Hd
  | 0 => hd
  | i + 1 => roundF (rounds64 b hd i) (shaK.getD i 0) ((wsB b 48).getD i 0)
def addU (x y : Int) : Int := (x + y) % 4294967296
/-- The heads behind a block. -/
def blockF (hd : Hd) (b : ByteArray) : Hd :=
  let s := rounds64 b hd 64
  ⟨addU hd.a s.a, addU hd.b s.b, addU hd.c s.c, addU hd.d s.d, addU hd.e s.e, addU hd.f s.f, addU hd.g s.g, addU hd.h s.h⟩
theorem blockF_ok (hd : Hd) (b : ByteArray) : (blockF hd b).ok := ⟨isU_mod _, isU_mod _, isU_mod _, isU_mod _, isU_mod _, isU_mod _, isU_mod _, isU_mod _⟩
theorem isU_zero : isU 0 := by unfold isU; omega
theorem isU_word0 (b : ByteArray) (i : Nat) : isU (word0 b i) := isU_bits _ _ _
theorem isU_sched (ws : List Int) (j : Nat) : isU (sched ws j) := isU_mod _
def allU (xs : List Int) : Prop := ∀ i, isU (xs.getD i 0)
theorem allU_set {xs : List Int} (h : allU xs) (i : Nat) {v : Int} (hv : isU v) : allU (xs.set i v) := by
  intro j
  by_cases hij : i = j
  · subst hij
    by_cases hl : i < xs.length
    · simp [List.getD, hl]; exact hv
    · have := h i; simp [List.getD, List.getElem?_set, hl] at *; exact isU_zero
  · have := h j; simp [List.getD, List.getElem?_set_ne hij] at *; exact this
theorem allU_rep (n : Nat) : allU (List.replicate n 0) := by
  intro i
  by_cases h : i < n <;> simp [List.getD, List.getElem?_replicate, h] <;> exact isU_zero
theorem allU_A (b : ByteArray) : ∀ i, allU (wsA b i)
  | 0 => allU_rep 64
  | i + 1 => allU_set (allU_A b i) i (isU_word0 b i)
theorem allU_B (b : ByteArray) : ∀ j, allU (wsB b j)
  | 0 => allU_A b 16
  | j + 1 => allU_set (allU_B b j) _ (isU_sched _ _)
theorem rounds64_ok (b : ByteArray) (hd : Hd) (h : hd.ok) : ∀ i, (rounds64 b hd i).ok
  | 0 => h
  | i + 1 => by
    obtain ⟨ha, hb, hc, _, he, hf, hg, _⟩ := rounds64_ok b hd h i
    exact ⟨isU_mod _, ha, hb, hc, isU_mod _, he, hf, hg⟩
theorem wsA_length (b : ByteArray) : ∀ i, (wsA b i).length = 64
  | 0 => by simp [wsA]
  | i + 1 => by rw [wsA, List.length_set, wsA_length b i]
theorem wsB_length (b : ByteArray) : ∀ i, (wsB b i).length = 64
  | 0 => wsA_length b 16
  | i + 1 => by rw [wsB, List.length_set, wsB_length b i]
theorem byteI_eq (b : ByteArray) (i : Nat) (h : i < b.size) : (b[i].toNat : Int) = byteI b i := by
  have h' : i < b.data.toList.length := by rw [Array.length_toList]; exact h
  have e : b[i] = b.data.toList[i]'h' := rfl
  rw [byteI, List.getD, List.getElem?_eq_getElem h', e]; rfl
theorem word0_eq (b : ByteArray) (k q q1 q2 q3 : Nat) (hq : q = 4 * k ∧ q1 = q + 1 ∧ q2 = q + 2 ∧ q3 = q + 3) (l0 : q < b.size) (l1 : q1 < b.size) (l2 : q2 < b.size) (l3 : q3 < b.size) :
    bits .or .u32 (bits .or .u32 (bits .or .u32 ((b[q].toNat : Int) % 4294967296 * 16777216 % 4294967296) ((b[q1].toNat : Int) % 4294967296 * 65536 % 4294967296)) ((b[q2].toNat : Int) % 4294967296 * 256 % 4294967296)) ((b[q3].toNat : Int) % 4294967296) = word0 b k := by
  obtain ⟨rfl, rfl, rfl, rfl⟩ := hq
  rw [byteI_eq b _ l0, byteI_eq b _ l1, byteI_eq b _ l2, byteI_eq b _ l3]; rfl
end Go.Proofs.YtinhjnbgblieeaaDoor
