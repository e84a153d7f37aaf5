/- Texts put together: FirstE Bytes Num WireLaw Kit WireGet WirePut WireText WireWriter WireReader WireBytes WireRowsLaw Blk Heap Slice Region Region2 Strs Grow Contains ObjectLaw WrUse RdAid. -/
import Derived.Laws.Strings
import Derived.Laws.BitsAllLaws
import Derived.IntWalk
import Derived.RowKit
import Derived.WalkKit
import Derived.WalkSpells
import Derived.WalkLawsBesides
import Derived.Lib.Hide
import Derived.Lib.AppendStr
import Derived.Test.YtmacceamebdelaaDoorChecked
import Derived.Laws.Tables
import Derived.Laws.Rows
import Derived.OwnWalk
import Derived.OrdersHeld
import Derived.Deep.RegionHeld
import Derived.Shelf.GgClosure.StringsIndexFuncTop
/-! FirstE -/
namespace Go.Proofs.YtmacceamebdelaaDoor
def firstE (f : Nat → Int) : Nat → Nat → Int
  | _, 0 => 0
  | k, c + 1 => if f k ≠ 0 then f k else firstE f (k + 1) c
theorem firstE_at {f : Nat → Int} {k : Nat} (h0 : f k ≠ 0) : ∀ {c k0 : Nat}, k0 ≤ k → k < k0 + c → (∀ j, k0 ≤ j → j < k → f j = 0) → firstE f k0 c = f k
  | 0, k0, h1, h2, _ => by omega
  | c + 1, k0, h1, h2, h3 => by
    unfold firstE
    by_cases e : k0 = k
    · rw [e, if_pos h0]
    · rw [if_neg (fun h => h (h3 k0 (Nat.le_refl _) (by omega)))]
      exact firstE_at h0 (by omega) (by omega) (fun j a b => h3 j (by omega) b)
theorem firstE_all {f : Nat → Int} : ∀ {c k0 : Nat}, (∀ j, k0 ≤ j → j < k0 + c → f j = 0) → firstE f k0 c = 0
  | 0, _, _ => rfl
  | c + 1, k0, h => by
    unfold firstE
    rw [if_neg (fun e => e (h k0 (Nat.le_refl _) (by omega)))]
    exact firstE_all (fun j a b => h j (by omega) (by omega))
theorem firstE_zero {f : Nat → Int} : ∀ {c k0 : Nat}, firstE f k0 c = 0 → ∀ j, k0 ≤ j → j < k0 + c → f j = 0
  | 0, _, _, j, a, b => by omega
  | c + 1, k0, h, j, a, b => by
    unfold firstE at h
    by_cases e : f k0 = 0
    · rw [if_neg (fun k => k e)] at h
      by_cases ej : j = k0
      · rw [ej]; exact e
      · exact firstE_zero h j (by omega) (by omega)
    · rw [if_pos e] at h; exact absurd h e
end Go.Proofs.YtmacceamebdelaaDoor
/-! Bytes -/
namespace Go.Proofs.YtmacceamebdelaaDoor

theorem bs_ext {a b : ByteArray} (h : a.data.toList = b.data.toList) : a = b := by
  rw [ByteArray.ext_iff, ← Array.toList_inj]; exact h
theorem toList_append (a b : ByteArray) : (a ++ b).data.toList = a.data.toList ++ b.data.toList := by
  rw [ByteArray.data_append, Array.toList_append]
theorem toList_length (a : ByteArray) : a.data.toList.length = a.size := by rw [Array.length_toList]; rfl
theorem toList_extract (a : ByteArray) (i j : Nat) : (a.extract i j).data.toList = (a.data.toList.drop i).take (j - i) := by
  rw [ByteArray.data_extract, Array.toList_extract, List.extract_eq_take_drop]
theorem toList_take (a : ByteArray) (j : Nat) : (a.extract 0 j).data.toList = a.data.toList.take j := by
  rw [toList_extract]; simp
theorem toList_drop (a : ByteArray) (i : Nat) : (a.extract i a.size).data.toList = a.data.toList.drop i := by
  rw [toList_extract, List.take_of_length_le]; rw [List.length_drop, toList_length]; omega
theorem toList_mk (l : List UInt8) : (ByteArray.mk l.toArray).data.toList = l := rfl
theorem mk_toList (a : ByteArray) : (ByteArray.mk a.data.toList.toArray) = a := rfl
theorem isEmpty_false (a : ByteArray) (h : 0 < a.size) : a.toList.isEmpty = false := by
  rw [ByteArray.toList_eq]
  cases h' : a.data.toList with
  | nil => have := toList_length a; rw [h'] at this; simp at this; omega
  | cons _ _ => rfl
theorem isEmpty_true (a : ByteArray) (h : a.size = 0) : a.toList.isEmpty = true := by
  rw [ByteArray.toList_eq]
  cases h' : a.data.toList with
  | nil => rfl
  | cons _ _ => have := toList_length a; rw [h'] at this; simp at this; omega
theorem extract_append_left (a b : ByteArray) : (a ++ b).extract 0 a.size = a := by
  apply bs_ext; rw [toList_take, toList_append, List.take_left' (toList_length a)]
theorem extract_append_right (a b : ByteArray) : (a ++ b).extract a.size (a ++ b).size = b := by
  apply bs_ext; rw [toList_drop, toList_append, List.drop_left' (toList_length a)]

end Go.Proofs.YtmacceamebdelaaDoor
/-! Num -/
namespace Go.Proofs.YtmacceamebdelaaDoor
open Go.RowKit

theorem or_i64_nat (a b : Nat) (ha : a < 4611686018427387904) (hb : b < 4611686018427387904) :
    bits .or .i64 (a : Int) (b : Int) = ((a ||| b : Nat) : Int) := by
  have hx : a ||| b < 2 ^ 62 := Nat.or_lt_two_pow (by omega) (by omega)
  have h1 : (BitVec.ofInt 64 (a : Int)).toNat = a := by
    rw [BitVec.ofInt_natCast, BitVec.toNat_ofNat]; exact Nat.mod_eq_of_lt (by omega)
  have h2 : (BitVec.ofInt 64 (b : Int)).toNat = b := by
    rw [BitVec.ofInt_natCast, BitVec.toNat_ofNat]; exact Nat.mod_eq_of_lt (by omega)
  show IntKind.i64.wrap ((BitVec.ofInt 64 (a : Int) ||| BitVec.ofInt 64 (b : Int)).toNat : Int) = _
  rw [BitVec.toNat_or, h1, h2, IntKind.wrap_i64]
  omega

theorem and127 (c : Nat) (hc : c < 256) : bits .and .u8 (c : Int) 127 = ((c % 128 : Nat) : Int) := by
  have h := u8_and_nat c 127 hc (by omega)
  have e : c &&& 127 = c % 128 := Nat.and_two_pow_sub_one_eq_mod c 7
  rw [e] at h; exact h

theorem or128 (m : Nat) : bits .or .u8 ((m : Int) % 256) 128 = ((m % 128 + 128 : Nat) : Int) := by
  have h := u8_or_nat (m % 256) 128 (by omega) (by omega)
  have e : (m % 256 ||| 128) = m % 128 + 128 := by
    have : ∀ c, c < 256 → (c ||| 128) = c % 128 + 128 := by decide +kernel
    rw [this _ (by omega)]; omega
  rw [e] at h
  rw [← h]; congr 1

theorem pow128 (k : Nat) : 2 ^ (7 * k) = 128 ^ k := by
  rw [show (128 : Nat) = 2 ^ 7 from rfl, ← Nat.pow_mul]

theorem or_shift (m x k : Nat) (hm : m < 128 ^ k) : m ||| (x * 128 ^ k) = m + x * 128 ^ k := by
  rw [← pow128] at *
  rw [← Nat.shiftLeft_eq, Nat.or_comm, Nat.add_comm, Nat.shiftLeft_add_eq_or_of_lt hm]

theorem pow128_le (k : Nat) (hk : k ≤ 8) : 128 ^ k ≤ 72057594037927936 := by
  have : (128 : Nat) ^ k ≤ 128 ^ 8 := Nat.pow_le_pow_right (by omega) hk
  simpa using this

theorem acc_eq (k m c : Nat) (hk : k ≤ 8) (hm : m < 128 ^ k) (hc : c < 256) (h8 : k = 8 → c ≤ 63) :
    bits .or .i64 (m : Int) (wrap64 (wrap64 (bits .and .u8 (c : Int) 127) * 2 ^ (7 * k))) = ((m + (c % 128) * 128 ^ k : Nat) : Int) ∧ m + (c % 128) * 128 ^ k < 4611686018427387904 := by
  have hp := pow128_le k hk
  have hb : (c % 128) * 128 ^ k ≤ 4539628424389459968 := by
    by_cases h : k = 8
    · subst h; have := h8 rfl; have : (128 : Nat) ^ 8 = 72057594037927936 := by decide
      rw [this]; omega
    · have : (128 : Nat) ^ k ≤ 128 ^ 7 := Nat.pow_le_pow_right (by omega) (by omega)
      have e7 : (128 : Nat) ^ 7 = 562949953421312 := by decide
      have : (c % 128) * 128 ^ k ≤ 127 * 562949953421312 := Nat.mul_le_mul (by omega) (by omega)
      omega
  rw [and127 c hc]
  have e1 : wrap64 ((c % 128 : Nat) : Int) = ((c % 128 : Nat) : Int) := IntWalk.wrap64_in _ (by omega)
  have e2 : ((c % 128 : Nat) : Int) * 2 ^ (7 * k) = (((c % 128) * 128 ^ k : Nat) : Int) := by
    rw [← pow128]; simp
  rw [e1, e2, IntWalk.wrap64_in _ (by omega), or_i64_nat _ _ (by omega) (by omega), or_shift _ _ _ hm]
  exact ⟨rfl, by omega⟩

end Go.Proofs.YtmacceamebdelaaDoor
/-! WireLaw -/
namespace Go.Proofs.YtmacceamebdelaaDoor

/-- The encoding of a number. -/
def enc (n : Nat) : List UInt8 :=
  if n < 128 then [UInt8.ofNat n] else UInt8.ofNat (n % 128 + 128) :: enc (n / 128)
termination_by n
decreasing_by omega

/-- What Get reads, from place i on, with m read so far. -/
def getAux : Nat → List UInt8 → Nat → Option (Nat × Nat)
  | _, [], _ => none
  | i, c :: r, m => if 9 ≤ i then none else if i = 8 ∧ 63 < c.toNat then none else
      if c.toNat < 128 then (if 0 < i ∧ c.toNat = 0 then none else some (m + (c.toNat % 128) * 128 ^ i, i + 1))
      else getAux (i + 1) r (m + (c.toNat % 128) * 128 ^ i)

def get (l : List UInt8) : Option (Nat × Nat) := getAux 0 l 0

theorem enc_small (n : Nat) (h : n < 128) : enc n = [UInt8.ofNat n] := by rw [enc]; simp [h]
theorem enc_big (n : Nat) (h : ¬ n < 128) : enc n = UInt8.ofNat (n % 128 + 128) :: enc (n / 128) := by rw [enc]; simp [h]

theorem enc_pos (n : Nat) : 0 < (enc n).length := by
  by_cases h : n < 128
  · rw [enc_small n h]; simp
  · rw [enc_big n h]; simp

theorem toNat_ofNat (n : Nat) (h : n < 256) : (UInt8.ofNat n).toNat = n := by
  simp [UInt8.toNat_ofNat']; omega

theorem ofNat_toNat (c : UInt8) : UInt8.ofNat c.toNat = c := by simp

theorem enc_len (n : Nat) : ∀ k, n < 128 ^ (k + 1) → (enc n).length ≤ k + 1 := by
  intro k
  induction k generalizing n with
  | zero => intro h; rw [enc_small n (by omega)]; simp
  | succ k ih =>
    intro h
    by_cases hs : n < 128
    · rw [enc_small n hs]; simp
    · rw [enc_big n hs]
      have := ih (n / 128) (by rw [Nat.pow_succ] at h; omega)
      simp; omega

theorem enc_len9 (n : Nat) (h : n < 4611686018427387904) : (enc n).length ≤ 9 :=
  enc_len n 8 (by have : (128 : Nat) ^ 9 = 9223372036854775808 := by decide
                  simp only [Nat.reduceAdd]; omega)

theorem mul_pow_succ (q r i : Nat) : (q * 128 + r) * 128 ^ i = r * 128 ^ i + q * 128 ^ (i + 1) := by
  rw [Nat.pow_succ, Nat.add_mul, Nat.mul_assoc, Nat.mul_comm 128 (128 ^ i), Nat.add_comm]

theorem getAux_some (l : List UInt8) : ∀ (i m n k : Nat), m < 128 ^ i → getAux i l m = some (n, k) →
    ∃ x, n = m + x * 128 ^ i ∧ k = i + (enc x).length ∧ l.take (enc x).length = enc x ∧ (0 < i → 0 < x) ∧ k ≤ 9 ∧ n < 4611686018427387904 ∧ (enc x).length ≤ l.length := by
  induction l with
  | nil => intro i m n k _ h; simp [getAux] at h
  | cons c r ih =>
    intro i m n k hm h
    rw [getAux] at h
    split at h
    · cases h
    · rename_i h9
      split at h
      · cases h
      · rename_i h8
        have hp : (128 : Nat) ^ i ≤ 128 ^ 8 := Nat.pow_le_pow_right (by omega) (by omega)
        have e8 : (128 : Nat) ^ 8 = 72057594037927936 := by decide
        split at h
        · rename_i hc
          split at h
          · cases h
          · rename_i h0
            simp only [Option.some.injEq, Prod.mk.injEq] at h
            obtain ⟨rfl, rfl⟩ := h
            have hmod : c.toNat % 128 = c.toNat := Nat.mod_eq_of_lt hc
            have he : enc c.toNat = [c] := by rw [enc_small _ hc, ofNat_toNat]
            refine ⟨c.toNat, by rw [hmod], by rw [he]; rfl, by rw [he]; rfl, ?_, by omega, ?_, by rw [he]; simp⟩
            · intro hi; have : ¬ c.toNat = 0 := fun e => h0 ⟨hi, e⟩; omega
            · rw [hmod]
              by_cases hi8 : i = 8
              · subst hi8
                have : c.toNat ≤ 63 := by have := fun hx => h8 ⟨rfl, hx⟩; omega
                omega
              · have hp7 : (128 : Nat) ^ i ≤ 128 ^ 7 := Nat.pow_le_pow_right (by omega) (by omega)
                have e7 : (128 : Nat) ^ 7 = 562949953421312 := by decide
                have : c.toNat * 128 ^ i ≤ 127 * 562949953421312 := Nat.mul_le_mul (by omega) (by omega)
                omega
        · rename_i hc
          have hcl : c.toNat < 256 := c.toNat_lt
          have hm' : m + (c.toNat % 128) * 128 ^ i < 128 ^ (i + 1) := by
            have : (c.toNat % 128) * 128 ^ i ≤ 127 * 128 ^ i := Nat.mul_le_mul_right _ (by omega)
            rw [Nat.pow_succ]; omega
          obtain ⟨x, hn, hk, ht, hx, hk9, hn2, hl⟩ := ih (i + 1) _ n k hm' h
          have hx' := hx (by omega)
          have hbig : ¬ (x * 128 + c.toNat % 128) < 128 := by omega
          have he : enc (x * 128 + c.toNat % 128) = c :: enc x := by
            rw [enc_big _ hbig]
            have e1 : (x * 128 + c.toNat % 128) % 128 + 128 = c.toNat := by omega
            have e2 : (x * 128 + c.toNat % 128) / 128 = x := by omega
            rw [e1, e2, ofNat_toNat]
          refine ⟨x * 128 + c.toNat % 128, ?_, ?_, ?_, fun _ => by omega, hk9, hn2, ?_⟩
          · rw [hn, mul_pow_succ]; omega
          · rw [he, hk]; simp; omega
          · rw [he]; simp [ht]
          · rw [he]; simp; omega

theorem getAux_enc (x : Nat) : ∀ (i m : Nat) (more : List UInt8), i ≤ 8 → m + x * 128 ^ i < 4611686018427387904 → (0 < i → 0 < x) →
    getAux i (enc x ++ more) m = some (m + x * 128 ^ i, i + (enc x).length) := by
  induction x using Nat.strongRecOn with
  | _ x ih =>
    intro i m more hi hb hx
    by_cases hs : x < 128
    · rw [enc_small x hs]
      simp only [List.cons_append, List.nil_append, getAux, toNat_ofNat x (by omega), Nat.mod_eq_of_lt hs, if_pos hs, List.length_cons, List.length_nil]
      rw [if_neg (by omega), if_neg, if_neg]
      · rintro ⟨h1, h2⟩; have := hx h1; omega
      · rintro ⟨h1, h2⟩; subst h1
        have e8 : (128 : Nat) ^ 8 = 72057594037927936 := by decide
        rw [e8] at hb; omega
    · rw [enc_big x hs]
      have hi7 : i ≤ 7 := by
        rcases Nat.lt_or_ge i 8 with h | h
        · omega
        · have : i = 8 := by omega
          subst this
          have e8 : (128 : Nat) ^ 8 = 72057594037927936 := by decide
          rw [e8] at hb; omega
      have hc : (UInt8.ofNat (x % 128 + 128)).toNat = x % 128 + 128 := toNat_ofNat _ (by omega)
      have hmod : (x % 128 + 128) % 128 = x % 128 := by omega
      have hsplit : x * 128 ^ i = (x % 128) * 128 ^ i + x / 128 * 128 ^ (i + 1) := by
        rw [← mul_pow_succ]; congr 1; omega
      simp only [List.cons_append, getAux, hc, hmod]
      rw [if_neg (by omega), if_neg (by omega), if_neg (by omega), ih (x / 128) (by omega) (i + 1) _ more (by omega) (by omega) (fun _ => by omega)]
      simp only [List.length_cons, Option.some.injEq, Prod.mk.injEq]
      exact ⟨by omega, by omega⟩

theorem getAux_cut (x : Nat) : ∀ (i m j : Nat), j < (enc x).length → getAux i ((enc x).take j) m = none := by
  induction x using Nat.strongRecOn with
  | _ x ih =>
    intro i m j hj
    match j with
    | 0 => simp [getAux]
    | j + 1 =>
      by_cases hs : x < 128
      · rw [enc_small x hs] at hj; simp at hj
      · rw [enc_big x hs] at hj ⊢
        have hc : (UInt8.ofNat (x % 128 + 128)).toNat = x % 128 + 128 := toNat_ofNat _ (by omega)
        simp only [List.take_succ_cons, getAux, hc]
        rw [if_neg (show ¬ x % 128 + 128 < 128 by omega), ih (x / 128) (by omega) _ _ j (by simpa using hj)]
        simp

theorem get_some {l : List UInt8} {n k : Nat} (h : get l = some (n, k)) :
    n < 4611686018427387904 ∧ k = (enc n).length ∧ l.take k = enc n ∧ 1 ≤ k ∧ k ≤ 9 ∧ k ≤ l.length := by
  obtain ⟨x, hn, hk, ht, _, hk9, hn2, hl⟩ := getAux_some l 0 0 n k (by simp) h
  have e : n = x := by simpa using hn
  subst e
  have hk' : k = (enc n).length := by omega
  have hp := enc_pos n
  exact ⟨hn2, hk', by rw [hk']; exact ht, by omega, hk9, by omega⟩

theorem get_enc (n : Nat) (more : List UInt8) (h : n < 4611686018427387904) : get (enc n ++ more) = some (n, (enc n).length) := by
  have := getAux_enc n 0 0 more (by omega) (by simpa using h) (by omega)
  simpa [get] using this

theorem get_cut (n j : Nat) (hj : j < (enc n).length) : get ((enc n).take j) = none := getAux_cut n 0 0 j hj

end Go.Proofs.YtmacceamebdelaaDoor
/-! Kit -/
namespace Go.Proofs.YtmacceamebdelaaDoor
open Go.RowKit

/-- The element type's row of the table, as one closed fact. -/
def infoIs (P : Program) (e : TypeId) (z : Value) (size bytes : Nat) : Prop :=
  (P.info? e).map (fun i => (i.zero, i.size, i.bytes)) = some (some z, size, bytes)

theorem ret_congr {a b : Value} (h : a = b) : Ending.returned a = .returned b := by rw [h]

theorem cell_block {w : World} {cs : Array Value} {e : TypeId} (j : Nat) (u : Value) (h : cs[j]? = some u) :
    (w.alloc (.cells cs e)).cell? ⟨w.heap.size, j, none⟩ = some u := by
  rw [World.cell?_alloc_at _ _ _ _ rfl]; simpa using h

theorem addr_add (g j k : Nat) : (⟨g, j, none⟩ : Addr).add k = ⟨g, j + k, none⟩ := by unfold Addr.add; split <;> simp_all

/-- 'append(s, x)', x one element that lies in a new block. -/
theorem wpList_append1 {P : Program} {w w0 : World} {B : Nat} {ops : Array Oper} {rest : List Oper} {o : Oper} {a : Act} {Q : Exit → Act → World → Prop} (hgd : o.guard = none) (s x : Operand) (t : TypeId)
    (ho : o.op = .call { callee := .builtin .append, args := #[s, x], argTypes := #[t, t] })
    {base : Nat} {e : TypeId} {z : Value} {size bytes : Nat} (hinf : infoIs P e z size bytes) (ht : P.underlying t = some (.slice e)) (hzs : z.cells.size = size) (hsz : 0 < size) (hby : 0 < bytes)
    {v : Value} {n : Nat} {xs : List Value} (hown : w.ownsRow base e size v n xs) (hbel : Below B w0 w) (hB : B ≤ base) (hb : base ≤ w.heap.size)
    {cs : Array Value} (hcs : cs.size = size) (h1 : ∀ u ∈ cs.toList, u.oneCell' = true) (hbytes : (n + 1) * bytes ≤ 140737488355328)
    (hs : a.eval s = v) (hx : a.eval x = .slice (some ⟨w.heap.size, 0, none⟩) 1 1)
    (h : ∀ v' w', w'.ownsRow base e size v' (n + 1) (xs ++ cs.toList) → Below B w0 w' → w.heap.size < w'.heap.size → wpList P ops Q rest (a.put o.dst v') w') : wpList P ops Q (o :: rest) a (w.alloc (.cells cs e)) := by
  obtain ⟨i, hi, hz, hsize, hbt⟩ := info_parts hinf
  have hle : n + 1 ≤ (n + 1) * bytes := Nat.le_mul_of_pos_right _ hby
  refine wpList_append_own _ hgd s x t ho base e i z size bytes ht hi hz hsize hbt hzs hsz v n xs hs (hown.alloc _) ⟨w.heap.size, 0, none⟩ 1 1 cs.toList hx (by simp [hcs]) ?_ h1 (by unfold maxLen; omega) hbytes (by simp; omega) ?_
  · intro j u hu
    rw [addr_add, Nat.zero_add]
    exact cell_block j u (by simpa using hu)
  · intro v' w' hown' hgrow _
    refine h v' w' hown' ?_ (by have := hgrow.size; simp at this; omega)
    refine (hbel.alloc (by omega) _).grown hgrow (by simp; omega) ?_
    intro k hk
    have := (hown.lt k hk).1; omega

/-- A slice that can be read: n elements of 'size' cells each. -/
def rdRow (w : World) (size : Nat) (v : Value) (n : Nat) (xs : List Value) : Prop :=
  xs.length = n * size ∧ ∃ ao cap, v = .slice ao n cap ∧ n ≤ cap ∧ cap ≤ maxLen ∧ (ao = none → cap = 0) ∧ ∀ a, ao = some a → ∀ j u, xs[j]? = some u → w.cell? (a.add j) = some u

theorem rdRow_of_owns {w : World} {base : Nat} {e : TypeId} {size : Nat} {v : Value} {n : Nat} {xs : List Value} (h : w.ownsRow base e size v n xs) : rdRow w size v n xs := by
  refine ⟨h.1, ?_⟩
  rcases h.2 with ⟨rfl, rfl⟩ | ⟨g, cap, cur, rfl, hb, hg, hn, hm, hs, ht⟩
  · exact ⟨none, 0, rfl, Nat.le_refl _, by decide, fun _ => rfl, fun a h => by cases h⟩
  · refine ⟨_, cap, rfl, hn, hm, (fun h => by cases h), fun a ha j u hu => ?_⟩
    obtain rfl := Option.some.inj ha
    exact h.cells (g := g) rfl j u hu

theorem rdRow.below {w w' : World} {size : Nat} {v : Value} {n : Nat} {xs : List Value} (h : rdRow w size v n xs) (hb : Below w.heap.size w w') : rdRow w' size v n xs := by
  obtain ⟨h1, ao, cap, hv, hn, hm, hz, hc⟩ := h
  refine ⟨h1, ao, cap, hv, hn, hm, hz, fun a ha j u hu => ?_⟩
  have hc' := hc a ha j u hu
  rw [hb.cell (World.block_lt_of_cell? w _ hc')]; exact hc'

/-- Where a readable slice has an element, it has an address; its cells lie there. -/
theorem rd_at {w : World} {size : Nat} {ao : Option Addr} {n cap : Nat} {xs : List Value} (h : rdRow w size (.slice ao n cap) n xs) (hn : 0 < xs.length) :
    ∃ b off, ao = some ⟨b, off, none⟩ ∧ b < w.heap.size ∧ ∀ j u, xs[j]? = some u → w.cell? ⟨b, off + j, none⟩ = some u := by
  obtain ⟨h1, ao', cap', hv, hle, hm, hz, hc⟩ := h
  simp only [Value.slice.injEq, true_and] at hv
  obtain ⟨rfl, rfl⟩ := hv
  cases ao with
  | none =>
    have := hz rfl
    have hn0 : n = 0 := by omega
    rw [hn0, Nat.zero_mul] at h1; omega
  | some a =>
    have h0 := hc a rfl 0 _ (List.getElem?_eq_getElem hn)
    obtain ⟨b, off, spot⟩ := a
    have hspot : spot = none := by simpa [Addr.add] using World.cell?_spot h0
    subst hspot
    refine ⟨b, off, rfl, ?_, fun j u hu => ?_⟩
    · have := World.block_lt_of_cell? w _ h0
      simpa [Addr.add] using this
    · have := hc _ rfl j u hu
      rwa [addr_add] at this

/-- A row of the call's own stays so while blocks below its base, or none, turn. -/
theorem owns_below {w w' : World} {base : Nat} {e : TypeId} {size : Nat} {v : Value} {n : Nat} {xs : List Value} (h : w.ownsRow base e size v n xs) (hb : Below w.heap.size w w') : w'.ownsRow base e size v n xs := by
  refine ⟨h.1, ?_⟩
  rcases h.2 with h | ⟨g, cap, cur, rfl, hbg, hg, r⟩
  · exact .inl h
  · exact .inr ⟨g, cap, cur, rfl, hbg, by rw [hb.block g (Array.getElem?_eq_some_iff.1 hg).1]; exact hg, r⟩

theorem owns_base {w : World} {base base' : Nat} {e : TypeId} {size : Nat} {v : Value} {n : Nat} {xs : List Value} (h : w.ownsRow base e size v n xs) (hb : base' ≤ base) : w.ownsRow base' e size v n xs := by
  refine ⟨h.1, ?_⟩
  rcases h.2 with h | ⟨g, cap, cur, rfl, hbg, hg, r⟩
  · exact .inl h
  · exact .inr ⟨g, cap, cur, rfl, by omega, hg, r⟩

/-- Of the blocks that were there only those of S may have turned. -/
structure Upd (S : Nat → Prop) (w w' : World) : Prop where
  os : w'.os = w.os
  tape : w'.tape = w.tape
  output : w'.output = w.output
  size : w.heap.size ≤ w'.heap.size
  block : ∀ k, k < w.heap.size → ¬ S k → w'.heap[k]? = w.heap[k]?

theorem Upd.refl (S : Nat → Prop) (w : World) : Upd S w w := ⟨rfl, rfl, rfl, Nat.le_refl _, fun _ _ _ => rfl⟩
theorem Upd.trans {S : Nat → Prop} {a b c : World} (h : Upd S a b) (k : Upd S b c) : Upd S a c :=
  ⟨k.os.trans h.os, k.tape.trans h.tape, k.output.trans h.output, Nat.le_trans h.size k.size, fun i hi hn => (k.block i (Nat.lt_of_lt_of_le hi h.size) hn).trans (h.block i hi hn)⟩
/-- Two steps, the second one may turn what is new besides. -/
theorem Upd.trans' {S S' : Nat → Prop} {a b c : World} (h : Upd S a b) (k : Upd S' b c) (hs : ∀ i, S' i → S i ∨ a.heap.size ≤ i) : Upd S a c :=
  ⟨k.os.trans h.os, k.tape.trans h.tape, k.output.trans h.output, Nat.le_trans h.size k.size, fun i hi hn => (k.block i (Nat.lt_of_lt_of_le hi h.size) (fun e => (hs i e).elim hn (by omega))).trans (h.block i hi hn)⟩
theorem Upd.mono {S S' : Nat → Prop} {a b : World} (h : Upd S a b) (hs : ∀ i, S i → S' i) : Upd S' a b :=
  ⟨h.os, h.tape, h.output, h.size, fun i hi hn => h.block i hi fun e => hn (hs i e)⟩
theorem Upd.of_below {S : Nat → Prop} {w w' : World} (h : Below w.heap.size w w') : Upd S w w' := ⟨h.os, h.tape, h.output, h.size, fun k hk _ => h.block k hk⟩
theorem Upd.below {S : Nat → Prop} {w w' : World} (h : Upd S w w') {B : Nat} (hB : B ≤ w.heap.size) (hS : ∀ k, S k → B ≤ k) : Below B w w' :=
  ⟨h.os, h.tape, h.output, h.size, fun k hk => h.block k (by omega) fun e => by have := hS k e; omega⟩
theorem Upd.setCell {S : Nat → Prop} {w0 w : World} (h : Upd S w0 w) {a : Addr} (ha : S a.block ∨ w0.heap.size ≤ a.block) (v : Value) : Upd S w0 (w.setCell a v) :=
  ⟨h.os, h.tape, h.output, by simpa [World.setCell] using h.size, fun k hk hn => by
    rw [Below.heap_setCell _ _ _ _ (fun e => by subst e; exact ha.elim hn (by omega))]; exact h.block k hk hn⟩
theorem Upd.grown {S : Nat → Prop} {w0 w w' : World} {row : Option Nat} (h : Upd S w0 w) (hg : w.grownBy w' row) (hr : ∀ k, row = some k → S k ∨ w0.heap.size ≤ k) : Upd S w0 w' :=
  ⟨hg.os.trans h.os, hg.tape.trans h.tape, hg.output.trans h.output, Nat.le_trans h.size hg.size, fun k hk hn =>
    (hg.block k (Nat.lt_of_lt_of_le hk h.size) (fun e => (hr k e.symm).elim hn (by omega))).trans (h.block k hk hn)⟩
theorem Upd.alloc {S : Nat → Prop} {w0 w : World} (h : Upd S w0 w) (o : Obj) : Upd S w0 (w.alloc o) :=
  ⟨h.os, h.tape, h.output, Nat.le_trans h.size (by simp), fun k hk hn => by rw [Below.heap_alloc _ _ _ (Nat.lt_of_lt_of_le hk h.size)]; exact h.block k hk hn⟩
theorem Upd.drew {S : Nat → Prop} {w0 w : World} (h : Upd S w0 w) : Upd S w0 w.drew := ⟨h.os, h.tape, h.output, h.size, h.block⟩

theorem owns_upd {S : Nat → Prop} {w w' : World} {base : Nat} {e : TypeId} {size : Nat} {v : Value} {n : Nat} {xs : List Value} (h : w.ownsRow base e size v n xs) (hb : Upd S w w') (hn : ∀ k, v.ownBlock = some k → ¬ S k) : w'.ownsRow base e size v n xs := by
  refine ⟨h.1, ?_⟩
  rcases h.2 with h | ⟨g, cap, cur, rfl, hbg, hg, r⟩
  · exact .inl h
  · exact .inr ⟨g, cap, cur, rfl, hbg, by rw [hb.block g (Array.getElem?_eq_some_iff.1 hg).1 (hn g rfl)]; exact hg, r⟩

/-- A block of two cells. -/
theorem cell_of_two {w : World} {g : Nat} {x y : Value} {t : TypeId} (h : w.heap[g]? = some (.cells #[x, y] t (0, 0))) :
    w.cell? ⟨g, 0, none⟩ = some x ∧ w.cell? ⟨g, 1, none⟩ = some y ∧ w.frozen? ⟨g, 0, none⟩ = false ∧ w.frozen? ⟨g, 1, none⟩ = false := by
  refine ⟨?_, ?_, ?_, ?_⟩ <;> simp [World.cell?, World.frozen?, h]
theorem two_setCell0 {w : World} {g : Nat} {x y u : Value} {t : TypeId} (h : w.heap[g]? = some (.cells #[x, y] t (0, 0))) : (w.setCell ⟨g, 0, none⟩ u).heap[g]? = some (.cells #[u, y] t (0, 0)) := by
  have hlt := lt_of_block h
  have h' : w.heap[g] = .cells #[x, y] t (0, 0) := by simpa [Array.getElem?_eq_getElem hlt] using h
  show (w.heap.modify g _)[g]? = _
  rw [Array.getElem?_eq_getElem (by simpa using hlt), Array.getElem_modify_self, h']
  rfl
theorem two_setCell1 {w : World} {g : Nat} {x y u : Value} {t : TypeId} (h : w.heap[g]? = some (.cells #[x, y] t (0, 0))) : (w.setCell ⟨g, 1, none⟩ u).heap[g]? = some (.cells #[x, u] t (0, 0)) := by
  have hlt := lt_of_block h
  have h' : w.heap[g] = .cells #[x, y] t (0, 0) := by simpa [Array.getElem?_eq_getElem hlt] using h
  show (w.heap.modify g _)[g]? = _
  rw [Array.getElem?_eq_getElem (by simpa using hlt), Array.getElem_modify_self, h']
  rfl
theorem owns_setCell {w : World} {base : Nat} {e : TypeId} {size : Nat} {v : Value} {n : Nat} {xs : List Value} (h : w.ownsRow base e size v n xs) {a : Addr} (ha : v.ownBlock ≠ some a.block) (u : Value) : (w.setCell a u).ownsRow base e size v n xs :=
  ownsRow_setCell_other h ha u

/-- Bytes as cells. -/
def bvs (l : List UInt8) : List Value := l.map fun c => .int .u8 (c.toNat : Int)
theorem bvs_length (l : List UInt8) : (bvs l).length = l.length := by simp [bvs]
theorem bvs_append (a b : List UInt8) : bvs (a ++ b) = bvs a ++ bvs b := by simp [bvs]
theorem bvs_one (c : UInt8) : bvs [c] = [.int .u8 (c.toNat : Int)] := rfl

theorem run_bytes_string {P : Program} {w : World} {src e dst : TypeId} (hs : P.underlying src = some (.slice e)) (he : P.underlying e = some (.int .u8)) (hd : P.underlying dst = some .string)
    {v : Value} {n : Nat} {l : List UInt8} (h : rdRow w 1 v n (bvs l)) : (convert src dst v).run P w = .ok (.string ⟨l.toArray⟩) w := by
  have hlen : l.length = n := by have := h.1; rw [bvs_length] at this; omega
  obtain ⟨-, ao, cap, rfl, hn, hm, hz, hc⟩ := h
  cases l with
  | nil =>
    obtain rfl : n = 0 := hlen.symm
    rw [run_convert_bytes_string w src dst e _ _ _ hs he hd]
    cases ao with
    | none => simp [Conv.bytesToString]; rfl
    | some a =>
      have : (loadCells a 0).run P w = .ok ([].map (Value.int .u8)).toArray w := by simp [loadCells, loadCellsFrom]
      rw [run_bytesToString w a 0 cap [] this]; rfl
  | cons c l =>
    cases ao with
    | none => have := hz rfl; simp at hlen; omega
    | some a =>
      have hc0 := hc a rfl 0 _ (by simp [bvs]; rfl)
      obtain ⟨g, off, spot⟩ := a
      have hspot : spot = none := by simpa [Addr.add] using World.cell?_spot hc0
      subst hspot
      have := run_convert_bytes_arg (P := P) w src e hs he g off n cap ((c :: l).map fun c => (c.toNat : Int)) (by simpa using hlen) ?_ dst hd
      · rw [this]
        congr 2
        simp [strOfNums, List.map_map, Function.comp_def]
      · intro i hi
        have := hc _ rfl i (.int .u8 ((c :: l)[i]'(by omega)).toNat) (by simp only [bvs]; rw [List.getElem?_map, List.getElem?_eq_getElem (by omega)]; rfl)
        rw [addr_add] at this
        rw [this, List.getD, List.getElem?_map, List.getElem?_eq_getElem (show i < (c :: l).length by omega)]
        rfl

/-- 'string(b)' of bytes that can be read. -/
theorem wpList_bytes_string {P : Program} {w : World} {ops : Array Oper} {rest : List Oper} {o : Oper} {a : Act} {Q : Exit → Act → World → Prop} (hgd : o.guard = none) (x : Operand) (src dst e : TypeId)
    (ho : o.op = .convert src dst x) (hs : P.underlying src = some (.slice e)) (he : P.underlying e = some (.int .u8)) (hd : P.underlying dst = some .string)
    {v : Value} {n : Nat} {l : List UInt8} (hr : rdRow w 1 v n (bvs l)) (hx : a.eval x = v)
    (h : wpList P ops Q rest (a.put o.dst (.string ⟨l.toArray⟩)) w) : wpList P ops Q (o :: rest) a w := by
  refine wpList_plain hgd fun K hK => ?_
  have hrun := run_bytes_string hs he hd hr
  unfold Oper.wp
  simp only [execOp, ho, hx, Sem.run_bind, hrun, Result.andThen, Sem.run_pure, Oper.upon]
  exact hK _ _ h

/-- The row behind an append is the old one, or a new block. -/
theorem append_str_block {P : Program} {w : World} {t u ty e : TypeId} {i : TypeInfo} (ht : P.underlying t = some (.slice e)) (hu : P.underlying u = some .string) (hi : P.info? e = some i) (hz : i.zero = some (.int .u8 0))
    (hsize : i.size = 1) (hby : i.bytes = 1) {base : Nat} {v : Value} {n : Nat} {xs : List Value} (hown : w.ownsRow base e 1 v n xs) {s : ByteArray} (hbytes : n + s.size ≤ 140737488355328)
    {v' : Value} {w' : World} (hr : (Builtin.append_ #[t, u] ty #[v, .string s]).run P w = .ok v' w') : v'.ownBlock = v.ownBlock ∨ v'.ownBlock = some w.heap.size := by
  have hxl : xs.length = n := by simpa using hown.1
  rcases hown.2 with ⟨rfl, rfl⟩ | ⟨g, cap, cur, rfl, hbg, hg, hnc, hcm, hcs, htake⟩
  · by_cases hm : s.size = 0
    · have hn : Lib.strCells s = [] := List.eq_nil_of_length_eq_zero (by rw [Lib.strCells_length]; exact hm)
      have hf := Lib.run_firstCells_string (P := P) w 1 s
      rw [hm] at hf
      simp [Builtin.append_, run_underlying ht, run_underlying hu, sizeOf, typeInfo, hi, hsize, Builtin.lenOf, hm, hf] at hr
      obtain ⟨rfl, rfl⟩ := hr
      exact .inl rfl
    · have hr2 := run_append_nil_string (P := P) w t u ty e i (.int .u8 0) ht hu hi hz s (by omega) (by omega) (by rw [hby]; omega)
      rw [hr] at hr2
      simp only [Result.ok.injEq] at hr2
      rw [hr2.1]; exact .inr rfl
  · by_cases hroom : n + s.size ≤ cap
    · have hcs' : cur.size = cap := by simpa using hcs
      have hr2 := Lib.run_append_room_string (P := P) w t u ty e i ht hu hi hsize g n cap cur hg s hroom (by omega)
      rw [hr] at hr2
      simp only [Result.ok.injEq] at hr2
      rw [hr2.1]; exact .inl rfl
    · have holds : ∀ j u, xs[j]? = some u → w.cell? ((⟨g, 0, none⟩ : Addr).add j) = some u := hown.cells (g := g) rfl
      have hr2 := Lib.run_append_grow_string (P := P) w t u ty e i (.int .u8 0) ht hu hi hz ⟨g, 0, none⟩ n cap xs (by rw [hsize]; simpa using hxl) holds s (by omega) (by omega) (by rw [hby]; exact growslice_fits (by omega) (by omega))
      rw [hr] at hr2
      simp only [Result.ok.injEq] at hr2
      rw [hr2.1]; exact .inr rfl

/-- 'append(b, s...)', s a string, b bytes of the call's own. -/
theorem wpList_append_str {P : Program} {w w0 : World} {S : Nat → Prop} {ops : Array Oper} {rest : List Oper} {o : Oper} {a : Act} {Q : Exit → Act → World → Prop} (hgd : o.guard = none) (s x : Operand) (t u : TypeId)
    (ho : o.op = .call { callee := .builtin .append, args := #[s, x], argTypes := #[t, u] })
    {base : Nat} {e : TypeId} (hinf : infoIs P e (.int .u8 0) 1 1) (ht : P.underlying t = some (.slice e)) (hu : P.underlying u = some .string)
    {v : Value} {l : List UInt8} (hown : w.ownsRow base e 1 v l.length (bvs l)) (hupd : Upd S w0 w) (hb : base ≤ w.heap.size)
    {str : ByteArray} (hbytes : l.length + str.size ≤ 140737488355328) (hS : ∀ k, v.ownBlock = some k → S k ∨ w0.heap.size ≤ k)
    (hs : a.eval s = v) (hx : a.eval x = .string str)
    (h : ∀ v' w', w'.ownsRow base e 1 v' (l ++ str.data.toList).length (bvs (l ++ str.data.toList)) → w.grownBy w' v.ownBlock → Upd S w0 w' → (v'.ownBlock = v.ownBlock ∨ v'.ownBlock = some w.heap.size) → wpList P ops Q rest (a.put o.dst v') w') : wpList P ops Q (o :: rest) a w := by
  obtain ⟨i, hi, hz, hsize, hbt⟩ := info_parts hinf
  obtain ⟨v', w', hr, h2, hgrow, _⟩ := Lib.run_append_own_string (P := P) w base t u o.type e i ht hu hi hz hsize hbt v l.length (bvs l) hown str (by unfold maxLen; omega) hbytes hb
  have hblk := append_str_block ht hu hi hz hsize hbt hown hbytes hr
  have hown2 : w'.ownsRow base e 1 v' (l ++ str.data.toList).length (bvs (l ++ str.data.toList)) := by
    rw [List.length_append, toList_length, bvs_append]; exact h2
  refine wpList_plain hgd fun K hK => ?_
  unfold Oper.wp execOp
  simp only [ho, resolve, invoke, builtin, Sem.run_bind, Sem.run_pure, Result.andThen_ok, List.map_toArray, List.map_cons, List.map_nil, hs, hx, hr]
  exact hK _ _ (h v' w' hown2 hgrow (hupd.grown hgrow hS) hblk)

end Go.Proofs.YtmacceamebdelaaDoor
/-! WireGet -/
namespace Go.Proofs.YtmacceamebdelaaDoor
open Go.RowKit

def getV : Option (Nat × Nat) → Value
  | none => .tuple #[.int .i64 0, .int .i64 0, .int .i64 2]
  | some (n, k) => .tuple #[.int .i64 n, .int .i64 k, .int .i64 0]

theorem getAux_drop (s : ByteArray) (k m : Nat) (h : k < s.size) : getAux k (s.data.toList.drop k) m = if 9 ≤ k then none else if k = 8 ∧ 63 < s[k].toNat then none else
      if s[k].toNat < 128 then (if 0 < k ∧ s[k].toNat = 0 then none else some (m + (s[k].toNat % 128) * 128 ^ k, k + 1))
      else getAux (k + 1) (s.data.toList.drop (k + 1)) (m + (s[k].toNat % 128) * 128 ^ k) := by
  rw [List.drop_eq_getElem_cons (by simpa using h), getAux]; rfl

theorem pow128_step (m c k : Nat) (hm : m < 128 ^ k) : m + (c % 128) * 128 ^ k < 128 ^ (k + 1) := by
  have : (c % 128) * 128 ^ k ≤ 127 * 128 ^ k := Nat.mul_le_mul_right _ (by omega)
  rw [Nat.pow_succ]; omega

theorem getAux_end9 (k : Nat) (l : List UInt8) (m : Nat) (h : 9 ≤ k) : getAux k l m = none := by
  cases l with
  | nil => simp [getAux]
  | cons c r => simp [getAux, h]

set_option maxRecDepth 100000 in
set_option maxHeartbeats 400000 in
theorem get_any (s : ByteArray) (w : World) (hs : s.size ≤ maxLen) :
    Calls Tryd.prog 62 #[.string s] w fun e w' => e = .returned (getV (get s.data.toList)) ∧ w = w' := by
  unfold maxLen at hs
  go_enter Tryd.func62, Tryd.ntmps62
  go_wp2
  go_loop [5, 6] (fun n i => ∃ k m : Nat, k ≤ s.size ∧ k ≤ 9 ∧ i = .int .i64 k ∧ n = .int .i64 m ∧ m < 128 ^ k ∧ getAux k (s.data.toList.drop k) m = get s.data.toList) (fun _ i => s.size - (intOf i).toNat)
  case atStart => exact ⟨0, 0, Nat.zero_le _, by omega, rfl, rfl, by simp, rfl⟩
  case round =>
    obtain ⟨k, m, hk, hk9, rfl, rfl, hm, hg⟩ := hrel
    by_cases hlt : k < s.size
    · have hd := getAux_drop s k m hlt
      rw [hg] at hd
      have hcl : s[k].toNat < 256 := s[k].toNat_lt
      have hst := pow128_step m s[k].toNat k hm
      have HD := Lib.hid hd; clear hd
      have HG := Lib.hid hg; clear hg
      by_cases h9 : k < 9
      · by_cases h8 : k = 8
        · subst h8
          have HA := Lib.hid (acc_eq 8 m s[8].toNat (by omega) hm hcl); clear hst
          have HM := Lib.hid hm; clear hm
          by_cases h63 : 63 < s[8].toNat
          · go_wp2
            go_ret3
            exact ⟨by rw [HD.out, if_neg (by omega), if_pos ⟨trivial, h63⟩]; rfl, rfl⟩
          · have hA := HA.out (fun _ => by omega)
            by_cases h0 : s[8].toNat = 0
            · have hb : ((s[8].toNat : Int) == 0) = true := by simpa using h0
              have HH := Lib.hid h0; clear h0
              have HA' := Lib.hid hA; clear hA HA
              go_wp2
              go_ret3
              exact ⟨by rw [HD.out, if_neg (by omega), if_neg (by omega), if_pos (by omega), if_pos ⟨by omega, HH.out⟩]; rfl, rfl⟩
            · have hb : ((s[8].toNat : Int) == 0) = false := by simpa using h0
              have HH := Lib.hid h0; clear h0
              have HA' := Lib.hid hA; clear hA HA
              go_wp2
              go_ret3
              refine ⟨?_, rfl⟩
              have e := HA'.out.1
              simp only [Nat.reduceMul, Int.reducePow] at e
              have h0 := HH.out
              rw [HD.out, if_neg (by omega), if_neg (by omega), if_pos (by omega), if_neg (by omega), getV]
              simp only [Nat.reducePow, Array.getD_eq_getD_getElem?, Int.reducePow, Nat.reduceMul] at *
              simp [e]
        · have hst' := hst
          have hA := acc_eq k m s[k].toNat (by omega) hm hcl (fun h => absurd h h8)
          have HA := Lib.hid hA; clear hA
          have HM := Lib.hid hm; clear hm
          have HS := Lib.hid hst; clear hst hst'
          by_cases h128 : s[k].toNat < 128
          · by_cases h0 : s[k].toNat = 0
            · have hb : ((s[k].toNat : Int) == 0) = true := by simpa using h0
              have HH := Lib.hid h0; clear h0
              by_cases hk0 : 0 < k
              · go_wp2
                go_ret3
                exact ⟨by rw [HD.out, if_neg (by omega), if_neg (by omega), if_pos h128, if_pos ⟨hk0, HH.out⟩]; rfl, rfl⟩
              · go_wp2
                go_ret3
                refine ⟨?_, rfl⟩
                rw [HD.out, if_neg (by omega), if_neg (by omega), if_pos h128, if_neg (by omega), getV]
                simp [HA.out.1]
            · have hb : ((s[k].toNat : Int) == 0) = false := by simpa using h0
              have HH := Lib.hid h0; clear h0
              by_cases hk0 : 0 < k
              all_goals
                go_wp2
                go_ret3
                refine ⟨?_, rfl⟩
                have h0 := HH.out
                rw [HD.out, if_neg (by omega), if_neg (by omega), if_pos h128, if_neg (by omega), getV]
                simp [HA.out.1]
          · go_wp2
            go_round
            case rel =>
              refine ⟨k + 1, m + (s[k].toNat % 128) * 128 ^ k, by omega, by omega, by go_num, by rw [HA.out.1], HS.out, ?_⟩
              rw [HD.out, if_neg (by omega), if_neg (by omega), if_neg h128]
            case measure => simp [intOf]; omega
      · have h9' : k = 9 := by omega
        subst h9'
        have e := HG.out
        rw [getAux_end9 9 _ _ (by omega)] at e
        have HE := Lib.hid e; clear e HG HD hst
        have HM := Lib.hid hm; clear hm
        go_wp2
        go_ret3
        exact ⟨by rw [← HE.out]; rfl, rfl⟩
    · rw [List.drop_of_length_le (by simp; omega)] at hg
      have e : get s.data.toList = none := by rw [← hg]; simp [getAux]
      have HE := Lib.hid e; clear e hg
      have HM := Lib.hid hm; clear hm
      go_wp2
      go_ret3
      exact ⟨by rw [HE.out]; rfl, rfl⟩

end Go.Proofs.YtmacceamebdelaaDoor
/-! WirePut -/
namespace Go.Proofs.YtmacceamebdelaaDoor
open Go.RowKit

theorem info_u8W : infoIs Tryd.prog 5 (.int .u8 0) 1 1 := by unfold infoIs; kernel_rfl

def putB (b : ByteArray) (n : Nat) : ByteArray := b ++ ⟨(enc n).toArray⟩
theorem putB_size (b : ByteArray) (n : Nat) : (putB b n).size = b.size + (enc n).length := by rw [putB, ByteArray.size_append]; rfl
theorem putB_toList (b : ByteArray) (n : Nat) : (putB b n).data.toList = b.data.toList ++ enc n := by rw [putB, toList_append]

theorem enc_step {n m : Nat} {pre : List UInt8} (h : enc n = pre ++ enc m) (hm : 127 < m) :
    enc n = (pre ++ [UInt8.ofNat (m % 128 + 128)]) ++ enc (m / 128) ∧ bvs (pre ++ [UInt8.ofNat (m % 128 + 128)]) = bvs pre ++ [.int .u8 (bits .or .u8 ((m : Int) % 256) 128)] := by
  refine ⟨by rw [h, enc_big m (by omega)]; simp, ?_⟩
  rw [bvs_append, bvs_one, toNat_ofNat _ (by omega)]
  have := or128 m
  rw [this]

theorem enc_last {n m : Nat} {pre : List UInt8} (h : enc n = pre ++ enc m) (hm : ¬ 127 < m) :
    enc n = pre ++ [UInt8.ofNat m] ∧ bvs (pre ++ [UInt8.ofNat m]) = bvs pre ++ [.int .u8 (m : Int)] := by
  refine ⟨by rw [h, enc_small m (by omega)], ?_⟩
  rw [bvs_append, bvs_one, toNat_ofNat _ (by omega)]

set_option maxRecDepth 100000 in
set_option maxHeartbeats 400000 in
theorem put_good (b : ByteArray) (n : Nat) (w : World) (hb : b.size ≤ 4611686018427387904) (hn : n < 4611686018427387904) :
    Calls Tryd.prog 47 #[.string b, .int .i64 n] w fun e w' => e = .returned (.tuple #[.string (putB b n), .int .i64 0]) ∧ Below w.heap.size w w' := by
  have hlen := enc_len9 n hn
  go_enter Tryd.func47, Tryd.ntmps47
  go_wp2
  go_loopw [1, 6] (fun i v wr => ∃ (pre : List UInt8) (m : Nat), i = .int .i64 m ∧ m < 4611686018427387904 ∧ enc n = pre ++ enc m ∧ wr.ownsRow w.heap.size 5 1 v pre.length (bvs pre) ∧ Below w.heap.size w wr) (fun i _ _ => (intOf i).toNat)
  case atStart => exact ⟨[], n, rfl, hn, rfl, World.ownsRow_nil _ _ _ _, Below.refl _ _⟩
  case round =>
    obtain ⟨pre, m, rfl, hm, he, hown, hbel⟩ := hrel
    have hsz := hbel.size
    have hpl : pre.length ≤ 9 := by rw [he] at hlen; simp at hlen; omega
    by_cases h127 : 127 < m
    · obtain ⟨h1, h2⟩ := enc_step he h127
      have H1 := Lib.hid h1; have H2 := Lib.hid h2; clear he h1 h2
      go_wp2_with (first | (at_builtin; refine wpList_append1 rfl _ _ 69 rfl info_u8W Tryd.underlying69 rfl (by decide) (by decide) hown hbel (Nat.le_refl _) hsz rfl (by simp [Value.oneCell']) (by omega) rfl rfl ?_; intro v' w1 hown' hb' hlt))
      go_roundw
      case rel => exact ⟨_, m / 128, by go_num, by omega, H1.out, by rw [H2.out]; simpa using hown', hb'⟩
      case measure => simp [intOf]; omega
    · obtain ⟨h1, h2⟩ := enc_last he h127
      have H1 := Lib.hid h1; have H2 := Lib.hid h2; clear he h1 h2
      have hmod : (m : Int) % 256 = m := by omega
      go_wp2_with (first | (at_builtin; refine wpList_append1 rfl _ _ 69 rfl info_u8W Tryd.underlying69 rfl (by decide) (by decide) hown hbel (Nat.le_refl _) hsz rfl (by simp [Value.oneCell']) (by omega) rfl rfl ?_; intro v' w1 hown' hb' hlt) | (refine wpList_bytes_string rfl _ _ _ _ rfl Tryd.underlying69 Tryd.underlying5 Tryd.underlying9 (l := pre ++ [UInt8.ofNat m]) (n := pre.length + 1) (v := v') (by rw [H2.out]; exact rdRow_of_owns hown') rfl ?_))

      go_ret2
      refine ⟨?_, hb'⟩
      rw [putB, H1.out]; rfl
set_option maxRecDepth 100000 in
set_option maxHeartbeats 400000 in
theorem put_bad (b : ByteArray) (n : Int) (w : World) (hn : n < 0 ∨ 4611686018427387904 ≤ n) :
    Calls Tryd.prog 47 #[.string b, .int .i64 n] w fun e w' => e = .returned (.tuple #[.string ⟨#[]⟩, .int .i64 3]) ∧ w = w' := by
  by_cases h0 : n < 0
  all_goals
    go_enter Tryd.func47, Tryd.ntmps47
    go_wp2
    go_ret2
    exact ⟨rfl, rfl⟩

theorem put_int (b : ByteArray) (n : Int) (w : World) (hb : b.size ≤ 4611686018427387904) (h0 : 0 ≤ n) (hn : n < 4611686018427387904) :
    Calls Tryd.prog 47 #[.string b, .int .i64 n] w fun e w' => e = .returned (.tuple #[.string (putB b n.toNat), .int .i64 0]) ∧ Below w.heap.size w w' := by
  have := put_good b n.toNat w hb (by omega)
  rwa [Int.toNat_of_nonneg h0] at this

end Go.Proofs.YtmacceamebdelaaDoor
/-! WireText -/
namespace Go.Proofs.YtmacceamebdelaaDoor
open Go.RowKit
set_option linter.unusedVariables false

def textB (b s : ByteArray) : ByteArray := putB b s.size ++ s
theorem textB_size (b s : ByteArray) : (textB b s).size = b.size + (enc s.size).length + s.size := by rw [textB, ByteArray.size_append, putB_size]
theorem textB_toList (b s : ByteArray) : (textB b s).data.toList = b.data.toList ++ (enc s.size ++ s.data.toList) := by rw [textB, toList_append, putB_toList, List.append_assoc]

def getText (s : ByteArray) : ByteArray × Nat × Nat :=
  match get s.data.toList with
  | none => (⟨#[]⟩, 0, 2)
  | some (n, k) => if 4096 < n then (⟨#[]⟩, 0, 1) else if s.size < n + k then (⟨#[]⟩, 0, 2) else (s.extract k (k + n), k + n, 0)

def textV (r : ByteArray × Nat × Nat) : Value := .tuple #[.string r.1, .int .i64 r.2.1, .int .i64 r.2.2]

end Go.Proofs.YtmacceamebdelaaDoor
/-! WireWriter -/
namespace Go.Proofs.YtmacceamebdelaaDoor
open Go.RowKit
set_option linter.unusedVariables false

/-- Block g is a writer that holds the bytes l and the error e; its row is v, in a block from B on. -/
structure WrSt (w : World) (B g : Nat) (v : Value) (l : List UInt8) (e : Int) : Prop where
  blk : w.heap[g]? = some (.cells #[v, .int .i64 e] 71 (0, 0))
  own : w.ownsRow B 5 1 v l.length (bvs l)
  ne : v.ownBlock ≠ some g
  le : B ≤ w.heap.size

def WrS (g : Nat) (v : Value) : Nat → Prop := fun k => k = g ∨ v.ownBlock = some k

theorem WrSt.upd {w w' : World} {B g : Nat} {v : Value} {l : List UInt8} {e : Int} (h : WrSt w B g v l e) {S : Nat → Prop} (hu : Upd S w w') (h1 : ¬ S g) (h2 : ∀ k, v.ownBlock = some k → ¬ S k) : WrSt w' B g v l e :=
  ⟨by rw [hu.block g (lt_of_block h.blk) h1]; exact h.blk, owns_upd h.own hu h2, h.ne, Nat.le_trans h.le hu.size⟩

theorem WrSt.below {w w' : World} {B g : Nat} {v : Value} {l : List UInt8} {e : Int} (h : WrSt w B g v l e) (hu : Below w.heap.size w w') : WrSt w' B g v l e :=
  h.upd (S := fun _ => False) (Upd.of_below hu) (fun h => h) (fun _ _ h => h)

/-- What a method leaves: the writer holds l' and e'; nothing else that was there has turned. -/
def WrTo (w : World) (B g : Nat) (v : Value) (l' : List UInt8) (e' : Int) (e : Ending) (w' : World) : Prop :=
  e = .returned (.tuple #[]) ∧ ∃ v', WrSt w' B g v' l' e' ∧ Upd (WrS g v) w w' ∧ (v'.ownBlock = v.ownBlock ∨ ∃ k, v'.ownBlock = some k ∧ w.heap.size ≤ k)

theorem WrTo.same {w : World} {B g : Nat} {v : Value} {l : List UInt8} {e : Int} (h : WrSt w B g v l e) : WrTo w B g v l e (.returned (.tuple #[])) w :=
  ⟨rfl, v, h, Upd.refl _ _, .inl rfl⟩

theorem WrTo.mk {w w1 w2 : World} {B g : Nat} {v v' : Value} {l l' : List UInt8} {e e' : Int} (hb : Below w.heap.size w w1) (h : WrSt w1 B g v l e) (hown : w2.ownsRow B 5 1 v' l'.length (bvs l'))
    (hg : w1.grownBy w2 v.ownBlock) (hblk : v'.ownBlock = v.ownBlock ∨ v'.ownBlock = some w1.heap.size) (hlt : g < w.heap.size) :
    WrTo w B g v l' e' (.returned (.tuple #[])) ((w2.setCell ⟨g, 0, none⟩ v').setCell ⟨g, 1, none⟩ (.int .i64 e')) := by
  have hlt1 := lt_of_block h.blk
  have hg2 : w2.heap[g]? = w1.heap[g]? := hg.block g hlt1 (fun e => h.ne e.symm)
  have hblk2 : w2.heap[g]? = some (.cells #[v, .int .i64 e] 71 (0, 0)) := by rw [hg2]; exact h.blk
  have hne' : v'.ownBlock ≠ some g := by
    rcases hblk with e | e
    · rw [e]; exact h.ne
    · rw [e]; intro h'; have := Option.some.inj h'; omega
  have hs2 := hg.size
  refine ⟨rfl, v', ⟨two_setCell1 (two_setCell0 hblk2), owns_setCell (owns_setCell hown (by exact hne') _) (by exact hne') _, hne', ?_⟩, ?_, ?_⟩
  · have := h.le; simp [World.setCell]; omega
  · refine (((Upd.of_below hb).grown hg ?_).setCell ?_ _).setCell ?_ _
    · intro k hk; exact .inl (.inr hk)
    · exact .inl (.inl rfl)
    · exact .inl (.inl rfl)
  · rcases hblk with e | e
    · exact .inl e
    · exact .inr ⟨_, e, hb.size⟩

theorem WrTo.mk0 {w1 w2 : World} {B g : Nat} {v v' : Value} {l l' : List UInt8} (h : WrSt w1 B g v l 0) (hown : w2.ownsRow B 5 1 v' l'.length (bvs l'))
    (hg : w1.grownBy w2 v.ownBlock) (hblk : v'.ownBlock = v.ownBlock ∨ v'.ownBlock = some w1.heap.size) (hlt : g < w1.heap.size) :
    WrTo w1 B g v l' 0 (.returned (.tuple #[])) (w2.setCell ⟨g, 0, none⟩ v') := by
  have hg2 : w2.heap[g]? = w1.heap[g]? := hg.block g hlt (fun e => h.ne e.symm)
  have hblk2 : w2.heap[g]? = some (.cells #[v, .int .i64 0] 71 (0, 0)) := by rw [hg2]; exact h.blk
  have hne' : v'.ownBlock ≠ some g := by
    rcases hblk with e | e
    · rw [e]; exact h.ne
    · rw [e]; intro h'; have := Option.some.inj h'; omega
  have hs2 := hg.size
  refine ⟨rfl, v', ⟨two_setCell0 hblk2, owns_setCell hown (by exact hne') _, hne', ?_⟩, ?_, ?_⟩
  · have := h.le; simp [World.setCell]; omega
  · refine (((Upd.refl _ _).grown hg ?_).setCell ?_ _)
    · intro k hk; exact .inl (.inr hk)
    · exact .inl (.inl rfl)
  · rcases hblk with e | e
    · exact .inl e
    · exact .inr ⟨_, e, Nat.le_refl _⟩

theorem owns_slice {w : World} {base : Nat} {e : TypeId} {size : Nat} {v : Value} {n : Nat} {xs : List Value} (h : w.ownsRow base e size v n xs) : ∃ ao cap, v = .slice ao n cap := by
  rcases h.2 with ⟨rfl, rfl⟩ | ⟨g, cap, cur, rfl, _⟩
  · exact ⟨_, _, rfl⟩
  · exact ⟨_, _, rfl⟩

theorem WrSt.cells2 {w1 w2 : World} {B g : Nat} {v : Value} {l : List UInt8} {e : Int} (h : WrSt w1 B g v l e) (hg : w1.grownBy w2 v.ownBlock) :
    w2.cell? ⟨g, 0, none⟩ = some v ∧ w2.cell? ⟨g, 1, none⟩ = some (.int .i64 e) ∧ w2.frozen? ⟨g, 0, none⟩ = false ∧ w2.frozen? ⟨g, 1, none⟩ = false :=
  cell_of_two (by rw [hg.block g (lt_of_block h.blk) (fun e => h.ne e.symm)]; exact h.blk)

set_option maxRecDepth 100000 in
set_option maxHeartbeats 400000 in
theorem wNumber_good {w : World} {B g : Nat} {v : Value} {l : List UInt8} (hst : WrSt w B g v l 0) (n : Int) (h0 : 0 ≤ n) (h1 : n < 4611686018427387904) (hl : l.length + 9 ≤ 140737488355328) :
    Calls Tryd.prog 24 #[.pointer (some ⟨g, 0, none⟩), .int .i64 n] w (WrTo w B g v (l ++ enc n.toNat) 0) := by
  have hlt := lt_of_block hst.blk
  obtain ⟨c0, c1, f0, f1⟩ := cell_of_two hst.blk
  go_enter Tryd.func24, Tryd.ntmps24
  go_wp2_with fail
  have hlen := enc_len9 n.toNat (by omega)
  refine (put_int _ _ _ (by decide) h0 h1).mono ?_
  rintro e w1 ⟨rfl, hb⟩
  have hst1 := hst.below hb
  obtain ⟨d0, d1, g0, g1⟩ := cell_of_two hst1.blk
  clear c0 c1 f0 f1
  have hz := putB_size ⟨#[]⟩ n.toNat
  have hz2 : (putB ⟨#[]⟩ n.toNat).size ≤ 9 := by rw [hz]; show 0 + _ ≤ 9; omega
  have ht := putB_toList ⟨#[]⟩ n.toNat
  have HT : Hid ((putB ⟨#[]⟩ n.toNat).data.toList = enc n.toNat) := Lib.hid (by rw [ht]; rfl)
  clear hz ht
  generalize putB ⟨#[]⟩ n.toNat = s at *
  go_wp2_with (first | (at_builtin; refine wpList_append_str (S := WrS g v) rfl _ _ 69 9 rfl info_u8W Tryd.underlying69 Tryd.underlying9 hst1.own (Upd.refl _ _) hst1.le (by omega) (fun k hk => .inl (.inr hk)) rfl rfl ?_; intro v' w2 hown' hgrow hupd hblk; obtain ⟨k0, k1, k2, k3⟩ := hst1.cells2 hgrow; obtain ⟨ao, cp, rfl⟩ := owns_slice hown'))
  go_end0
  have hfin := WrTo.mk (e' := 0) hb hst1 hown' hgrow hblk hlt
  rw [List.length_append, toList_length, HT.out] at hfin
  exact hfin

set_option maxRecDepth 100000 in
set_option maxHeartbeats 400000 in
theorem wNumber_bad {w : World} {B g : Nat} {v : Value} {l : List UInt8} (hst : WrSt w B g v l 0) (n : Int) (hn : n < 0 ∨ 4611686018427387904 ≤ n) (hl : l.length ≤ 140737488355328) :
    Calls Tryd.prog 24 #[.pointer (some ⟨g, 0, none⟩), .int .i64 n] w (WrTo w B g v l 3) := by
  have hlt := lt_of_block hst.blk
  obtain ⟨c0, c1, f0, f1⟩ := cell_of_two hst.blk
  go_enter Tryd.func24, Tryd.ntmps24
  go_wp2_with fail
  refine (put_bad _ _ _ hn).mono ?_
  rintro e w1 ⟨rfl, rfl⟩
  have hb := Below.refl w.heap.size w
  have hst1 := hst.below hb
  obtain ⟨d0, d1, g0, g1⟩ := cell_of_two hst1.blk
  clear c0 c1 f0 f1
  have hz0 : (⟨#[]⟩ : ByteArray).size = 0 := rfl
  go_wp2_with (first | (at_builtin; refine wpList_append_str (S := WrS g v) rfl _ _ 69 9 rfl info_u8W Tryd.underlying69 Tryd.underlying9 hst1.own (Upd.refl _ _) hst1.le (by omega) (fun k hk => .inl (.inr hk)) rfl rfl ?_; intro v' w2 hown' hgrow hupd hblk; obtain ⟨k0, k1, k2, k3⟩ := hst1.cells2 hgrow; obtain ⟨ao, cp, rfl⟩ := owns_slice hown'))
  go_end0
  have hfin := WrTo.mk (e' := 3) hb hst1 hown' hgrow hblk hlt
  simpa using hfin

set_option maxRecDepth 100000 in
set_option maxHeartbeats 400000 in
theorem wNumber_err {w : World} {B g : Nat} {v : Value} {l : List UInt8} {er : Int} (hst : WrSt w B g v l er) (he : er ≠ 0) (n : Int) :
    Calls Tryd.prog 24 #[.pointer (some ⟨g, 0, none⟩), .int .i64 n] w (WrTo w B g v l er) := by
  have he' : (er == 0) = false := by simpa using he
  have he2 : (er != 0) = true := by simpa using he
  clear he
  obtain ⟨c0, c1, f0, f1⟩ := cell_of_two hst.blk
  go_enter Tryd.func24, Tryd.ntmps24
  go_wp2_with fail
  go_end0
  exact WrTo.same hst

theorem WrSt.below' {w w' : World} {B g : Nat} {v : Value} {l l' : List UInt8} {e e' : Int} {en : Ending} (h : WrSt w B g v l e) (hg : B ≤ g) (ht : WrTo w B g v l' e' en w') : Below B w w' := by
  obtain ⟨_, v', _, hu, _⟩ := ht
  refine hu.below h.le ?_
  intro k hk
  rcases hk with rfl | hk
  · exact hg
  · exact (h.own.lt k hk).1

/-- What the methods do to bytes and error. -/
def wNum (st : List UInt8 × Int) (n : Int) : List UInt8 × Int := if st.2 ≠ 0 then st else if 0 ≤ n ∧ n < 4611686018427387904 then (st.1 ++ enc n.toNat, 0) else (st.1, 3)
def wTxt (st : List UInt8 × Int) (t : ByteArray) : List UInt8 × Int := if st.2 ≠ 0 then st else if t.size ≤ 4096 then (st.1 ++ (enc t.size ++ t.data.toList), 0) else (st.1, 1)
def wByt (st : List UInt8 × Int) (t : ByteArray) : List UInt8 × Int := if st.2 ≠ 0 then st else (st.1 ++ t.data.toList, 0)

theorem wNumber_any {w : World} {B g : Nat} {v : Value} {st : List UInt8 × Int} (hst : WrSt w B g v st.1 st.2) (n : Int) (hl : st.1.length + 9 ≤ 140737488355328) :
    Calls Tryd.prog 24 #[.pointer (some ⟨g, 0, none⟩), .int .i64 n] w (WrTo w B g v (wNum st n).1 (wNum st n).2) := by
  obtain ⟨l, er⟩ := st
  simp only at hst hl
  unfold wNum
  by_cases he : er = 0
  · subst he
    rw [if_neg (by simp)]
    by_cases hn : 0 ≤ n ∧ n < 4611686018427387904
    · rw [if_pos hn]; exact wNumber_good hst n hn.1 hn.2 hl
    · rw [if_neg hn]; exact wNumber_bad hst n (by omega) (by omega)
  · rw [if_pos he]; exact wNumber_err hst he n

/-- What Done answers. -/
def doneV (st : List UInt8 × Int) : Value := if st.2 = 0 then .tuple #[.string ⟨st.1.toArray⟩, .int .i64 0] else .tuple #[.string ⟨#[]⟩, .int .i64 st.2]

set_option maxRecDepth 100000 in
set_option maxHeartbeats 400000 in
theorem wDone_any {w : World} {B g : Nat} {v : Value} {st : List UInt8 × Int} (hst : WrSt w B g v st.1 st.2) :
    Calls Tryd.prog 26 #[.pointer (some ⟨g, 0, none⟩)] w fun e w' => e = .returned (doneV st) ∧ ∃ n, w' = w.drewN n := by
  obtain ⟨l, er⟩ := st
  simp only at hst
  obtain ⟨c0, c1, f0, f1⟩ := cell_of_two hst.blk
  have hr := rdRow_of_owns hst.own
  unfold doneV
  by_cases he : er = 0
  · subst he
    rw [if_pos rfl]
    go_enter Tryd.func26, Tryd.ntmps26
    go_wp2_with (refine wpList_bytes_string rfl _ _ _ _ rfl Tryd.underlying69 Tryd.underlying5 Tryd.underlying9 hr rfl ?_)
    go_ret2
    exact ⟨rfl, 0, rfl⟩
  · rw [if_neg he]
    have he' : (er == 0) = false := by simpa using he
    have he2 : (er != 0) = true := by simpa using he
    clear he
    go_enter Tryd.func26, Tryd.ntmps26
    go_wp2_with fail
    go_region
    go_wp2_with fail
    go_ret2
    exact ⟨rfl, 1, rfl⟩

end Go.Proofs.YtmacceamebdelaaDoor
/-! WireReader -/
namespace Go.Proofs.YtmacceamebdelaaDoor
open Go.RowKit
set_option linter.unusedVariables false

/-- Block g is a reader: what is left, and the error. -/
structure RdSt (w : World) (g : Nat) (st : ByteArray × Int) : Prop where
  blk : w.heap[g]? = some (.cells #[.string st.1, .int .i64 st.2] 114 (0, 0))

theorem RdSt.upd {w w' : World} {g : Nat} {st : ByteArray × Int} (h : RdSt w g st) {S : Nat → Prop} (hu : Upd S w w') (h1 : ¬ S g) : RdSt w' g st :=
  ⟨by rw [hu.block g (lt_of_block h.blk) h1]; exact h.blk⟩
theorem RdSt.below {w w' : World} {g : Nat} {st : ByteArray × Int} (h : RdSt w g st) (hu : Below w.heap.size w w') : RdSt w' g st :=
  h.upd (S := fun _ => False) (Upd.of_below hu) (fun h => h)

/-- What a method leaves. -/
def RdTo (w : World) (g : Nat) (v : Value) (st' : ByteArray × Int) (e : Ending) (w' : World) : Prop :=
  e = .returned v ∧ RdSt w' g st' ∧ Upd (fun k => k = g) w w'

theorem RdTo.same {w : World} {g : Nat} {v : Value} {st : ByteArray × Int} (h : RdSt w g st) : RdTo w g v st (.returned v) w := ⟨rfl, h, Upd.refl _ _⟩
theorem RdTo.mk {w : World} {g : Nat} {v : Value} {st : ByteArray × Int} (h : RdSt w g st) (r : ByteArray) (e : Int) :
    RdTo w g v (r, e) (.returned v) ((w.setCell ⟨g, 0, none⟩ (.string r)).setCell ⟨g, 1, none⟩ (.int .i64 e)) :=
  ⟨rfl, ⟨two_setCell1 (two_setCell0 h.blk)⟩, ((Upd.refl (fun k => k = g) w).setCell (a := ⟨g, 0, none⟩) (.inl rfl) _).setCell (a := ⟨g, 1, none⟩) (.inl rfl) _⟩
theorem RdTo.mk1 {w : World} {g : Nat} {v : Value} {r : ByteArray} {e0 : Int} (h : RdSt w g (r, e0)) (e : Int) :
    RdTo w g v (r, e) (.returned v) (w.setCell ⟨g, 1, none⟩ (.int .i64 e)) :=
  ⟨rfl, ⟨two_setCell1 h.blk⟩, (Upd.refl (fun k => k = g) w).setCell (a := ⟨g, 1, none⟩) (.inl rfl) _⟩
theorem RdTo.mk0 {w : World} {g : Nat} {v : Value} {r0 : ByteArray} {e : Int} (h : RdSt w g (r0, e)) (r : ByteArray) :
    RdTo w g v (r, e) (.returned v) (w.setCell ⟨g, 0, none⟩ (.string r)) :=
  ⟨rfl, ⟨two_setCell0 h.blk⟩, (Upd.refl (fun k => k = g) w).setCell (a := ⟨g, 0, none⟩) (.inl rfl) _⟩

/-- What the methods do: the answer, and the state behind it. -/
def rNum (st : ByteArray × Int) : Nat × (ByteArray × Int) :=
  if st.2 ≠ 0 then (0, st) else match get st.1.data.toList with
    | none => (0, (st.1, 2))
    | some (n, k) => (n, (st.1.extract k st.1.size, 0))
def rTxt (st : ByteArray × Int) : ByteArray × (ByteArray × Int) :=
  if st.2 ≠ 0 then (⟨#[]⟩, st) else ((getText st.1).1, (st.1.extract (getText st.1).2.1 st.1.size, ((getText st.1).2.2 : Int)))
def rByt (st : ByteArray × Int) (n : Int) : ByteArray × (ByteArray × Int) :=
  if st.2 ≠ 0 then (⟨#[]⟩, st) else if n < 0 ∨ st.1.size < n then (⟨#[]⟩, (st.1, 2)) else (st.1.extract 0 n.toNat, (st.1.extract n.toNat st.1.size, 0))

theorem getText_le (s : ByteArray) : (getText s).2.1 ≤ s.size := by
  unfold getText
  cases hg : get s.data.toList with
  | none => simp
  | some nk =>
    obtain ⟨n, k⟩ := nk
    simp only
    split
    · simp
    · split
      · simp
      · simp only; omega

theorem extract_allR (s : ByteArray) : s.extract 0 s.size = s := by
  apply bs_ext; rw [toList_take, List.take_of_length_le (by rw [toList_length]; omega)]

set_option maxRecDepth 100000 in
set_option maxHeartbeats 400000 in
theorem rNumber_any {w : World} {g : Nat} {st : ByteArray × Int} (hst : RdSt w g st) (hs : st.1.size ≤ maxLen) :
    Calls Tryd.prog 42 #[.pointer (some ⟨g, 0, none⟩)] w (RdTo w g (.int .i64 (rNum st).1) (rNum st).2) := by
  obtain ⟨s, er⟩ := st
  obtain ⟨c0, c1, f0, f1⟩ := cell_of_two hst.blk
  simp only at hs c0 c1
  unfold rNum
  by_cases he : er = 0
  · subst he
    rw [if_neg (by simp)]
    cases hg : get s.data.toList with
    | none =>
      have HG := Lib.hid hg; clear hg
      have hx := extract_allR s
      simp only
      go_enter Tryd.func42, Tryd.ntmps42
      go_wp2_with fail
      refine (get_any _ _ hs).mono ?_
      rintro e w1 ⟨rfl, rfl⟩
      rw [HG.out, getV]
      go_wp2_with fail
      go_ret
      exact RdTo.mk hst _ _
    | some nk =>
      obtain ⟨n, k⟩ := nk
      obtain ⟨hn, hkk, htt, hk1, hk9, hkl⟩ := get_some hg
      clear hkk htt
      rw [toList_length] at hkl
      have HG := Lib.hid hg; clear hg
      simp only
      go_enter Tryd.func42, Tryd.ntmps42
      go_wp2_with fail
      refine (get_any _ _ hs).mono ?_
      rintro e w1 ⟨rfl, rfl⟩
      rw [HG.out, getV]
      go_wp2_with fail
      go_ret
      exact RdTo.mk hst _ _
  · rw [if_pos he]
    have he' : (er == 0) = false := by simpa using he
    have he2 : (er != 0) = true := by simpa using he
    clear he
    go_enter Tryd.func42, Tryd.ntmps42
    go_wp2_with fail
    go_ret
    exact RdTo.same hst

set_option maxRecDepth 100000 in
set_option maxHeartbeats 400000 in
theorem rBytes_any {w : World} {g : Nat} {st : ByteArray × Int} (hst : RdSt w g st) (hs : st.1.size ≤ 4611686018427387904) (n : Int) :
    Calls Tryd.prog 43 #[.pointer (some ⟨g, 0, none⟩), .int .i64 n] w (RdTo w g (.string (rByt st n).1) (rByt st n).2) := by
  obtain ⟨s, er⟩ := st
  obtain ⟨c0, c1, f0, f1⟩ := cell_of_two hst.blk
  simp only at hs c0 c1
  unfold rByt
  by_cases he : er = 0
  · subst he
    rw [if_neg (by simp)]
    simp only
    by_cases h0 : n < 0
    · rw [if_pos (.inl h0)]
      go_enter Tryd.func43, Tryd.ntmps43
      go_wp2_with fail
      go_ret
      exact RdTo.mk1 hst _
    · by_cases h1 : s.size < n
      · rw [if_pos (.inr h1)]
        go_enter Tryd.func43, Tryd.ntmps43
        go_wp2_with fail
        go_ret
        exact RdTo.mk1 hst _
      · rw [if_neg (by omega)]
        obtain ⟨k, rfl⟩ := Int.eq_ofNat_of_zero_le (show 0 ≤ n by omega)
        rw [Int.toNat_natCast]
        go_enter Tryd.func43, Tryd.ntmps43
        go_wp2_with fail
        go_ret
        exact RdTo.mk0 hst _
  · rw [if_pos he]
    have he' : (er == 0) = false := by simpa using he
    have he2 : (er != 0) = true := by simpa using he
    clear he
    go_enter Tryd.func43, Tryd.ntmps43
    go_wp2_with fail
    go_ret
    exact RdTo.same hst

set_option maxRecDepth 100000 in
set_option maxHeartbeats 400000 in
theorem rLeft_any {w : World} {g : Nat} {st : ByteArray × Int} (hst : RdSt w g st) :
    Calls Tryd.prog 45 #[.pointer (some ⟨g, 0, none⟩)] w fun e w' => e = .returned (.int .i64 st.1.size) ∧ w = w' := by
  obtain ⟨c0, c1, f0, f1⟩ := cell_of_two hst.blk
  go_enter Tryd.func45, Tryd.ntmps45
  go_wp2_with fail
  go_ret
  exact ⟨rfl, rfl⟩

set_option maxRecDepth 100000 in
set_option maxHeartbeats 400000 in
theorem rBad_any {w : World} {g : Nat} {st : ByteArray × Int} (hst : RdSt w g st) :
    Calls Tryd.prog 44 #[.pointer (some ⟨g, 0, none⟩)] w fun e w' => e = .returned (.int .i64 st.2) ∧ w = w' := by
  obtain ⟨c0, c1, f0, f1⟩ := cell_of_two hst.blk
  go_enter Tryd.func44, Tryd.ntmps44
  go_wp2_with fail
  go_ret
  exact ⟨rfl, rfl⟩

set_option maxRecDepth 100000 in
set_option maxHeartbeats 400000 in
theorem read_any (s : ByteArray) (w : World) :
    Calls Tryd.prog 41 #[.string s] w fun e w' => e = .returned (.pointer (some ⟨w.heap.size, 0, none⟩)) ∧ RdSt w' w.heap.size (s, 0) ∧ Below w.heap.size w w' ∧ w'.heap.size = w.heap.size + 1 := by
  go_enter Tryd.func41, Tryd.ntmps41
  go_wp2_with fail
  go_ret
  exact ⟨rfl, ⟨heap_alloc_new _ _⟩, (Below.refl _ _).alloc (Nat.le_refl _) _, by simp⟩

end Go.Proofs.YtmacceamebdelaaDoor
/-! WireBytes -/
namespace Go.Proofs.YtmacceamebdelaaDoor
open Go.RowKit
set_option linter.unusedVariables false

set_option maxRecDepth 100000 in
set_option maxHeartbeats 400000 in
theorem wBytes_err {w : World} {B g : Nat} {v : Value} {l : List UInt8} {er : Int} (hst : WrSt w B g v l er) (he : er ≠ 0) (t : ByteArray) :
    Calls Tryd.prog 25 #[.pointer (some ⟨g, 0, none⟩), .string t] w (WrTo w B g v l er) := by
  have he' : (er == 0) = false := by simpa using he
  have he2 : (er != 0) = true := by simpa using he
  clear he
  obtain ⟨c0, c1, f0, f1⟩ := cell_of_two hst.blk
  go_enter Tryd.func25, Tryd.ntmps25
  go_wp2_with fail
  go_end0
  exact WrTo.same hst

set_option maxRecDepth 100000 in
set_option maxHeartbeats 400000 in
theorem wBytes_good {w : World} {B g : Nat} {v : Value} {l : List UInt8} (hst : WrSt w B g v l 0) (t : ByteArray) (hl : l.length + t.size ≤ 140737488355328) :
    Calls Tryd.prog 25 #[.pointer (some ⟨g, 0, none⟩), .string t] w (WrTo w B g v (l ++ t.data.toList) 0) := by
  have hlt := lt_of_block hst.blk
  obtain ⟨c0, c1, f0, f1⟩ := cell_of_two hst.blk
  have hst1 := hst
  go_enter Tryd.func25, Tryd.ntmps25
  go_wp2_with (first | (at_builtin; refine wpList_append_str (S := WrS g v) rfl _ _ 69 9 rfl info_u8W Tryd.underlying69 Tryd.underlying9 hst1.own (Upd.refl _ _) hst1.le (by omega) (fun k hk => .inl (.inr hk)) rfl rfl ?_; intro v' w2 hown' hgrow hupd hblk; obtain ⟨k0, k1, k2, k3⟩ := hst1.cells2 hgrow; obtain ⟨ao, cp, rfl⟩ := owns_slice hown'))
  go_end0
  have hfin := WrTo.mk0 hst1 hown' hgrow hblk hlt
  rw [List.length_append, toList_length] at hfin
  exact hfin

theorem wBytes_any {w : World} {B g : Nat} {v : Value} {st : List UInt8 × Int} (hst : WrSt w B g v st.1 st.2) (t : ByteArray) (hl : st.1.length + t.size ≤ 140737488355328) :
    Calls Tryd.prog 25 #[.pointer (some ⟨g, 0, none⟩), .string t] w (WrTo w B g v (wByt st t).1 (wByt st t).2) := by
  obtain ⟨l, er⟩ := st
  simp only at hst hl
  unfold wByt
  by_cases he : er = 0
  · subst he
    rw [if_neg (by simp)]; exact wBytes_good hst t hl
  · rw [if_pos he]; exact wBytes_err hst he t

end Go.Proofs.YtmacceamebdelaaDoor
/-! WireRowsLaw -/
namespace Go.Proofs.YtmacceamebdelaaDoor
open Go.RowKit
set_option linter.unusedVariables false

/-- What the writer holds behind k rounds. -/
def rowsW (ns : List Int) (ts : List ByteArray) : Nat → List UInt8 × Int
  | 0 => ([], 0)
  | k + 1 =>
    let st := match ns[k]? with | some n => wNum (rowsW ns ts k) n | none => rowsW ns ts k
    match ts[k]? with | some t => wTxt st t | none => st

def halfW (ns : List Int) (ts : List ByteArray) (k : Nat) : List UInt8 × Int := match ns[k]? with | some n => wNum (rowsW ns ts k) n | none => rowsW ns ts k
theorem rowsW_succ (ns : List Int) (ts : List ByteArray) (k : Nat) : rowsW ns ts (k + 1) = match ts[k]? with | some t => wTxt (halfW ns ts k) t | none => halfW ns ts k := rfl

theorem wNum_len (st : List UInt8 × Int) (n : Int) : (wNum st n).1.length ≤ st.1.length + 9 := by
  unfold wNum
  split
  · omega
  · split
    · rename_i h; have := enc_len9 n.toNat (by omega); simp; omega
    · simp
theorem wTxt_len (st : List UInt8 × Int) (t : ByteArray) : (wTxt st t).1.length ≤ st.1.length + 4105 := by
  unfold wTxt
  split
  · omega
  · split
    · have := enc_len9 t.size (by omega); simp; omega
    · simp
theorem halfW_len (ns : List Int) (ts : List ByteArray) (k : Nat) : (halfW ns ts k).1.length ≤ (rowsW ns ts k).1.length + 9 := by
  unfold halfW
  cases ns[k]? with
  | none => simp
  | some n => exact wNum_len _ _
theorem rowsW_len (ns : List Int) (ts : List ByteArray) : ∀ k, (rowsW ns ts k).1.length ≤ k * 4114
  | 0 => by simp [rowsW]
  | k + 1 => by
    have h1 := rowsW_len ns ts k
    have h2 := halfW_len ns ts k
    rw [rowsW_succ]
    cases ts[k]? with
    | none => simp only; omega
    | some t => have := wTxt_len (halfW ns ts k) t; simp only; omega

/-- What was put without an error is a beginning of what is put later without one. -/
def Goes (a b : List UInt8 × Int) : Prop := b.2 = 0 → a.2 = 0 ∧ ∃ x, b.1 = a.1 ++ x
theorem Goes.refl (a : List UInt8 × Int) : Goes a a := fun h => ⟨h, [], by simp⟩
theorem Goes.trans {a b c : List UInt8 × Int} (h : Goes a b) (k : Goes b c) : Goes a c := fun hc => by
  obtain ⟨hb, y, hy⟩ := k hc
  obtain ⟨ha, x, hx⟩ := h hb
  exact ⟨ha, x ++ y, by rw [hy, hx, List.append_assoc]⟩
theorem goes_num (st : List UInt8 × Int) (n : Int) : Goes st (wNum st n) := by
  intro h
  unfold wNum at *
  by_cases he : st.2 = 0
  · rw [if_neg (by simpa using he)] at *
    by_cases hn : 0 ≤ n ∧ n < 4611686018427387904
    · rw [if_pos hn] at *; exact ⟨he, _, rfl⟩
    · rw [if_neg hn] at h; simp at h
  · rw [if_pos he] at h; exact absurd h he
theorem goes_txt (st : List UInt8 × Int) (t : ByteArray) : Goes st (wTxt st t) := by
  intro h
  unfold wTxt at *
  by_cases he : st.2 = 0
  · rw [if_neg (by simpa using he)] at *
    by_cases hn : t.size ≤ 4096
    · rw [if_pos hn] at *; exact ⟨he, _, rfl⟩
    · rw [if_neg hn] at h; simp at h
  · rw [if_pos he] at h; exact absurd h he
theorem goes_half (ns : List Int) (ts : List ByteArray) (k : Nat) : Goes (rowsW ns ts k) (halfW ns ts k) := by
  unfold halfW
  cases ns[k]? with
  | none => exact Goes.refl _
  | some n => exact goes_num _ _
theorem goes_full (ns : List Int) (ts : List ByteArray) (k : Nat) : Goes (halfW ns ts k) (rowsW ns ts (k + 1)) := by
  rw [rowsW_succ]
  cases ts[k]? with
  | none => exact Goes.refl _
  | some n => exact goes_txt _ _
theorem goes_all (ns : List Int) (ts : List ByteArray) (k : Nat) : ∀ d, Goes (rowsW ns ts k) (rowsW ns ts (k + d))
  | 0 => Goes.refl _
  | d + 1 => (goes_all ns ts k d).trans ((goes_half ns ts (k + d)).trans (goes_full ns ts (k + d)))

/-- A number that was put is read, and what stands behind it is left. -/
theorem rNum_back {s : ByteArray} {n : Int} {y : List UInt8} (h0 : 0 ≤ n) (h1 : n < 4611686018427387904) (hs : s.data.toList = enc n.toNat ++ y) :
    ((rNum (s, 0)).1 : Int) = n ∧ (rNum (s, 0)).2.2 = 0 ∧ (rNum (s, 0)).2.1.data.toList = y := by
  have hg : get s.data.toList = some (n.toNat, (enc n.toNat).length) := by rw [hs]; exact get_enc _ _ (by omega)
  unfold rNum
  simp only [hg]
  refine ⟨by simp; omega, by simp, ?_⟩
  simp only [ne_eq, not_true_eq_false, if_false]
  rw [toList_drop, hs, List.drop_left' rfl]
theorem rTxt_back {s t : ByteArray} {y : List UInt8} (ht : t.size ≤ 4096) (hs : s.data.toList = (enc t.size ++ t.data.toList) ++ y) :
    (rTxt (s, 0)).1 = t ∧ (rTxt (s, 0)).2.2 = 0 ∧ (rTxt (s, 0)).2.1.data.toList = y := by
  have hz : s.size = (enc t.size).length + t.size + y.length := by rw [← toList_length, hs]; simp; omega
  have hg : getText s = (t, (enc t.size).length + t.size, 0) := by
    rw [getText, hs, List.append_assoc, get_enc _ _ (by omega)]
    simp only
    rw [if_neg (by omega), if_neg (by omega)]
    have e : s.extract (enc t.size).length ((enc t.size).length + t.size) = t := by
      apply bs_ext
      rw [toList_extract, hs, List.append_assoc, List.drop_left' rfl, Nat.add_sub_cancel_left, List.take_left' (toList_length t)]
    rw [e]
  unfold rTxt
  simp only [hg, ne_eq, not_true_eq_false, if_false]
  refine ⟨trivial, rfl, ?_⟩
  rw [toList_drop, hs, List.drop_left' (by simp)]

/-- Where the round puts a number, it is one that is read. -/
theorem half_num {ns : List Int} {ts : List ByteArray} {k : Nat} {n : Int} (hn : ns[k]? = some n) (h : (halfW ns ts k).2 = 0) :
    0 ≤ n ∧ n < 4611686018427387904 ∧ (halfW ns ts k).1 = (rowsW ns ts k).1 ++ enc n.toNat := by
  unfold halfW at *
  simp only [hn] at *
  unfold wNum at *
  by_cases he : (rowsW ns ts k).2 = 0
  · rw [if_neg (by simpa using he)] at *
    by_cases hn : 0 ≤ n ∧ n < 4611686018427387904
    · rw [if_pos hn]; exact ⟨hn.1, hn.2, rfl⟩
    · rw [if_neg hn] at h; simp at h
  · rw [if_pos he] at h; exact absurd h he
theorem full_txt {ns : List Int} {ts : List ByteArray} {k : Nat} {t : ByteArray} (hn : ts[k]? = some t) (h : (rowsW ns ts (k + 1)).2 = 0) :
    t.size ≤ 4096 ∧ (rowsW ns ts (k + 1)).1 = (halfW ns ts k).1 ++ (enc t.size ++ t.data.toList) := by
  rw [rowsW_succ] at *
  simp only [hn] at *
  unfold wTxt at *
  by_cases he : (halfW ns ts k).2 = 0
  · rw [if_neg (by simpa using he)] at *
    by_cases hn : t.size ≤ 4096
    · rw [if_pos hn]; exact ⟨hn, rfl⟩
    · rw [if_neg hn] at h; simp at h
  · rw [if_pos he] at h; exact absurd h he

theorem back_num {ns : List Int} {ts : List ByteArray} {N k : Nat} {x : Int} {s : ByteArray} {more : List UInt8} (hN : (rowsW ns ts N).2 = 0) (hk : k < N) (hx : ns[k]? = some x)
    (hs : s.data.toList = ((rowsW ns ts N).1 ++ more).drop (rowsW ns ts k).1.length) :
    ∃ (m : Nat) (s' : ByteArray), rNum (s, 0) = (m, (s', 0)) ∧ (m : Int) = x ∧ s'.data.toList = ((rowsW ns ts N).1 ++ more).drop (halfW ns ts k).1.length := by
  obtain ⟨d, rfl⟩ : ∃ d, N = (k + 1) + d := ⟨N - (k + 1), by omega⟩
  obtain ⟨h1, y, hy⟩ := ((goes_full ns ts k).trans (goes_all ns ts (k + 1) d)) hN
  obtain ⟨h0, h2, h3⟩ := half_num hx h1
  have e : s.data.toList = enc x.toNat ++ (y ++ more) := by
    rw [hs, hy, h3, List.append_assoc, List.append_assoc, List.drop_left' rfl]
  obtain ⟨a, b, c⟩ := rNum_back h0 h2 e
  refine ⟨_, _, Prod.ext rfl (Prod.ext rfl b), a, ?_⟩
  rw [c, hy, List.append_assoc, List.drop_left' rfl]

theorem back_txt {ns : List Int} {ts : List ByteArray} {N k : Nat} {x : ByteArray} {s : ByteArray} {more : List UInt8} (hN : (rowsW ns ts N).2 = 0) (hk : k < N) (hx : ts[k]? = some x)
    (hs : s.data.toList = ((rowsW ns ts N).1 ++ more).drop (halfW ns ts k).1.length) :
    ∃ s' : ByteArray, rTxt (s, 0) = (x, (s', 0)) ∧ s'.data.toList = ((rowsW ns ts N).1 ++ more).drop (rowsW ns ts (k + 1)).1.length := by
  obtain ⟨d, rfl⟩ : ∃ d, N = (k + 1) + d := ⟨N - (k + 1), by omega⟩
  obtain ⟨h1, y, hy⟩ := goes_all ns ts (k + 1) d hN
  obtain ⟨h2, h3⟩ := full_txt hx h1
  have e : s.data.toList = (enc x.size ++ x.data.toList) ++ (y ++ more) := by
    rw [hs, hy, h3, List.append_assoc, List.append_assoc, List.drop_left' rfl]
  obtain ⟨a, b, c⟩ := rTxt_back h2 e
  refine ⟨_, Prod.ext a (Prod.ext rfl b), ?_⟩
  rw [c, hy, List.append_assoc, List.drop_left' rfl]

end Go.Proofs.YtmacceamebdelaaDoor
/-! Blk -/
namespace Go.Proofs.YtmacceamebdelaaDoor
open Go.RowKit
set_option linter.unusedVariables false
set_option linter.unusedSimpArgs false

theorem upd_setRow {w : World} {g : Nat} (cs : Array Value) : Upd (· = g) w (w.setRow g cs) :=
  ⟨rfl, rfl, rfl, by simp, fun k hk hn => setRow_other w g k cs hn⟩

/-- An operation whose guard says yes. -/
theorem wpList_yes {P : Program} {ops : Array Oper} {rest : List Oper} {o : Oper} {a : Act} {w : World} {Q : Exit → Act → World → Prop} (hw : Region.wanted o (yielded ops a.tmps) = true)
    (h : ∀ K : Act → World → Prop, (∀ a w, wpList P ops Q rest a w → K a w) → o.wp P a w K Q) : wpList P ops Q (o :: rest) a w :=
  wpList_step fun K hK => by rw [if_pos hw]; exact h K hK
/-- A store of a whole block. -/
theorem wpList_store_blk {P : Program} {ops : Array Oper} {rest : List Oper} {o : Oper} {a : Act} {w : World} {Q : Exit → Act → World → Prop} (hw : Region.wanted o (yielded ops a.tmps) = true) (ty : TypeId) (x y : Operand) (ho : o.op = .store ty x y)
    (g : Nat) (cells : Array Value) (hx : a.eval x = .pointer (some ⟨g, 0, none⟩)) (hy : a.eval y = .agg cells)
    {t : TypeId} {old : Array Value} (hg : w.heap[g]? = some (.cells old t (0, 0))) (hi : (P.info? ty).map (·.size) = some cells.size)
    (hold : old.size = cells.size) (h1 : cells.all (·.oneCell') = true)
    (h : ∀ w' : World, w'.heap[g]? = some (.cells cells t (0, 0)) → Upd (· = g) w w' → wpList P ops Q rest (a.put o.dst undef) w') : wpList P ops Q (o :: rest) a w :=
  wpList_yes hw fun _ hK => wp_store_row ty x y ho g cells hx hy t old hg hi hold h1 (hK _ _ (h _ (setRow_heap w g old cells t (0, 0) hg) (upd_setRow cells)))

/-- A load of a whole block. -/
theorem wpList_load_blk {P : Program} {ops : Array Oper} {rest : List Oper} {o : Oper} {a : Act} {w : World} {Q : Exit → Act → World → Prop} (hw : Region.wanted o (yielded ops a.tmps) = true) (ty : TypeId) (x : Operand) (ho : o.op = .load ty x)
    (g : Nat) (hx : a.eval x = .pointer (some ⟨g, 0, none⟩)) {t : TypeId} {cs : Array Value} (v : Value) (hv : v = .agg cs) {fr : Nat × Nat} (hg : w.heap[g]? = some (.cells cs t fr))
    {d : TypeDesc} (hu : P.underlying ty = some d) (hd : (match d with | .struct _ | .array _ _ => true | _ => false) = true) (hi : (P.info? ty).map (·.size) = some cs.size)
    (h : wpList P ops Q rest (a.put o.dst v) w) : wpList P ops Q (o :: rest) a w := by
  subst hv
  exact wpList_yes hw fun _ hK => wp_load_row ty x ho g hx t cs fr d hg hu hd hi (hK _ _ h)
theorem blk_below {w w' : World} {g : Nat} {o : Obj} (h : w.heap[g]? = some o) (hb : Below w.heap.size w w') : w'.heap[g]? = some o := by
  rw [hb.block _ (Array.getElem?_eq_some_iff.1 h).1]; exact h
theorem blk_upd {S : Nat → Prop} {w w' : World} {g : Nat} {o : Obj} (h : w.heap[g]? = some o) (hb : Upd S w w') (hn : ¬ S g) : w'.heap[g]? = some o := by
  rw [hb.block _ (Array.getElem?_eq_some_iff.1 h).1 hn]; exact h
theorem below_upd {w0 w w' : World} {B g : Nat} (h : Below B w0 w) (hu : Upd (· = g) w w') (hg : B ≤ g) (hB : B ≤ w.heap.size) : Below B w0 w' :=
  h.trans (hu.below hB (fun k hk => by omega))
end Go.Proofs.YtmacceamebdelaaDoor
/-! Heap -/
namespace Go.Proofs.YtmacceamebdelaaDoor
open Go.RowKit
set_option linter.unusedVariables false
theorem heap_old {w : World} {o x : Obj} {k : Nat} (h : w.heap[k]? = some x) : (w.alloc o).heap[k]? = some x := (Below.heap_alloc _ _ _ (Array.getElem?_eq_some_iff.1 h).1).trans h
theorem heap_new {w : World} {o : Obj} {n : Nat} (h : w.heap.size = n) : (w.alloc o).heap[n]? = some o := by subst h; exact heap_alloc_new w o
theorem cell_one {w : World} {b : Nat} {x : Value} {t : TypeId} {fr : Nat × Nat} (h : w.heap[b]? = some (.cells #[x] t fr)) : w.cell? ⟨b, 0, none⟩ = some x := by simp [World.cell?, h]
/-- A counter's step, as a measure. -/
theorem meas_step {n k : Nat} (i : Int) (hi : i = ((k + 1 : Nat) : Int)) (h : k < n) : n - (intOf (.int .i64 i)).toNat < n - (intOf (.int .i64 ((k : Nat) : Int))).toNat := by
  subst hi
  simp only [intOf, Int.toNat_natCast]
  omega
end Go.Proofs.YtmacceamebdelaaDoor
/-! Slice -/
namespace Go.Proofs.YtmacceamebdelaaDoor
open Go.RowKit
set_option linter.unusedVariables false
set_option linter.unusedSimpArgs false

theorem add_none {a : Addr} (h : a.spot = none) (k : Nat) : a.add k = ⟨a.block, a.off + k, none⟩ := by
  obtain ⟨b, o, s⟩ := a
  subst h
  exact addr_add b o k
section
variable {P : Program} {w : World} {size : Nat} {v : Value} {n : Nat} {xs : List Value}

theorem rd_len (h : rdRow w size v n xs) : xs.length = n * size := h.1
theorem rd_form (h : rdRow w size v n xs) : ∃ ao cap, v = .slice ao n cap := by
  obtain ⟨_, ao, cap, hv, _⟩ := h
  exact ⟨ao, cap, hv⟩
theorem rd_sliced {ao : Option Addr} {cap : Nat} (hr : rdRow w size (.slice ao n cap) n xs) (l h : Nat) (hl : l ≤ h) (hh : h ≤ n) :
    rdRow w size (sliced ao l h cap size) (h - l) ((xs.drop (l * size)).take ((h - l) * size)) := by
  obtain ⟨h1, ao', cap', hv, hle, hm, hz, hc⟩ := hr
  simp only [Value.slice.injEq, true_and] at hv
  obtain ⟨rfl, rfl⟩ := hv
  have hmul : h * size ≤ n * size := Nat.mul_le_mul_right _ hh
  have hmul2 : l * size ≤ h * size := Nat.mul_le_mul_right _ hl
  have hlen : ((xs.drop (l * size)).take ((h - l) * size)).length = (h - l) * size := by
    rw [List.length_take, List.length_drop, h1, Nat.sub_mul]; omega
  refine ⟨hlen, _, _, rfl, by omega, by omega, ?_, ?_⟩
  · intro hn
    cases ao with
    | none => have := hz rfl; omega
    | some a => simp at hn; split at hn <;> simp at hn
  · intro a ha j u hu
    have hjlt : j < (h - l) * size := by rw [← hlen]; exact (List.getElem?_eq_some_iff.1 hu).1
    have hpos : l < h := by
      rcases Nat.lt_or_ge l h with h' | h'
      · exact h'
      · rw [show h - l = 0 by omega, Nat.zero_mul] at hjlt; omega
    have hu' : xs[l * size + j]? = some u := by
      rw [List.getElem?_take, if_pos hjlt, List.getElem?_drop] at hu; exact hu
    rw [if_neg (by omega)] at ha
    cases ao with
    | none => simp at ha
    | some b =>
      simp at ha
      subst ha
      have h0 := hc b rfl _ u hu'
      have hx0 : 0 < xs.length := by have := (List.getElem?_eq_some_iff.1 hu').1; omega
      have h00 := hc b rfl 0 _ (List.getElem?_eq_getElem hx0)
      have hs : b.spot = none := by simpa [Addr.add] using World.cell?_spot h00
      rw [add_none hs, add_none (by rfl)]
      rw [add_none hs] at h0
      rw [show b.off + l * size + j = b.off + (l * size + j) by omega]
      exact h0
theorem elem_eq {t e : TypeId} (ht : P.underlying t = some (.slice e)) : P.elem t = e := by simp [Program.elem, ht]
theorem slice_to {t e : TypeId} (ht : P.underlying t = some (.slice e)) (hi : (P.info? e).map (·.size) = some size) (hr : rdRow w size v n xs) (k : Nat) (hk : k ≤ n) :
    ∃ v', (∀ w' : World, (Instr.sliceAt t v none (some (.int .i64 (k : Int))) none).run P w' = .ok v' w') ∧ rdRow w size v' k (xs.take (k * size)) := by
  obtain ⟨i, hi, hs⟩ := Option.map_eq_some_iff.1 hi
  obtain ⟨ao, cap, rfl⟩ := rd_form hr
  have hel := elem_eq ht
  have ht' : P.underlying t = some (.slice (P.elem t)) := by rw [hel]; exact ht
  have hcap : n ≤ cap := by
    obtain ⟨_, ao', cap', hv, hle, _⟩ := hr
    simp only [Value.slice.injEq, true_and] at hv
    omega
  have h := rd_sliced hr 0 k (by omega) hk
  refine ⟨sliced ao 0 k cap size, fun w' => ?_, ?_⟩
  · rw [run_sliceAt_slice _ _ _ _ _ _ ht', run_slice_h _ t ao n cap ht' .i64 k (by omega) (by omega)]
    simp [sizeOf, typeInfo, hel, hi, hs]
  · simpa using h
theorem slice_from {t e : TypeId} (ht : P.underlying t = some (.slice e)) (hi : (P.info? e).map (·.size) = some size) (hr : rdRow w size v n xs) (k : Nat) (hk : k ≤ n) :
    ∃ v', (∀ w' : World, (Instr.sliceAt t v (some (.int .i64 (k : Int))) none none).run P w' = .ok v' w') ∧ rdRow w size v' (n - k) (xs.drop (k * size)) := by
  obtain ⟨i, hi, hs⟩ := Option.map_eq_some_iff.1 hi
  obtain ⟨ao, cap, rfl⟩ := rd_form hr
  have hel := elem_eq ht
  have ht' : P.underlying t = some (.slice (P.elem t)) := by rw [hel]; exact ht
  have h := rd_sliced hr k n hk (Nat.le_refl _)
  have hx : (xs.drop (k * size)).take ((n - k) * size) = xs.drop (k * size) := by
    apply List.take_of_length_le
    rw [List.length_drop, hr.1, Nat.sub_mul]; exact Nat.le_refl _
  rw [hx] at h
  refine ⟨sliced ao k n cap size, fun w' => ?_, h⟩
  rw [run_sliceAt_slice _ _ _ _ _ _ ht', run_slice_l _ t ao n cap ht' .i64 k (by omega) (by omega)]
  simp [sizeOf, typeInfo, hel, hi, hs]
/-- A slice operation whose value is known. -/
theorem wpList_slice {ops : Array Oper} {rest : List Oper} {o : Oper} {a : Act} {Q : Exit → Act → World → Prop} (hw : Region.wanted o (yielded ops a.tmps) = true) (t : TypeId) (x : Operand) (lo hi : Option Operand)
    (ho : o.op = .slice t x lo hi none) {v' : Value} (hrun : ∀ w' : World, (Instr.sliceAt t (a.eval x) (lo.map a.eval) (hi.map a.eval) none).run P w' = .ok v' w')
    (h : wpList P ops Q rest (a.put o.dst v') w) : wpList P ops Q (o :: rest) a w := by
  refine wpList_yes hw fun K hK => ?_
  unfold Oper.wp execOp
  simp only [ho, Sem.run_bind, Option.map_none, hrun, Result.andThen_ok, Sem.run_pure]
  exact hK _ _ h
/-- The last element. -/
theorem rd_cell (h : rdRow w size v n xs) (j : Nat) (u : Value) (hu : xs[j]? = some u) : ∃ b off cap, v = .slice (some ⟨b, off, none⟩) n cap ∧ w.cell? ⟨b, off + j, none⟩ = some u ∧ b < w.heap.size := by
  obtain ⟨h1, ao, cap, rfl, hle, hm, hz, hc⟩ := h
  cases ao with
  | none =>
    have hj := (List.getElem?_eq_some_iff.1 hu).1
    have := hz rfl
    have hn0 : n = 0 := by omega
    rw [h1, hn0, Nat.zero_mul] at hj; omega
  | some a =>
    have h0 := hc a rfl j u hu
    have hx0 : 0 < xs.length := by have := (List.getElem?_eq_some_iff.1 hu).1; omega
    have h00 := hc a rfl 0 _ (List.getElem?_eq_getElem hx0)
    have hs : a.spot = none := by simpa [Addr.add] using World.cell?_spot h00
    have hb := World.block_lt_of_cell? w _ h0
    rw [add_none hs] at h0 hb
    obtain ⟨b, off, sp⟩ := a
    subst hs
    exact ⟨b, off, cap, rfl, h0, hb⟩
/-- 'append(s, x...)': s of the call's own, x a slice that can be read. -/
theorem wpList_append_rd {w0 : World} {B : Nat} {ops : Array Oper} {rest : List Oper} {o : Oper} {a : Act} {Q : Exit → Act → World → Prop} (hgd : o.guard = none) (s x : Operand) (t : TypeId)
    (ho : o.op = .call { callee := .builtin .append, args := #[s, x], argTypes := #[t, t] })
    {base : Nat} {e : TypeId} {z : Value} {bytes : Nat} (hinf : infoIs P e z size bytes) (ht : P.underlying t = some (.slice e)) (hzs : z.cells.size = size) (hsz : 0 < size) (hby : 0 < bytes)
    {m : Nat} {ys : List Value} {u : Value} (hown : w.ownsRow base e size v n xs) (hbel : Below B w0 w) (hB : B ≤ base) (hb : base ≤ w.heap.size)
    (hr : rdRow w size u m ys) (h1 : ∀ y ∈ ys, y.oneCell' = true) (hbytes : (n + m) * bytes ≤ 140737488355328)
    (hs : a.eval s = v) (hx : a.eval x = u)
    (h : ∀ v' w', w'.ownsRow base e size v' (n + m) (xs ++ ys) → Below B w0 w' → wpList P ops Q rest (a.put o.dst v') w') : wpList P ops Q (o :: rest) a w := by
  obtain ⟨i, hi, hz, hsize, hbt⟩ := info_parts hinf
  have hle : n + m ≤ (n + m) * bytes := Nat.le_mul_of_pos_right _ hby
  obtain ⟨hl, ao, cap, rfl, hle2, hm, hz0, hc⟩ := hr
  cases ao with
  | none =>
    have hcap := hz0 rfl
    have hm0 : m = 0 := by omega
    subst hcap hm0
    have hy : ys = [] := List.eq_nil_of_length_eq_zero (by rw [hl, Nat.zero_mul])
    subst hy
    refine wpList_plain hgd fun K hK => ?_
    have hrun := run_append_owned_none (P := P) w base t o.type e i size ht hi v n xs hown
    unfold Oper.wp execOp
    simp only [ho, resolve, invoke, builtin, Sem.run_bind, Sem.run_pure, Result.andThen_ok, List.map_toArray, List.map_cons, List.map_nil, hs, hx, hrun]
    exact hK _ _ (h v w (by simpa using hown) hbel)
  | some ad =>
    refine wpList_append_own _ hgd s x t ho base e i z size bytes ht hi hz hsize hbt hzs hsz v n xs hs hown ad m cap ys hx hl (hc ad rfl) h1 (by unfold maxLen; omega) hbytes hb ?_
    intro v' w' hown' hgrow _
    refine h v' w' hown' (hbel.grown hgrow (by have := hbel.size; omega) ?_)
    intro k hk
    have := (hown.lt k hk).1; omega
end
end Go.Proofs.YtmacceamebdelaaDoor
/-! Region -/
namespace Go.Proofs.YtmacceamebdelaaDoor
section
variable {P : Program} {ops : Array Oper} {Q : Exit → Act → World → Prop} {md : Region.Mode}

def wpAnyG (P : Program) (md : Region.Mode) (ops : Array Oper) (Q : Exit → Act → World → Prop) : Nat → (World → Prop) → Array Bool → Act → World → Prop
  | 0, _, listed, a, w => Region.ready md ops listed = [] ∧ Q .normal a w
  | fuel + 1, S, listed, a, w =>
    (Region.ready md ops listed = [] → Q .normal a w) ∧
    ∀ i ∈ Region.ready md ops listed, wpOp P ops Q i (fun a' w' => ∃ S' : World → Prop, (∀ x, S' x → S x) ∧ S' w' ∧ wpAnyG P md ops Q fuel S' (listed.setIfInBounds i true) a' w') a w

theorem wpAny_of_G : ∀ (fuel : Nat) (S : World → Prop) (listed : Array Bool) (a : Act) (w : World), wpAnyG P md ops Q fuel S listed a w → wpAny P md ops Q fuel listed a w
  | 0, _, _, _, _, h => h
  | fuel + 1, _, _, _, _, h => ⟨h.1, fun i hi => wpOp_mono (fun a' w' ⟨S', _, _, h'⟩ => wpAny_of_G fuel S' _ a' w' h') (h.2 i hi)⟩

theorem YieldsIf_mono {S S' : World → Prop} {o : Oper} {v : Value} {a : Act} (h : YieldsIf P ops S o v a) (hs : ∀ x, S' x → S x) : YieldsIf P ops S' o v a :=
  h.imp (fun ⟨hw, hv⟩ => ⟨hw, fun w hw' => hv w (hs w hw')⟩) id

theorem wpAnyG_first {i : Nat} {oi : Oper} {v : Value} (hi : ops[i]? = some oi) (hsel : ∀ (j : Nat) (o : Oper) cs b, ops[j]? = some o → o.op ≠ .select cs b)
    (hQ : ∀ c a w, Q (.panic c) (a.put oi.dst v) w → Q (.panic c) a w) :
    ∀ (fuel : Nat) (S : World → Prop) (listed : Array Bool) (a : Act) (w : World),
      (∀ j oj, ops[j]? = some oj → j ≠ i → listed.getD j true = false → (∀ e ∈ oj.after, Region.binds md e = true → e.on ≠ i) → oi.apart ops oj = true) →
      i ∈ Region.ready md ops listed → YieldsIf P ops S oi v a → S w →
      wpAnyG P md ops Q fuel S (listed.setIfInBounds i true) (a.put oi.dst v) w → wpAnyG P md ops Q (fuel + 1) S listed a w := by
  intro fuel
  induction fuel with
  | zero =>
    intro S listed a w _ hr hy hS H
    refine ⟨fun h => (by rw [h] at hr; cases hr), fun j hj => ?_⟩
    by_cases hji : j = i
    · subst hji; exact hy.wpOp hi hS ⟨S, fun _ h => h, hS, H⟩
    · have := ready_mono hj hji
      rw [H.1] at this
      cases this
  | succ fuel ih =>
    intro S listed a w hfree hr hy hS H
    refine ⟨fun h => (by rw [h] at hr; cases hr), fun j hj => ?_⟩
    by_cases hji : j = i
    · subst hji; exact hy.wpOp hi hS ⟨S, fun _ h => h, hS, H⟩
    · have h1 := H.2 j (ready_mono hj hji)
      obtain ⟨hjun, oj, hoj, hall⟩ := mem_ready.1 hj
      have hnot : ∀ e ∈ oj.after, Region.binds md e = true → e.on ≠ i := fun e he hb heq => by
        have h1 := hall e he hb
        have h0 := (mem_ready.1 hr).1
        rw [heq] at h1
        rcases Nat.lt_or_ge i listed.size with h' | h'
        · simp [h'] at h0 h1; rw [h0] at h1; cases h1
        · simp [Array.getElem?_eq_none h'] at h1
      have h2 := wpOp_putIf hoj (hfree j oj hoj hji hjun hnot) (fun cs b => hsel i oi cs b hi) (fun cs b => hsel j oj cs b hoj) hQ hy h1
      have hfree' : ∀ k ok, ops[k]? = some ok → k ≠ i → (listed.setIfInBounds j true).getD k true = false →
          (∀ e ∈ ok.after, Region.binds md e = true → e.on ≠ i) → oi.apart ops ok = true := fun k ok hk hki hun hno => by
        refine hfree k ok hk hki ?_ hno
        by_cases hjk : j = k
        · subst hjk; exact hjun
        · rw [getD_set_ne true hjk] at hun; exact hun
      refine wpOp_mono (fun a' w' h3 => ?_) h2
      obtain ⟨hy', S', hsub, hS', h4⟩ := h3
      refine ⟨S', hsub, hS', ih S' (listed.setIfInBounds j true) a' w' hfree' (ready_mono hr (Ne.symm hji)) (YieldsIf_mono hy' hsub) hS' ?_⟩
      rw [Array.setIfInBounds_comm _ _ hji]
      exact h4

/-- The one order: a number, and whether it does more than yield a value. -/
def RunOrder (P : Program) (ops : Array Oper) (Q : Exit → Act → World → Prop) : List (Nat × Bool) → (World → Prop) → Act → World → Prop
  | [], _, a, w => Q .normal a w
  | (i, false) :: r, S, a, w => ∃ o v, ops[i]? = some o ∧ YieldsIf P ops S o v a ∧ RunOrder P ops Q r S (a.put o.dst v) w
  | (i, true) :: r, S, a, w => wpOp P ops Q i (fun a' w' => ∃ S' : World → Prop, (∀ x, S' x → S x) ∧ S' w' ∧ RunOrder P ops Q r S' a' w') a w

def orderOk (md : Region.Mode) (ops : Array Oper) : List (Nat × Bool) → Array Bool → Bool
  | [], listed => (Region.ready md ops listed).isEmpty
  | (i, false) :: r, listed => (Region.ready md ops listed).contains i && Region.free md ops listed i && orderOk md ops r (listed.setIfInBounds i true)
  | (i, true) :: r, listed => Region.ready md ops listed == [i] && orderOk md ops r (listed.setIfInBounds i true)

theorem wpAnyG_order (hs : Region.noSelect ops = true) (hQ : ∀ c a d v w, Q (.panic c) (Act.put a d v) w → Q (.panic c) a w) : ∀ (π : List (Nat × Bool)) (S : World → Prop) (listed : Array Bool) (a : Act) (w : World),
    S w → orderOk md ops π listed = true → RunOrder P ops Q π S a w → wpAnyG P md ops Q π.length S listed a w := by
  intro π
  induction π with
  | nil =>
    intro S listed a w hS ho h
    simp only [orderOk, List.isEmpty_iff] at ho
    exact ⟨ho, h⟩
  | cons x r ih =>
    obtain ⟨i, b⟩ := x
    intro S listed a w hS ho h
    cases b with
    | false =>
      simp only [orderOk, Bool.and_eq_true] at ho
      obtain ⟨o, v, hi, hy, hrest⟩ := h
      exact wpAnyG_first hi (Region.noSelect_spec hs) (fun c a w => hQ c a o.dst v w) r.length S listed a w (Region.free_spec hi ho.1.2) (by simpa using ho.1.1) hy hS (ih S _ _ w hS ho.2 hrest)
    | true =>
      simp only [orderOk, Bool.and_eq_true, beq_iff_eq] at ho
      refine ⟨fun h0 => (by rw [ho.1] at h0; cases h0), fun j hj => ?_⟩
      rw [ho.1] at hj
      obtain rfl : j = i := by simpa using hj
      exact wpOp_mono (fun a' w' ⟨S', hsub, hS', h'⟩ => ⟨S', hsub, hS', ih S' _ a' w' hS' ho.2 h'⟩) h

/-- The same with the operations themselves in a row. -/
def RunL (P : Program) (ops : Array Oper) (Q : Exit → Act → World → Prop) : List (Oper × Bool) → (World → Prop) → Act → World → Prop
  | [], _, a, w => Q .normal a w
  | (o, false) :: r, S, a, w => ∃ v, YieldsIf P ops S o v a ∧ RunL P ops Q r S (a.put o.dst v) w
  | (o, true) :: r, S, a, w =>
    if Region.wanted o (yielded ops a.tmps) = true then o.wp P a w (fun a' w' => ∃ S' : World → Prop, (∀ x, S' x → S x) ∧ S' w' ∧ RunL P ops Q r S' a' w') Q
    else ∃ S' : World → Prop, (∀ x, S' x → S x) ∧ S' w ∧ RunL P ops Q r S' (a.put o.dst undef) w

theorem run_of_L : ∀ (π : List (Nat × Bool)) (S : World → Prop) (listed : Array Bool) (a : Act) (w : World), orderOk md ops π listed = true →
    RunL P ops Q (π.map fun p => ((ops[p.1]?).getD default, p.2)) S a w → RunOrder P ops Q π S a w := by
  intro π
  induction π with
  | nil => intro S listed a w _ h; exact h
  | cons x r ih =>
    obtain ⟨i, b⟩ := x
    intro S listed a w ho h
    cases b with
    | false =>
      simp only [orderOk, Bool.and_eq_true] at ho
      obtain ⟨_, o, hi, _⟩ := mem_ready.1 (show i ∈ Region.ready md ops listed by simpa using ho.1.1)
      simp only [List.map_cons, hi, Option.getD_some] at h
      obtain ⟨v, hy, hr⟩ := h
      exact ⟨o, v, hi, hy, ih S _ _ w ho.2 hr⟩
    | true =>
      simp only [orderOk, Bool.and_eq_true, beq_iff_eq] at ho
      obtain ⟨_, o, hi, _⟩ := mem_ready.1 (show i ∈ Region.ready md ops listed by rw [ho.1]; simp)
      simp only [List.map_cons, hi, Option.getD_some, RunL] at h
      show wpOp P ops Q i _ a w
      unfold wpOp
      rw [hi]
      show if Region.wanted o (yielded ops a.tmps) = true then _ else _
      split at h
      · rename_i hw
        rw [if_pos hw]
        exact .inl (Oper.wp_mono (fun a' w' ⟨S', h1, h2, h3⟩ => ⟨S', h1, h2, ih S' _ a' w' ho.2 h3⟩) h)
      · rename_i hw
        rw [if_neg hw]
        obtain ⟨S', h1, h2, h3⟩ := h
        exact ⟨S', h1, h2, ih S' _ _ w ho.2 h3⟩

/-- THE REGION, in one order. -/
theorem wp_region_order {id : Nat} {a : Act} {w : World} (π : List (Nat × Bool)) (S : World → Prop) (hm : P.follows .mixedOrders = true) (hs : Region.noSelect ops = true)
    (hl : π.length = ops.size) (hok : orderOk .any ops π (Array.replicate ops.size false) = true) (hQ : ∀ c a d v w, Q (.panic c) (Act.put a d v) w → Q (.panic c) a w) (hS : S w.drew)
    (h : RunL P ops Q (π.map fun p => ((ops[p.1]?).getD default, p.2)) S a w.drew) : (Code.region id ops true).wp P Q a w := by
  have h' := wpAnyG_order hs hQ π S _ a w.drew hS hok (run_of_L π S _ a w.drew hok h)
  rw [hl] at h'
  exact wp_region_any hm (wpAny_of_G _ S _ _ _ h')

theorem ro_nil {S : World → Prop} {a : Act} {w : World} (h : Q .normal a w) : RunL P ops Q [] S a w := h
theorem ro_q {S : World → Prop} {a : Act} {w : World} {r : List (Oper × Bool)} {o : Oper} (hw : Region.wanted o (yielded ops a.tmps) = true)
    {v : Value} (hv : ∀ w, S w → (execOp a.eval o).run P w = .ok (.value v) w) (h : RunL P ops Q r S (a.put o.dst v) w) : RunL P ops Q ((o, false) :: r) S a w :=
  ⟨v, .inl ⟨hw, hv⟩, h⟩
theorem ro_skip {S : World → Prop} {a : Act} {w : World} {r : List (Oper × Bool)} {o : Oper} (hw : Region.wanted o (yielded ops a.tmps) = false)
    (h : RunL P ops Q r S (a.put o.dst undef) w) : RunL P ops Q ((o, false) :: r) S a w :=
  ⟨undef, .inr ⟨hw, rfl⟩, h⟩
theorem ro_skipL {S : World → Prop} {a : Act} {w : World} {r : List (Oper × Bool)} {o : Oper} (hw : Region.wanted o (yielded ops a.tmps) = false) (hS : S w)
    (h : RunL P ops Q r S (a.put o.dst undef) w) : RunL P ops Q ((o, true) :: r) S a w := by
  unfold RunL
  rw [if_neg (by rw [hw]; simp)]
  exact ⟨S, fun _ h => h, hS, h⟩
theorem ro_loud {S : World → Prop} {a : Act} {w : World} {r : List (Oper × Bool)} {o : Oper} (hw : Region.wanted o (yielded ops a.tmps) = true)
    (h : ∀ K : Act → World → Prop, Shut (∀ a' w' (S' : World → Prop), (∀ x, S' x → S x) → S' w' → RunL P ops Q r S' a' w' → K a' w') → o.wp P a w K Q) : RunL P ops Q ((o, true) :: r) S a w := by
  unfold RunL
  rw [if_pos hw]
  exact h _ (fun a' w' S' h1 h2 h3 => ⟨S', h1, h2, h3⟩)
end
attribute [irreducible] RunL
end Go.Proofs.YtmacceamebdelaaDoor
/-! Region2 -/
namespace Go.Proofs.YtmacceamebdelaaDoor.Lone
section
variable {P : Program} {ops : Array Oper} {Q : Exit → Act → World → Prop} {md : Region.Mode}

/-- An operation that waits for all others (the last of its region). -/
def LoneO (md : Region.Mode) (ops : Array Oper) (o : Oper) : Prop := ∃ n, ops.size = n + 1 ∧ ∀ k, k < n → ∃ e ∈ o.after, Region.binds md e = true ∧ e.on = k
def Subs (md : Region.Mode) (ops : Array Oper) (S S' : World → Prop) (i : Nat) : Prop := (∀ x, S' x → S x) ∨ ∃ o, ops[i]? = some o ∧ LoneO md ops o
def SubsO (md : Region.Mode) (ops : Array Oper) (S S' : World → Prop) (o : Oper) : Prop := (∀ x, S' x → S x) ∨ LoneO md ops o
def loneB (ops : Array Oper) (o : Oper) : Bool := decide (0 < ops.size) && (List.range (ops.size - 1)).all fun k => o.after.any fun e => Region.binds .any e && e.on == k
theorem loneO_of {o : Oper} (h : loneB ops o = true) : LoneO .any ops o := by
  simp only [loneB, Bool.and_eq_true, decide_eq_true_eq, List.all_eq_true, List.mem_range, Array.any_eq_true] at h
  refine ⟨ops.size - 1, by omega, fun k hk => ?_⟩
  obtain ⟨i, hi, h1, h2⟩ := h.2 k hk
  exact ⟨_, Array.getElem_mem hi, h1, by simpa using h2⟩

def wpAnyG (P : Program) (md : Region.Mode) (ops : Array Oper) (Q : Exit → Act → World → Prop) : Nat → (World → Prop) → Array Bool → Act → World → Prop
  | 0, _, listed, a, w => Region.ready md ops listed = [] ∧ Q .normal a w
  | fuel + 1, S, listed, a, w =>
    (Region.ready md ops listed = [] → Q .normal a w) ∧
    ∀ i ∈ Region.ready md ops listed, wpOp P ops Q i (fun a' w' => ∃ S' : World → Prop, Subs md ops S S' i ∧ S' w' ∧ wpAnyG P md ops Q fuel S' (listed.setIfInBounds i true) a' w') a w

theorem wpAny_of_G : ∀ (fuel : Nat) (S : World → Prop) (listed : Array Bool) (a : Act) (w : World), wpAnyG P md ops Q fuel S listed a w → wpAny P md ops Q fuel listed a w
  | 0, _, _, _, _, h => h
  | fuel + 1, _, _, _, _, h => ⟨h.1, fun i hi => wpOp_mono (fun a' w' ⟨S', _, _, h'⟩ => wpAny_of_G fuel S' _ a' w' h') (h.2 i hi)⟩

theorem YieldsIf_mono {S S' : World → Prop} {o : Oper} {v : Value} {a : Act} (h : YieldsIf P ops S o v a) (hs : ∀ x, S' x → S x) : YieldsIf P ops S' o v a :=
  h.imp (fun ⟨hw, hv⟩ => ⟨hw, fun w hw' => hv w (hs w hw')⟩) id

theorem wpAnyG_first {i : Nat} {oi : Oper} {v : Value} (hi : ops[i]? = some oi) (hsel : ∀ (j : Nat) (o : Oper) cs b, ops[j]? = some o → o.op ≠ .select cs b)
    (hQ : ∀ c a w, Q (.panic c) (a.put oi.dst v) w → Q (.panic c) a w) :
    ∀ (fuel : Nat) (S : World → Prop) (listed : Array Bool) (a : Act) (w : World),
      (∀ j oj, ops[j]? = some oj → j ≠ i → listed.getD j true = false → (∀ e ∈ oj.after, Region.binds md e = true → e.on ≠ i) → oi.apart ops oj = true) →
      i ∈ Region.ready md ops listed → YieldsIf P ops S oi v a → S w →
      wpAnyG P md ops Q fuel S (listed.setIfInBounds i true) (a.put oi.dst v) w → wpAnyG P md ops Q (fuel + 1) S listed a w := by
  intro fuel
  induction fuel with
  | zero =>
    intro S listed a w _ hr hy hS H
    refine ⟨fun h => (by rw [h] at hr; cases hr), fun j hj => ?_⟩
    by_cases hji : j = i
    · subst hji; exact hy.wpOp hi hS ⟨S, .inl fun _ h => h, hS, H⟩
    · have := ready_mono hj hji
      rw [H.1] at this
      cases this
  | succ fuel ih =>
    intro S listed a w hfree hr hy hS H
    refine ⟨fun h => (by rw [h] at hr; cases hr), fun j hj => ?_⟩
    by_cases hji : j = i
    · subst hji; exact hy.wpOp hi hS ⟨S, .inl fun _ h => h, hS, H⟩
    · have h1 := H.2 j (ready_mono hj hji)
      obtain ⟨hjun, oj, hoj, hall⟩ := mem_ready.1 hj
      have hnot : ∀ e ∈ oj.after, Region.binds md e = true → e.on ≠ i := fun e he hb heq => by
        have h1 := hall e he hb
        have h0 := (mem_ready.1 hr).1
        rw [heq] at h1
        rcases Nat.lt_or_ge i listed.size with h' | h'
        · simp [h'] at h0 h1; rw [h0] at h1; cases h1
        · simp [Array.getElem?_eq_none h'] at h1
      have h2 := wpOp_putIf hoj (hfree j oj hoj hji hjun hnot) (fun cs b => hsel i oi cs b hi) (fun cs b => hsel j oj cs b hoj) hQ hy h1
      have hfree' : ∀ k ok, ops[k]? = some ok → k ≠ i → (listed.setIfInBounds j true).getD k true = false →
          (∀ e ∈ ok.after, Region.binds md e = true → e.on ≠ i) → oi.apart ops ok = true := fun k ok hk hki hun hno => by
        refine hfree k ok hk hki ?_ hno
        by_cases hjk : j = k
        · subst hjk; exact hjun
        · rw [getD_set_ne true hjk] at hun; exact hun
      refine wpOp_mono (fun a' w' h3 => ?_) h2
      obtain ⟨hy', S', hsub, hS', h4⟩ := h3
      have hsub' : ∀ x, S' x → S x := by
        rcases hsub with h | ⟨o, ho, n, hn, hl⟩
        · exact h
        · exfalso
          rw [hoj] at ho
          injection ho with ho
          subst ho
          have hil : i < ops.size := (Array.getElem?_eq_some_iff.1 hi).1
          have hjl : j < ops.size := (Array.getElem?_eq_some_iff.1 hoj).1
          by_cases hin : i < n
          · obtain ⟨e, he, hb, hk⟩ := hl i hin
            exact hnot e he hb hk
          · obtain ⟨e, he, hb, hk⟩ := hl j (by omega)
            have h1 := hall e he hb
            rw [hk] at h1
            rcases Nat.lt_or_ge j listed.size with h' | h'
            · simp [h'] at hjun h1; rw [hjun] at h1; cases h1
            · simp [Array.getElem?_eq_none h'] at h1
      refine ⟨S', hsub, hS', ih S' (listed.setIfInBounds j true) a' w' hfree' (ready_mono hr (Ne.symm hji)) (YieldsIf_mono hy' hsub') hS' ?_⟩
      rw [Array.setIfInBounds_comm _ _ hji]
      exact h4

/-- The one order: a number, and whether it does more than yield a value. -/
def RunOrder (P : Program) (md : Region.Mode) (ops : Array Oper) (Q : Exit → Act → World → Prop) : List (Nat × Bool) → (World → Prop) → Act → World → Prop
  | [], _, a, w => Q .normal a w
  | (i, false) :: r, S, a, w => ∃ o v, ops[i]? = some o ∧ YieldsIf P ops S o v a ∧ RunOrder P md ops Q r S (a.put o.dst v) w
  | (i, true) :: r, S, a, w => wpOp P ops Q i (fun a' w' => ∃ S' : World → Prop, Subs md ops S S' i ∧ S' w' ∧ RunOrder P md ops Q r S' a' w') a w

def orderOk (md : Region.Mode) (ops : Array Oper) : List (Nat × Bool) → Array Bool → Bool
  | [], listed => (Region.ready md ops listed).isEmpty
  | (i, false) :: r, listed => (Region.ready md ops listed).contains i && Region.free md ops listed i && orderOk md ops r (listed.setIfInBounds i true)
  | (i, true) :: r, listed => Region.ready md ops listed == [i] && orderOk md ops r (listed.setIfInBounds i true)

theorem wpAnyG_order (hs : Region.noSelect ops = true) (hQ : ∀ c a d v w, Q (.panic c) (Act.put a d v) w → Q (.panic c) a w) : ∀ (π : List (Nat × Bool)) (S : World → Prop) (listed : Array Bool) (a : Act) (w : World),
    S w → orderOk md ops π listed = true → RunOrder P md ops Q π S a w → wpAnyG P md ops Q π.length S listed a w := by
  intro π
  induction π with
  | nil =>
    intro S listed a w hS ho h
    simp only [orderOk, List.isEmpty_iff] at ho
    exact ⟨ho, h⟩
  | cons x r ih =>
    obtain ⟨i, b⟩ := x
    intro S listed a w hS ho h
    cases b with
    | false =>
      simp only [orderOk, Bool.and_eq_true] at ho
      obtain ⟨o, v, hi, hy, hrest⟩ := h
      exact wpAnyG_first hi (Region.noSelect_spec hs) (fun c a w => hQ c a o.dst v w) r.length S listed a w (Region.free_spec hi ho.1.2) (by simpa using ho.1.1) hy hS (ih S _ _ w hS ho.2 hrest)
    | true =>
      simp only [orderOk, Bool.and_eq_true, beq_iff_eq] at ho
      refine ⟨fun h0 => (by rw [ho.1] at h0; cases h0), fun j hj => ?_⟩
      rw [ho.1] at hj
      obtain rfl : j = i := by simpa using hj
      exact wpOp_mono (fun a' w' ⟨S', hsub, hS', h'⟩ => ⟨S', hsub, hS', ih S' _ a' w' hS' ho.2 h'⟩) h

/-- The same with the operations themselves in a row. -/
def RunL (P : Program) (ops : Array Oper) (Q : Exit → Act → World → Prop) : List (Oper × Bool) → (World → Prop) → Act → World → Prop
  | [], _, a, w => Q .normal a w
  | (o, false) :: r, S, a, w => ∃ v, YieldsIf P ops S o v a ∧ RunL P ops Q r S (a.put o.dst v) w
  | (o, true) :: r, S, a, w =>
    if Region.wanted o (yielded ops a.tmps) = true then o.wp P a w (fun a' w' => ∃ S' : World → Prop, SubsO .any ops S S' o ∧ S' w' ∧ RunL P ops Q r S' a' w') Q
    else ∃ S' : World → Prop, (∀ x, S' x → S x) ∧ S' w ∧ RunL P ops Q r S' (a.put o.dst undef) w

theorem run_of_L : ∀ (π : List (Nat × Bool)) (S : World → Prop) (listed : Array Bool) (a : Act) (w : World), orderOk .any ops π listed = true →
    RunL P ops Q (π.map fun p => ((ops[p.1]?).getD default, p.2)) S a w → RunOrder P Region.Mode.any ops Q π S a w := by
  intro π
  induction π with
  | nil => intro S listed a w _ h; exact h
  | cons x r ih =>
    obtain ⟨i, b⟩ := x
    intro S listed a w ho h
    cases b with
    | false =>
      simp only [orderOk, Bool.and_eq_true] at ho
      obtain ⟨_, o, hi, _⟩ := mem_ready.1 (show i ∈ Region.ready Region.Mode.any ops listed by simpa using ho.1.1)
      simp only [List.map_cons, hi, Option.getD_some] at h
      obtain ⟨v, hy, hr⟩ := h
      exact ⟨o, v, hi, hy, ih S _ _ w ho.2 hr⟩
    | true =>
      simp only [orderOk, Bool.and_eq_true, beq_iff_eq] at ho
      obtain ⟨_, o, hi, _⟩ := mem_ready.1 (show i ∈ Region.ready Region.Mode.any ops listed by rw [ho.1]; simp)
      simp only [List.map_cons, hi, Option.getD_some, RunL] at h
      show wpOp P ops Q i _ a w
      unfold wpOp
      rw [hi]
      show if Region.wanted o (yielded ops a.tmps) = true then _ else _
      split at h
      · rename_i hw
        rw [if_pos hw]
        exact .inl (Oper.wp_mono (fun a' w' ⟨S', h1, h2, h3⟩ => ⟨S', h1.imp id (fun h => ⟨o, hi, h⟩), h2, ih S' _ a' w' ho.2 h3⟩) h)
      · rename_i hw
        rw [if_neg hw]
        obtain ⟨S', h1, h2, h3⟩ := h
        exact ⟨S', .inl h1, h2, ih S' _ _ w ho.2 h3⟩

/-- THE REGION, in one order. -/
theorem wp_region_order {id : Nat} {a : Act} {w : World} (π : List (Nat × Bool)) (S : World → Prop) (hm : P.follows .mixedOrders = true) (hs : Region.noSelect ops = true)
    (hl : π.length = ops.size) (hok : orderOk .any ops π (Array.replicate ops.size false) = true) (hQ : ∀ c a d v w, Q (.panic c) (Act.put a d v) w → Q (.panic c) a w) (hS : S w.drew)
    (h : RunL P ops Q (π.map fun p => ((ops[p.1]?).getD default, p.2)) S a w.drew) : (Code.region id ops true).wp P Q a w := by
  have h' := wpAnyG_order hs hQ π S _ a w.drew hS hok (run_of_L π S _ a w.drew hok h)
  rw [hl] at h'
  exact wp_region_any hm (wpAny_of_G _ S _ _ _ h')

theorem ro_nil {S : World → Prop} {a : Act} {w : World} (h : Q .normal a w) : RunL P ops Q [] S a w := h
theorem ro_q {S : World → Prop} {a : Act} {w : World} {r : List (Oper × Bool)} {o : Oper} (hw : Region.wanted o (yielded ops a.tmps) = true)
    {v : Value} (hv : ∀ w, S w → (execOp a.eval o).run P w = .ok (.value v) w) (h : RunL P ops Q r S (a.put o.dst v) w) : RunL P ops Q ((o, false) :: r) S a w :=
  ⟨v, .inl ⟨hw, hv⟩, h⟩
theorem ro_skip {S : World → Prop} {a : Act} {w : World} {r : List (Oper × Bool)} {o : Oper} (hw : Region.wanted o (yielded ops a.tmps) = false)
    (h : RunL P ops Q r S (a.put o.dst undef) w) : RunL P ops Q ((o, false) :: r) S a w :=
  ⟨undef, .inr ⟨hw, rfl⟩, h⟩
theorem ro_skipL {S : World → Prop} {a : Act} {w : World} {r : List (Oper × Bool)} {o : Oper} (hw : Region.wanted o (yielded ops a.tmps) = false) (hS : S w)
    (h : RunL P ops Q r S (a.put o.dst undef) w) : RunL P ops Q ((o, true) :: r) S a w := by
  unfold RunL
  rw [if_neg (by rw [hw]; simp)]
  exact ⟨S, fun _ h => h, hS, h⟩
theorem ro_loud {S : World → Prop} {a : Act} {w : World} {r : List (Oper × Bool)} {o : Oper} (hw : Region.wanted o (yielded ops a.tmps) = true)
    (h : ∀ K : Act → World → Prop, Shut (∀ a' w' (S' : World → Prop), ((∀ x, S' x → S x) ∨ loneB ops o = true) → S' w' → RunL P ops Q r S' a' w' → K a' w') → o.wp P a w K Q) : RunL P ops Q ((o, true) :: r) S a w := by
  unfold RunL
  rw [if_pos hw]
  exact h _ (fun a' w' S' h1 h2 h3 => ⟨S', h1.imp id loneO_of, h2, h3⟩)
end
attribute [irreducible] RunL
end Go.Proofs.YtmacceamebdelaaDoor.Lone
/-! Strs -/
namespace Go.Proofs.YtmacceamebdelaaDoor
open Go.RowKit
set_option linter.unusedVariables false
set_option linter.unusedSimpArgs false

theorem info_string : infoIs Tryd.prog 9 (.string ⟨#[]⟩) 1 16 := by unfold infoIs; kernel_rfl
theorem size_string : (Tryd.prog.info? 9).map (·.size) = some 1 := by kernel_rfl
/-- Strings as cells. -/
def svs (ss : List ByteArray) : List Value := ss.map .string
theorem svs_take (ss : List ByteArray) (k : Nat) : (svs ss).take (k * 1) = svs (ss.take k) := by simp [svs, List.map_take]
theorem svs_drop (ss : List ByteArray) (k : Nat) : (svs ss).drop (k * 1) = svs (ss.drop k) := by simp [svs, List.map_drop]
theorem svs_append (a b : List ByteArray) : svs (a ++ b) = svs a ++ svs b := by simp [svs]
theorem svs_one (ss : List ByteArray) : ∀ y ∈ svs ss, y.oneCell' = true := by
  intro y hy
  obtain ⟨s, _, rfl⟩ := List.mem_map.1 hy
  rfl
theorem svs_length (ss : List ByteArray) : (svs ss).length = ss.length := by simp [svs]
/-- A slice of strings that can be read. -/
def rdS (w : World) (v : Value) (ss : List ByteArray) : Prop := rdRow w 1 v ss.length (svs ss)
theorem rdS.below {w w' : World} {v : Value} {ss : List ByteArray} (h : rdS w v ss) (hb : Below w.heap.size w w') : rdS w' v ss := rdRow.below h hb
def smalls (ss : List ByteArray) : Prop := ∀ s ∈ ss, s.size ≤ 140737488355328
theorem smalls_take {ss : List ByteArray} (h : smalls ss) (k : Nat) : smalls (ss.take k) := fun s hs => h s (List.mem_of_mem_take hs)
theorem smalls_drop {ss : List ByteArray} (h : smalls ss) (k : Nat) : smalls (ss.drop k) := fun s hs => h s (List.mem_of_mem_drop hs)
theorem rdS_to {w : World} {v : Value} {ss : List ByteArray} (hr : rdS w v ss) (k : Nat) (hk : k ≤ ss.length) :
    ∃ v', (∀ w' : World, (Instr.sliceAt 35 v none (some (.int .i64 (k : Int))) none).run Tryd.prog w' = .ok v' w') ∧ rdS w v' (ss.take k) := by
  obtain ⟨v', h1, h2⟩ := slice_to Tryd.underlying35 size_string hr k hk
  refine ⟨v', h1, ?_⟩
  rw [svs_take] at h2
  have : (ss.take k).length = k := by rw [List.length_take]; omega
  unfold rdS; rw [this]; exact h2
theorem rdS_from {w : World} {v : Value} {ss : List ByteArray} (hr : rdS w v ss) (k : Nat) (hk : k ≤ ss.length) :
    ∃ v', (∀ w' : World, (Instr.sliceAt 35 v (some (.int .i64 (k : Int))) none none).run Tryd.prog w' = .ok v' w') ∧ rdS w v' (ss.drop k) := by
  obtain ⟨v', h1, h2⟩ := slice_from Tryd.underlying35 size_string hr k hk
  refine ⟨v', h1, ?_⟩
  rw [svs_drop] at h2
  unfold rdS; rw [List.length_drop]; exact h2
theorem rdS_form {w : World} {v : Value} {ss : List ByteArray} (hr : rdS w v ss) : ∃ ao cap, v = .slice ao ss.length cap := rd_form hr
theorem rdS_len {w : World} {v : Value} {ss : List ByteArray} (hr : rdS w v ss) : ss.length ≤ 9223372036854775807 := by
  obtain ⟨_, ao, cap, rfl, h1, h2, _⟩ := hr
  unfold maxLen at h2; omega
theorem rdS_at {w : World} {v : Value} {ss : List ByteArray} (hr : rdS w v ss) (j : Nat) (h : j < ss.length) :
    ∃ b off cap, v = .slice (some ⟨b, off, none⟩) ss.length cap ∧ w.cell? ⟨b, off + j, none⟩ = some (.string (ss.getD j ⟨#[]⟩)) ∧ b < w.heap.size := by
  refine rd_cell hr j _ ?_
  rw [svs, List.getElem?_map, List.getElem?_eq_getElem h, List.getD, List.getElem?_eq_getElem h]; rfl
theorem smalls_at {ss : List ByteArray} (h : smalls ss) (j : Nat) : (ss.getD j ⟨#[]⟩).size ≤ 140737488355328 := by
  by_cases hj : j < ss.length
  · rw [List.getD, List.getElem?_eq_getElem hj]; exact h _ (List.getElem_mem hj)
  · rw [List.getD, List.getElem?_eq_none (by omega)]; exact Nat.zero_le _
theorem below_drew {B : Nat} {a w : World} (h : Below B a w) : Below B a w.drew := h.drew
/-- A call that answers a new slice of strings. -/
def RetS (w : World) (l : List ByteArray) (e : Ending) (w' : World) : Prop := ∃ v, e = .returned v ∧ w'.ownsRow w.heap.size 9 1 v l.length (svs l) ∧ Below w.heap.size w w'
theorem rdS_owns {w : World} {B : Nat} {v : Value} {ss : List ByteArray} (h : w.ownsRow B 9 1 v ss.length (svs ss)) : rdS w v ss := rdRow_of_owns h
theorem wp_append1 {P : Program} {w w0 : World} {B : Nat} {o : Oper} {a : Act} {K : Act → World → Prop} {Q : Exit → Act → World → Prop} (s x : Operand) (t : TypeId)
    (ho : o.op = .call { callee := .builtin .append, args := #[s, x], argTypes := #[t, t] })
    {base : Nat} {e : TypeId} {z : Value} {bytes : Nat} (hinf : infoIs P e z 1 bytes) (ht : P.underlying t = some (.slice e)) (hzs : z.cells.size = 1) (hby : 0 < bytes)
    {v : Value} {n : Nat} {xs : List Value} (hown : w.ownsRow base e 1 v n xs) (hbel : Below B w0 w) (hB : B ≤ base) (hb : base ≤ w.heap.size)
    {u : Value} (h1 : u.oneCell' = true) (hbytes : (n + 1) * bytes ≤ 140737488355328)
    (hs : a.eval s = v) (hx : a.eval x = .slice (some ⟨w.heap.size, 0, none⟩) 1 1)
    (h : ∀ v' w', w'.ownsRow base e 1 v' (n + 1) (xs ++ [u]) → Below B w0 w' → K (a.put o.dst v') w') : o.wp P a (w.alloc (.cells #[u] e)) K Q := by
  obtain ⟨i, hi, hz, hsize, hbt⟩ := info_parts hinf
  have hle : n + 1 ≤ (n + 1) * bytes := Nat.le_mul_of_pos_right _ hby
  refine wp_append_own _ s x t ho base e i z 1 bytes ht hi hz hsize hbt hzs (by decide) v n xs hs (hown.alloc _) ⟨w.heap.size, 0, none⟩ 1 1 [u] hx (by simp) ?_ (by simpa using h1) (by unfold maxLen; omega) hbytes (by simp; omega) ?_
  · intro j x hj
    rw [addr_add, Nat.zero_add]
    exact cell_block j x (by simpa using hj)
  · intro v' w' hown' hgrow _
    refine h v' w' hown' ?_
    refine (hbel.alloc (by omega) _).grown hgrow (by simp; omega) ?_
    intro k hk
    have := (hown.lt k hk).1; omega
theorem beq_dec (a b : ByteArray) : (a.toList == b.toList) = decide (a = b) := by
  rw [Bool.eq_iff_iff]
  simp only [beq_iff_eq, decide_eq_true_eq]
  constructor
  · intro h
    rw [ByteArray.toList_eq, ByteArray.toList_eq] at h
    exact bs_ext h
  · intro h; rw [h]
/-- A new block of one string. -/
theorem owns_new (w : World) (s : ByteArray) : (w.alloc (.cells #[.string s] 9)).ownsRow w.heap.size 9 1 (.slice (some ⟨w.heap.size, 0, none⟩) 1 1) [s].length (svs [s]) :=
  ⟨rfl, .inr ⟨w.heap.size, 1, #[.string s], rfl, Nat.le_refl _, heap_alloc_new _ _, Nat.le_refl _, by decide, rfl, rfl⟩⟩
theorem beq_no {a b : ByteArray} (h : a ≠ b) : (a.toList == b.toList) = false := by rw [beq_dec]; simpa using h
theorem beq_yes (a : ByteArray) : (a.toList == a.toList) = true := by rw [beq_dec]; simp
theorem rdS_all {w : World} {v : Value} {ss : List ByteArray} (hr : rdS w v ss) (h : 0 < ss.length) :
    ∃ b off cap, v = .slice (some ⟨b, off, none⟩) ss.length cap ∧ b < w.heap.size ∧ ∀ j, j < ss.length → w.cell? ⟨b, off + j, none⟩ = some (.string (ss.getD j ⟨#[]⟩)) := by
  obtain ⟨b, off, cap, rfl, _, hb⟩ := rdS_at hr 0 h
  refine ⟨b, off, cap, rfl, hb, fun j hj => ?_⟩
  obtain ⟨b', off', cap', hv, hc, _⟩ := rdS_at hr j hj
  simp only [Value.slice.injEq, Option.some.injEq, Addr.mk.injEq, and_true, true_and] at hv
  obtain ⟨⟨rfl, rfl⟩, rfl⟩ := hv
  exact hc
theorem eq_of_getD {ss tt : List ByteArray} (hl : ss.length = tt.length) (h : ∀ j, j < ss.length → ss.getD j ⟨#[]⟩ = tt.getD j ⟨#[]⟩) : ss = tt := by
  apply List.ext_getElem hl
  intro i h1 h2
  have := h i h1
  rwa [List.getD, List.getD, List.getElem?_eq_getElem h1, List.getElem?_eq_getElem h2] at this
theorem ne_of_getD {ss tt : List ByteArray} {j : Nat} (h : ss.getD j ⟨#[]⟩ ≠ tt.getD j ⟨#[]⟩) : ss ≠ tt := fun e => h (by rw [e])
theorem smalls_more {q : List ByteArray} {x : ByteArray} (h : smalls q) (hx : x.size ≤ 140737488355328) : smalls (q ++ [x]) := by
  intro s hs
  rcases List.mem_append.1 hs with h' | h'
  · exact h s h'
  · rw [List.mem_singleton.1 h']; exact hx
theorem wp_append1at {P : Program} {w w0 : World} {B : Nat} {o : Oper} {a : Act} {K : Act → World → Prop} {Q : Exit → Act → World → Prop} (s x : Operand) (t : TypeId)
    (ho : o.op = .call { callee := .builtin .append, args := #[s, x], argTypes := #[t, t] })
    {base : Nat} {e : TypeId} {z : Value} {bytes : Nat} (hinf : infoIs P e z 1 bytes) (ht : P.underlying t = some (.slice e)) (hzs : z.cells.size = 1) (hby : 0 < bytes)
    {v : Value} {n : Nat} {xs : List Value} (hown : w.ownsRow base e 1 v n xs) (hbel : Below B w0 w) (hB : B ≤ base) (hb : base ≤ w.heap.size)
    {u : Value} {g : Nat} (hu : w.cell? ⟨g, 0, none⟩ = some u) (h1 : u.oneCell' = true) (hbytes : (n + 1) * bytes ≤ 140737488355328)
    (hs : a.eval s = v) (hx : a.eval x = .slice (some ⟨g, 0, none⟩) 1 1)
    (h : ∀ v' w', w'.ownsRow base e 1 v' (n + 1) (xs ++ [u]) → Below B w0 w' → K (a.put o.dst v') w') : o.wp P a w K Q := by
  obtain ⟨i, hi, hz, hsize, hbt⟩ := info_parts hinf
  have hle : n + 1 ≤ (n + 1) * bytes := Nat.le_mul_of_pos_right _ hby
  refine wp_append_own _ s x t ho base e i z 1 bytes ht hi hz hsize hbt hzs (by decide) v n xs hs hown ⟨g, 0, none⟩ 1 1 [u] hx (by simp) ?_ (by simpa using h1) (by unfold maxLen; omega) hbytes hb ?_
  · intro j x hj
    rw [addr_add, Nat.zero_add]
    rcases j with _ | j
    · simp at hj; subst hj; exact hu
    · simp at hj
  · intro v' w' hown' hgrow _
    refine h v' w' hown' (hbel.grown hgrow (by omega) ?_)
    intro k hk
    have := (hown.lt k hk).1; omega
theorem rdS_in {w : World} {v : Value} {len : Nat} {z : List ByteArray} (f : rdRow w 1 v len (z.map .string)) (g : ∀ s ∈ z, s.size ≤ 140737488351232) (m : len * 16 ≤ 140737488351232) : rdS w v z ∧ smalls z ∧ z.length * 16 ≤ 140737488351232 := by
  have hl : z.length = len := by have := f.1; simpa using this
  subst hl
  exact ⟨f, fun s hs => Nat.le_trans (g s hs) (by decide), m⟩
theorem wpList_append1w {P : Program} {w w0 : World} {B : Nat} {ops : Array Oper} {rest : List Oper} {o : Oper} {a : Act} {Q : Exit → Act → World → Prop} (hw : Region.wanted o (yielded ops a.tmps) = true) (s x : Operand) (t : TypeId)
    (ho : o.op = .call { callee := .builtin .append, args := #[s, x], argTypes := #[t, t] })
    {base : Nat} {e : TypeId} {z : Value} {bytes : Nat} (hinf : infoIs P e z 1 bytes) (ht : P.underlying t = some (.slice e)) (hzs : z.cells.size = 1) (hby : 0 < bytes)
    {v : Value} {n : Nat} {xs : List Value} (hown : w.ownsRow base e 1 v n xs) (hbel : Below B w0 w) (hB : B ≤ base) (hb : base ≤ w.heap.size)
    {u : Value} (h1 : u.oneCell' = true) (hbytes : (n + 1) * bytes ≤ 140737488355328)
    (hs : a.eval s = v) (hx : a.eval x = .slice (some ⟨w.heap.size, 0, none⟩) 1 1)
    (h : ∀ v' w', w'.ownsRow base e 1 v' (n + 1) (xs ++ [u]) → Below B w0 w' → wpList P ops Q rest (a.put o.dst v') w') : wpList P ops Q (o :: rest) a (w.alloc (.cells #[u] e)) :=
  wpList_yes hw fun K hK => wp_append1 s x t ho hinf ht hzs hby hown hbel hB hb h1 hbytes hs hx (fun v' w' h1 h2 => hK _ _ (h v' w' h1 h2))
end Go.Proofs.YtmacceamebdelaaDoor
/-! Grow -/
namespace Go.Proofs.YtmacceamebdelaaDoor
open Go.RowKit
set_option linter.unusedVariables false
set_option linter.unusedSimpArgs false

section
variable {α : Type} {k : Nat} {f : α → List Value}
def gvs (f : α → List Value) (l : List α) : List Value := l.flatMap f
theorem gvs_length (hk : ∀ x, (f x).length = k) (l : List α) : (gvs f l).length = l.length * k := by
  induction l with
  | nil => simp [gvs]
  | cons x l ih => rw [gvs, List.flatMap_cons, List.length_append, ← gvs, ih, hk, List.length_cons, Nat.add_mul]; omega
theorem gvs_append (a b : List α) : gvs f (a ++ b) = gvs f a ++ gvs f b := by simp [gvs]
theorem gvs_cons (x : α) (b : List α) : gvs f (x :: b) = f x ++ gvs f b := by simp [gvs]
theorem gvs_take (hk : ∀ x, (f x).length = k) (l : List α) (n : Nat) : (gvs f l).take (n * k) = gvs f (l.take n) := by
  induction l generalizing n with
  | nil => simp [gvs]
  | cons x l ih =>
    cases n with
    | zero => simp [gvs]
    | succ n =>
      rw [gvs_cons, List.take_succ_cons, gvs_cons, ← ih n, List.take_append, hk]
      rw [List.take_of_length_le (by rw [hk, Nat.add_mul]; omega), show (n + 1) * k - k = n * k by rw [Nat.add_mul]; omega]
theorem gvs_drop (hk : ∀ x, (f x).length = k) (l : List α) (n : Nat) : (gvs f l).drop (n * k) = gvs f (l.drop n) := by
  induction l generalizing n with
  | nil => simp [gvs]
  | cons x l ih =>
    cases n with
    | zero => simp
    | succ n =>
      rw [gvs_cons, List.drop_succ_cons, ← ih n, List.drop_append, hk]
      rw [List.drop_of_length_le (by rw [hk, Nat.add_mul]; omega), show (n + 1) * k - k = n * k by rw [Nat.add_mul]; omega, List.nil_append]
theorem gvs_get (hk : ∀ x, (f x).length = k) (l : List α) (i : Nat) (d : α) (h : i < l.length) (r : Nat) (hr : r < k) : (gvs f l)[i * k + r]? = (f (l.getD i d))[r]? := by
  induction l generalizing i with
  | nil => cases h
  | cons x l ih =>
    cases i with
    | zero => rw [gvs_cons, Nat.zero_mul, Nat.zero_add, List.getElem?_append_left (by rw [hk]; exact hr)]; rfl
    | succ i =>
      rw [gvs_cons, List.getElem?_append_right (by rw [hk, Nat.add_mul]; omega), hk, show (i + 1) * k + r - k = i * k + r by rw [Nat.add_mul]; omega, ih i (by simpa using h)]
      rfl
theorem gvs_one (h1 : ∀ x, ∀ y ∈ f x, y.oneCell' = true) (l : List α) : ∀ y ∈ gvs f l, y.oneCell' = true := by
  intro y hy
  obtain ⟨x, _, hx⟩ := List.mem_flatMap.1 hy
  exact h1 x y hx
/-- A slice that reads as a list of structs. -/
def rdG (k : Nat) (f : α → List Value) (w : World) (v : Value) (l : List α) : Prop := rdRow w k v l.length (gvs f l)
theorem rdG.below {w w' : World} {v : Value} {l : List α} (h : rdG k f w v l) (hb : Below w.heap.size w w') : rdG k f w' v l := rdRow.below h hb
theorem rdG_nil (w : World) : rdG k f w (.slice none 0 0) [] := ⟨by simp [gvs], none, 0, rfl, Nat.le_refl _, by decide, fun _ => rfl, fun _ h => by cases h⟩
theorem rdG_len {w : World} {v : Value} {l : List α} (hr : rdG k f w v l) : l.length ≤ 9223372036854775807 := by
  obtain ⟨_, ao, cap, rfl, h1, h2, _⟩ := hr
  unfold maxLen at h2; omega
theorem rdG_owns {w : World} {B : Nat} {e : TypeId} {v : Value} {l : List α} (h : w.ownsRow B e k v l.length (gvs f l)) : rdG k f w v l := rdRow_of_owns h
theorem rdG_at (hk : ∀ x, (f x).length = k) (hk0 : 0 < k) {w : World} {ao : Option Addr} {n cap : Nat} {l : List α} (d : α) (hr : rdRow w k (.slice ao n cap) l.length (gvs f l)) (h : 0 < l.length) :
    ∃ b off, ao = some ⟨b, off, none⟩ ∧ b < w.heap.size ∧ ∀ i, i < l.length → ∀ r u, (f (l.getD i d))[r]? = some u → w.cell? ⟨b, off + (i * k + r), none⟩ = some u := by
  have hlen := gvs_length hk l
  have h0 : 0 < (gvs f l).length := by rw [hlen]; exact Nat.mul_pos h hk0
  obtain ⟨b, off, cap', hv, hc0, hb⟩ := rd_cell hr 0 _ (List.getElem?_eq_getElem h0)
  injection hv with h1 h2 h3
  subst h1
  refine ⟨b, off, rfl, hb, fun i hi r u hu => ?_⟩
  obtain ⟨_, ao2, cap2, hv2, _, _, _, hc⟩ := hr
  injection hv2 with g1 g2 g3
  subst g1
  have hr' : r < k := by have := (List.getElem?_eq_some_iff.1 hu).1; rw [hk] at this; exact this
  have e0 := gvs_get hk l i d hi r hr'
  rw [hu] at e0
  have c0 := hc _ rfl _ _ e0
  rw [add_none rfl] at c0
  exact c0
theorem rdG_to (hk : ∀ x, (f x).length = k) {P : Program} {w : World} {v : Value} {l : List α} {t e : TypeId} (ht : P.underlying t = some (.slice e)) (hi : (P.info? e).map (·.size) = some k) (hr : rdG k f w v l) (n : Nat) (hn : n ≤ l.length) :
    ∃ v', (∀ w' : World, (Instr.sliceAt t v none (some (.int .i64 (n : Int))) none).run P w' = .ok v' w') ∧ rdG k f w v' (l.take n) := by
  obtain ⟨v', h1, h2⟩ := slice_to ht hi hr n hn
  refine ⟨v', h1, ?_⟩
  rw [gvs_take hk] at h2
  have : (l.take n).length = n := by rw [List.length_take]; omega
  unfold rdG; rw [this]; exact h2
theorem rdG_from (hk : ∀ x, (f x).length = k) {P : Program} {w : World} {v : Value} {l : List α} {t e : TypeId} (ht : P.underlying t = some (.slice e)) (hi : (P.info? e).map (·.size) = some k) (hr : rdG k f w v l) (n : Nat) (hn : n ≤ l.length) :
    ∃ v', (∀ w' : World, (Instr.sliceAt t v (some (.int .i64 (n : Int))) none none).run P w' = .ok v' w') ∧ rdG k f w v' (l.drop n) := by
  obtain ⟨v', h1, h2⟩ := slice_from ht hi hr n hn
  refine ⟨v', h1, ?_⟩
  rw [gvs_drop hk] at h2
  unfold rdG; rw [List.length_drop]; exact h2
end
end Go.Proofs.YtmacceamebdelaaDoor
/-! Contains -/
namespace Go.Proofs.YtmacceamebdelaaDoor
open Go.RowKit Go.Shelf Go.Lib
set_option linter.unusedVariables false

def cfRen : Go.Shelf.Ren := ⟨fun | 15 => 63 | 17 => 49 | 20 => 68 | n => n, fun | 0 => 0 | 3 => 3 | 4 => 4 | 9 => 9 | 21 => 21 | 23 => 100 | n => n, fun n => n⟩
theorem cfLay : LaysGw.n17 Tryd.prog cfRen := {
  mixed := by kernel_rfl
  f15 := Tryd.func63.trans (congrArg some (by kernel_rfl))
  f17 := Tryd.func49.trans (congrArg some (by kernel_rfl))
  f20 := Tryd.func68.trans (congrArg some (by kernel_rfl))
  t0 := Tryd.underlying0
  a0 := Tryd.isAgg0
  z0 := Tryd.sizeOf0
  v0 := Tryd.zeroValue0
  i0 := by kernel_rfl
  t3 := Tryd.underlying3
  a3 := Tryd.isAgg3
  z3 := Tryd.sizeOf3
  v3 := Tryd.zeroValue3
  i3 := by kernel_rfl
  t4 := Tryd.underlying4
  a4 := Tryd.isAgg4
  z4 := Tryd.sizeOf4
  v4 := Tryd.zeroValue4
  i4 := by kernel_rfl
  t9 := Tryd.underlying9
  a9 := Tryd.isAgg9
  z9 := Tryd.sizeOf9
  v9 := Tryd.zeroValue9
  i9 := by kernel_rfl
  t21 := Tryd.underlying21
  a21 := Tryd.isAgg21
  z21 := Tryd.sizeOf21
  v21 := Tryd.zeroValue21
  i21 := by kernel_rfl
  t23 := Tryd.underlying100
  a23 := Tryd.isAgg100
  z23 := Tryd.sizeOf100
  v23 := Tryd.zeroValue100
  i23 := by kernel_rfl }

/-- Is there a rune of which p holds? -/
def hasP (p : Nat → Bool) (s : ByteArray) : Bool := decide (0 ≤ Lib.idxFunc p true s)
theorem contains_any (g : Nat) (eg : ∀ args w, (callFunc g args).run Tryd.prog w = .ok (.enter g args) w) (p : Nat → Bool) (s : ByteArray) (w : World) (hp : PredAt Tryd.prog g #[] encR p w) :
    Calls Tryd.prog 49 #[.string s, .func (.func g) #[] #[]] w fun e w' => e = .returned (.bool (hasP p s)) ∧ Below w.heap.size w w' :=
  Any.strings_ContainsFunc cfLay g #[] eg p s w hp
end Go.Proofs.YtmacceamebdelaaDoor
/-! ObjectLaw -/
namespace Go.Proofs.YtmacceamebdelaaDoor
set_option linter.unusedVariables false
set_option linter.unusedSimpArgs false

structure Ent where
  name : ByteArray
  dir : Bool
  id : ByteArray
structure ObjS where
  kind : Int
  data : ByteArray
  ents : List Ent
  tree : ByteArray
  pars : List ByteArray
  who : ByteArray
  note : ByteArray
  time : Int
  target : ByteArray
def noB : ByteArray := ⟨#[]⟩
def zeroO : ObjS := ⟨0, noB, [], noB, [], noB, noB, 0, noB⟩
def zeroE : Ent := ⟨noB, false, noB⟩

/-! Good. -/
def badName (c : Nat) : Bool := decide (c ≤ 32) || (decide (126 < c) || decide (c = 47))
def badLine (c : Nat) : Bool := decide (c = 0)
def nameF (s : ByteArray) : Bool := !hasP badName s && (decide (s ≠ noB) && (decide (s.size ≤ 60) && (decide (s ≠ ⟨#[46]⟩) && decide (s ≠ ⟨#[46, 46]⟩))))
def lineF (s : ByteArray) : Bool := decide (s.size ≤ 4096) && !hasP badLine s
structure EmptyO (o : ObjS) : Prop where
  data : o.kind = 1 ∨ o.data = noB
  ents : o.kind = 2 ∨ o.ents = []
  com : o.kind = 3 ∨ (o.tree = noB ∧ o.pars = [] ∧ o.time = 0)
  target : o.kind = 4 ∨ o.target = noB
  who : o.kind = 3 ∨ o.kind = 4 ∨ (o.who = noB ∧ o.note = noB)
def entOk (l : List Ent) (k : Nat) : Bool := nameF (l.getD k zeroE).name && (decide ((l.getD k zeroE).id.size = 32) && (decide (k = 0) || Op.bytesLess (l.getD (k - 1) zeroE).name.toList (l.getD k zeroE).name.toList))
def entsF (l : List Ent) : Bool := (List.range l.length).all (entOk l)
def parF (l : List ByteArray) (k : Nat) : Int := if (l.getD k noB).size ≠ 32 then 2 else if (l.take k).any (fun y => decide (y = l.getD k noB)) = true then 8 else 0
def parsFrom (l : List ByteArray) : Nat → Nat → Int
  | _, 0 => 0
  | k, c + 1 => if parF l k ≠ 0 then parF l k else parsFrom l (k + 1) c
def parsF (l : List ByteArray) : Int := parsFrom l 0 l.length
open Classical in
noncomputable def goodF (o : ObjS) : Int :=
  if o.kind < 1 ∨ 4 < o.kind then 4
  else if ¬ EmptyO o then 2
  else if 4096 < o.data.size ∨ 4096 < o.who.size ∨ 4096 < o.note.size then 1
  else if 64 < o.ents.length ∨ 4 < o.pars.length then 6
  else if entsF o.ents = false then 2
  else if parsF o.pars ≠ 0 then parsF o.pars
  else if (o.kind = 3 ∧ o.tree.size ≠ 32) ∨ (o.kind = 4 ∧ o.target.size ≠ 32) ∨ lineF o.who = false ∨ lineF o.note = false then 2
  else if o.time < 0 ∨ 1099511627776 ≤ o.time then 3 else 0
structure GoodO (o : ObjS) : Prop where
  kind : 1 ≤ o.kind ∧ o.kind ≤ 4
  emp : EmptyO o
  data : o.data.size ≤ 4096
  who : o.who.size ≤ 4096
  note : o.note.size ≤ 4096
  ents : o.ents.length ≤ 64
  pars : o.pars.length ≤ 4
  ent : ∀ x ∈ o.ents, x.name.size ≤ 60 ∧ x.id.size = 32
  par : ∀ x ∈ o.pars, x.size = 32
  tree : o.kind = 3 → o.tree.size = 32
  target : o.kind = 4 → o.target.size = 32
  time : 0 ≤ o.time ∧ o.time < 1099511627776
theorem getD_of {α : Type} (l : List α) (k : Nat) (d : α) (h : k < l.length) : l.getD k d = l[k] := by rw [List.getD, List.getElem?_eq_getElem h]; rfl
theorem entsF_mem {l : List Ent} (h : entsF l = true) : ∀ x ∈ l, x.name.size ≤ 60 ∧ x.id.size = 32 := by
  intro x hx
  obtain ⟨k, hk, rfl⟩ := List.getElem_of_mem hx
  have := List.all_eq_true.1 h k (by simpa using hk)
  unfold entOk at this
  simp only [Bool.and_eq_true, decide_eq_true_eq] at this
  obtain ⟨h1, h2, _⟩ := this
  rw [getD_of _ _ _ hk] at h1 h2
  unfold nameF at h1
  simp only [Bool.and_eq_true, decide_eq_true_eq] at h1
  exact ⟨h1.2.2.1, h2⟩
theorem parsFrom_zero {l : List ByteArray} : ∀ {c k : Nat}, parsFrom l k c = 0 → ∀ j, k ≤ j → j < k + c → parF l j = 0
  | 0, k, _, j, h1, h2 => by omega
  | c + 1, k, h, j, h1, h2 => by
    unfold parsFrom at h
    by_cases h0 : parF l k = 0
    · rw [if_neg (by simpa using h0)] at h
      by_cases hj : j = k
      · rw [hj]; exact h0
      · exact parsFrom_zero h j (by omega) (by omega)
    · rw [if_pos h0] at h; exact absurd h h0
theorem parsF_mem {l : List ByteArray} (h : parsF l = 0) : ∀ x ∈ l, x.size = 32 := by
  intro x hx
  obtain ⟨k, hk, rfl⟩ := List.getElem_of_mem hx
  have := parsFrom_zero h k (Nat.zero_le _) (by omega)
  unfold parF at this
  rw [getD_of _ _ _ hk] at this
  by_cases hs : l[k].size = 32
  · exact hs
  · rw [if_pos hs] at this; cases this
theorem goodF_good {o : ObjS} (h : goodF o = 0) : GoodO o := by
  unfold goodF at h
  split at h
  · cases h
  split at h
  · cases h
  split at h
  · cases h
  split at h
  · cases h
  split at h
  · cases h
  split at h
  · rename_i h1; exact absurd h h1
  split at h
  · cases h
  split at h
  · cases h
  rename_i h1 h2 h3 h4 h5 h6 h7 h8
  simp only [not_or, Int.not_lt, Nat.not_lt, Classical.not_not, not_and, Decidable.not_not, ne_eq, Bool.not_eq_false] at h1 h2 h3 h4 h5 h6 h7 h8
  exact ⟨h1, h2, h3.1, h3.2.1, h3.2.2, h4.1, h4.2, entsF_mem h5, parsF_mem h6, h7.1, h7.2.1, by omega⟩

/-! Encode. -/
def encT (s : ByteArray) : List UInt8 := enc s.size ++ s.data.toList
def encE (x : Ent) : List UInt8 := encT x.name ++ (enc (if x.dir then 1 else 0) ++ x.id.data.toList)
def encP (l : List ByteArray) : List UInt8 := l.flatMap fun p => p.data.toList
def encEs (l : List Ent) : List UInt8 := l.flatMap encE
def bodyO (o : ObjS) : List UInt8 :=
  if o.kind = 1 then encT o.data
  else if o.kind = 2 then enc o.ents.length ++ encEs o.ents
  else if o.kind = 3 then o.tree.data.toList ++ (enc o.pars.length ++ (encP o.pars ++ (encT o.who ++ (enc o.time.toNat ++ encT o.note))))
  else if o.kind = 4 then o.target.data.toList ++ (encT o.who ++ encT o.note)
  else []
def encO (o : ObjS) : List UInt8 := enc o.kind.toNat ++ bodyO o
noncomputable def encodeF (o : ObjS) : ByteArray × Int :=
  if goodF o ≠ 0 then (noB, goodF o) else if 8192 < (encO o).length then (noB, 1) else (⟨(encO o).toArray⟩, 0)

/-! Decode. -/
def entsL : Nat → ByteArray × Int → List Ent → Option (List Ent × (ByteArray × Int))
  | 0, st, l => some (l, st)
  | n + 1, st, l => if st.2 ≠ 0 then some (l, st) else
      if 1 < (rNum (rTxt st).2).1 then none
      else entsL n (rByt (rNum (rTxt st).2).2 32).2 (l ++ [⟨(rTxt st).1, decide ((rNum (rTxt st).2).1 = 1), (rByt (rNum (rTxt st).2).2 32).1⟩])
def parsL : Nat → ByteArray × Int → List ByteArray → List ByteArray × (ByteArray × Int)
  | 0, st, l => (l, st)
  | n + 1, st, l => if st.2 ≠ 0 then (l, st) else parsL n (rByt st 32).2 (l ++ [(rByt st 32).1])
def rawB (st : ByteArray × Int) : ObjS × (ByteArray × Int) := ({ zeroO with kind := 1, data := (rTxt st).1 }, (rTxt st).2)
def rawT (st : ByteArray × Int) : Option (ObjS × (ByteArray × Int)) := (entsL (rNum st).1 (rNum st).2 []).map fun r => ({ zeroO with kind := 2, ents := r.1 }, r.2)
def comS (st : ByteArray × Int) : (ByteArray × (ByteArray × Int)) × (List ByteArray × (ByteArray × Int)) := (rByt st 32, parsL (rNum (rByt st 32).2).1 (rNum (rByt st 32).2).2 [])
def rawC (st : ByteArray × Int) : ObjS × (ByteArray × Int) :=
  let a := rByt st 32
  let n := rNum a.2
  let p := parsL n.1 n.2 []
  let w := rTxt p.2
  let t := rNum w.2
  let m := rTxt t.2
  ({ zeroO with kind := 3, tree := a.1, pars := p.1, who := w.1, time := t.1, note := m.1 }, m.2)
def rawG (st : ByteArray × Int) : ObjS × (ByteArray × Int) :=
  let a := rByt st 32
  let w := rTxt a.2
  let m := rTxt w.2
  ({ zeroO with kind := 4, target := a.1, who := w.1, note := m.1 }, m.2)
def rawF (s : ByteArray) : Option (ObjS × (ByteArray × Int)) :=
  let k := rNum (s, 0)
  if k.1 = 1 then some (rawB k.2)
  else if k.1 = 2 then rawT k.2
  else if k.1 = 3 then some (rawC k.2)
  else if k.1 = 4 then some (rawG k.2)
  else some ({ zeroO with kind := k.1 }, k.2)
noncomputable def endF2 (o : ObjS) (st : ByteArray × Int) : ObjS × Int :=
  if st.2 ≠ 0 ∨ (1 ≤ o.kind ∧ o.kind ≤ 4 ∧ 0 < st.1.size) then (zeroO, 2) else if goodF o ≠ 0 then (zeroO, goodF o) else (o, 0)
noncomputable def decodeF (s : ByteArray) : ObjS × Int :=
  if 8192 < s.size then (zeroO, 1)
  else match rawF s with
    | none => (zeroO, 2)
    | some r => endF2 r.1 r.2

/-! Reading, forward: what was put is read, and what stands behind it is left. -/
theorem rNum_fwd {s : ByteArray} {n : Nat} {y : List UInt8} (h : n < 4611686018427387904) (hs : s.data.toList = enc n ++ y) :
    ∃ s', rNum (s, 0) = (n, (s', 0)) ∧ s'.data.toList = y := by
  obtain ⟨h1, h2, h3⟩ := rNum_back (s := s) (n := (n : Int)) (y := y) (by omega) (by omega) (by simpa using hs)
  have e : (rNum (s, 0)).1 = n := by omega
  exact ⟨(rNum (s, 0)).2.1, Prod.ext e (Prod.ext rfl h2), h3⟩
theorem rTxt_fwd {s t : ByteArray} {y : List UInt8} (h : t.size ≤ 4096) (hs : s.data.toList = encT t ++ y) :
    ∃ s', rTxt (s, 0) = (t, (s', 0)) ∧ s'.data.toList = y := by
  obtain ⟨h1, h2, h3⟩ := rTxt_back (s := s) (t := t) (y := y) h hs
  exact ⟨(rTxt (s, 0)).2.1, Prod.ext h1 (Prod.ext rfl h2), h3⟩
theorem rByt_fwd {s t : ByteArray} {y : List UInt8} (h : t.size = 32) (hs : s.data.toList = t.data.toList ++ y) :
    ∃ s', rByt (s, 0) 32 = (t, (s', 0)) ∧ s'.data.toList = y := by
  have hz : s.size = 32 + y.length := by rw [← toList_length, hs, List.length_append, toList_length, h]
  refine ⟨s.extract 32 s.size, ?_, by rw [toList_drop, hs, List.drop_left' (by rw [toList_length, h])]⟩
  unfold rByt
  rw [if_neg (by simp), if_neg (by simp only; omega)]
  have e : s.extract 0 (32 : Int).toNat = t := by
    apply bs_ext
    rw [toList_take, hs, List.take_left' (by rw [toList_length, h]; rfl)]
  rw [e]; rfl
theorem entsL_fwd : ∀ (l : List Ent) (s : ByteArray) (l0 : List Ent) (y : List UInt8), (∀ x ∈ l, x.name.size ≤ 60 ∧ x.id.size = 32) → s.data.toList = encEs l ++ y →
    ∃ s', entsL l.length (s, 0) l0 = some (l0 ++ l, (s', 0)) ∧ s'.data.toList = y
  | [], s, l0, y, _, hs => ⟨s, by simp [entsL], by simpa [encEs] using hs⟩
  | x :: l, s, l0, y, hx, hs => by
    obtain ⟨hn, hi⟩ := hx x (by simp)
    have e : s.data.toList = encT x.name ++ (enc (if x.dir then 1 else 0) ++ (x.id.data.toList ++ (encEs l ++ y))) := by
      rw [hs]; simp [encEs, encE]
    obtain ⟨s1, h1, e1⟩ := rTxt_fwd (by omega) e
    obtain ⟨s2, h2, e2⟩ := rNum_fwd (by split <;> omega) e1
    obtain ⟨s3, h3, e3⟩ := rByt_fwd hi e2
    obtain ⟨s4, h4, e4⟩ := entsL_fwd l s3 (l0 ++ [x]) y (fun z hz => hx z (by simp [hz])) e3
    refine ⟨s4, ?_, e4⟩
    rw [List.length_cons, entsL, if_neg (by simp), h1]
    simp only
    rw [h2]
    simp only
    rw [h3]
    simp only
    rw [if_neg (by split <;> omega)]
    have hd : decide ((if x.dir = true then 1 else 0) = 1) = x.dir := by cases x.dir <;> rfl
    rw [hd, h4]
    simp
theorem parsL_fwd : ∀ (l : List ByteArray) (s : ByteArray) (l0 : List ByteArray) (y : List UInt8), (∀ x ∈ l, x.size = 32) → s.data.toList = encP l ++ y →
    ∃ s', parsL l.length (s, 0) l0 = (l0 ++ l, (s', 0)) ∧ s'.data.toList = y
  | [], s, l0, y, _, hs => ⟨s, by simp [parsL], by simpa [encP] using hs⟩
  | x :: l, s, l0, y, hx, hs => by
    have e : s.data.toList = x.data.toList ++ (encP l ++ y) := by rw [hs]; simp [encP]
    obtain ⟨s3, h3, e3⟩ := rByt_fwd (hx x (by simp)) e
    obtain ⟨s4, h4, e4⟩ := parsL_fwd l s3 (l0 ++ [x]) y (fun z hz => hx z (by simp [hz])) e3
    refine ⟨s4, ?_, e4⟩
    rw [List.length_cons, parsL, if_neg (by simp), h3]
    simp only
    rw [h4]; simp
theorem raw_fwd {o : ObjS} (g : GoodO o) {s : ByteArray} {y : List UInt8} (hs : s.data.toList = encO o ++ y) : ∃ s', rawF s = some (o, (s', 0)) ∧ s'.data.toList = y := by
  obtain ⟨hk1, hk4⟩ := g.kind
  have hgp := g.pars
  have hge := g.ents
  rw [encO, List.append_assoc] at hs
  obtain ⟨s1, h1, e1⟩ := rNum_fwd (by omega) hs
  unfold rawF
  simp only [h1]
  have hE := g.emp
  rcases (by omega : o.kind = 1 ∨ o.kind = 2 ∨ o.kind = 3 ∨ o.kind = 4) with hk | hk | hk | hk
  · simp only [bodyO, hk] at e1
    simp (config := { decide := true }) only [if_true, if_false] at e1
    obtain ⟨s2, h2, e2⟩ := rTxt_fwd g.data e1
    refine ⟨s2, ?_, e2⟩
    rw [hk, if_pos (by rfl), rawB, h2]
    obtain ⟨a1, a2, a3, a4, a5⟩ := hE
    rw [hk] at a1 a2 a3 a4 a5
    simp at a2 a3 a4 a5
    obtain ⟨k, d, en, tr, pa, wh, no, ti, ta⟩ := o
    simp only at *
    obtain ⟨b1, b2, b3⟩ := a3
    obtain ⟨c1, c2⟩ := a5
    subst a2 a4 b1 b2 b3 c1 c2 hk
    rfl
  · simp only [bodyO, hk] at e1
    simp (config := { decide := true }) only [if_true, if_false] at e1
    rw [List.append_assoc] at e1
    obtain ⟨s2, h2, e2⟩ := rNum_fwd (by omega) e1
    obtain ⟨s3, h3, e3⟩ := entsL_fwd o.ents s2 [] y g.ent e2
    refine ⟨s3, ?_, e3⟩
    rw [hk, if_neg (by decide), if_pos (by rfl), rawT, h2]
    simp only
    rw [h3]
    obtain ⟨a1, a2, a3, a4, a5⟩ := hE
    rw [hk] at a1 a2 a3 a4 a5
    simp at a1 a3 a4 a5
    obtain ⟨k, d, en, tr, pa, wh, no, ti, ta⟩ := o
    simp only at *
    obtain ⟨b1, b2, b3⟩ := a3
    obtain ⟨c1, c2⟩ := a5
    subst a1 a4 b1 b2 b3 c1 c2 hk
    rfl
  · simp only [bodyO, hk] at e1
    simp (config := { decide := true }) only [if_true, if_false] at e1
    simp only [List.append_assoc] at e1
    obtain ⟨s2, h2, e2⟩ := rByt_fwd (g.tree hk) e1
    obtain ⟨s3, h3, e3⟩ := rNum_fwd (by omega) e2
    obtain ⟨s4, h4, e4⟩ := parsL_fwd o.pars s3 [] _ g.par e3
    obtain ⟨s5, h5, e5⟩ := rTxt_fwd g.who e4
    obtain ⟨ht0, ht1⟩ := g.time
    obtain ⟨s6, h6, e6⟩ := rNum_fwd (by omega) e5
    obtain ⟨s7, h7, e7⟩ := rTxt_fwd g.note e6
    refine ⟨s7, ?_, e7⟩
    rw [hk, if_neg (by decide), if_neg (by decide), if_pos (by rfl)]
    unfold rawC
    simp only [h2, h3, h4, h5, h6, h7]
    obtain ⟨a1, a2, a3, a4, a5⟩ := hE
    rw [hk] at a1 a2 a3 a4 a5
    simp at a1 a2 a4
    obtain ⟨k, d, en, tr, pa, wh, no, ti, ta⟩ := o
    simp only at *
    subst a1 a2 a4 hk
    have hti : ((ti.toNat : Nat) : Int) = ti := by omega
    simp only [hti, List.nil_append]
    rfl
  · simp only [bodyO, hk] at e1
    simp (config := { decide := true }) only [if_true, if_false] at e1
    simp only [List.append_assoc] at e1
    obtain ⟨s2, h2, e2⟩ := rByt_fwd (g.target hk) e1
    obtain ⟨s3, h3, e3⟩ := rTxt_fwd g.who e2
    obtain ⟨s4, h4, e4⟩ := rTxt_fwd g.note e3
    refine ⟨s4, ?_, e4⟩
    rw [hk, if_neg (by decide), if_neg (by decide), if_neg (by decide), if_pos (by rfl)]
    unfold rawG
    simp only [h2, h3, h4]
    obtain ⟨a1, a2, a3, a4, a5⟩ := hE
    rw [hk] at a1 a2 a3 a4 a5
    simp at a1 a2 a3
    obtain ⟨k, d, en, tr, pa, wh, no, ti, ta⟩ := o
    simp only at *
    obtain ⟨b1, b2, b3⟩ := a3
    subst a1 a2 b1 b2 b3 hk
    rfl

/-! Reading, backward. -/
theorem rNum_ok {st : ByteArray × Int} (h : (rNum st).2.2 = 0) : st.2 = 0 := by
  apply Classical.byContradiction; intro he
  unfold rNum at h; rw [if_pos he] at h; exact he h
theorem rTxt_ok {st : ByteArray × Int} (h : (rTxt st).2.2 = 0) : st.2 = 0 := by
  apply Classical.byContradiction; intro he
  unfold rTxt at h; rw [if_pos he] at h; exact he h
theorem rByt_ok {st : ByteArray × Int} {n : Int} (h : (rByt st n).2.2 = 0) : st.2 = 0 := by
  apply Classical.byContradiction; intro he
  unfold rByt at h; rw [if_pos he] at h; exact he h
theorem rNum_bwd {s : ByteArray} (h : (rNum (s, 0)).2.2 = 0) : s.data.toList = enc (rNum (s, 0)).1 ++ (rNum (s, 0)).2.1.data.toList ∧ (rNum (s, 0)).1 < 4611686018427387904 := by
  unfold rNum at h ⊢
  simp only [ne_eq, not_true_eq_false, if_false] at h ⊢
  cases hg : get s.data.toList with
  | none => rw [hg] at h; simp at h
  | some p =>
    obtain ⟨n, k⟩ := p
    obtain ⟨h1, h2, h3, _⟩ := get_some hg
    simp only
    rw [toList_drop, ← h3, List.take_append_drop]
    exact ⟨rfl, h1⟩
theorem getText_bwd {s : ByteArray} (h : (getText s).2.2 = 0) : s.data.toList = encT (getText s).1 ++ (s.extract (getText s).2.1 s.size).data.toList ∧ (getText s).1.size ≤ 4096 := by
  unfold getText at h ⊢
  cases hg : get s.data.toList with
  | none => rw [hg] at h; simp at h
  | some p =>
    obtain ⟨n, k⟩ := p
    obtain ⟨h1, h2, h3, h4, h5, h6⟩ := get_some hg
    rw [hg] at h
    simp only at h ⊢
    by_cases h7 : 4096 < n
    · rw [if_pos h7] at h; simp at h
    · rw [if_neg h7] at h ⊢
      by_cases h8 : s.size < n + k
      · rw [if_pos h8] at h; simp at h
      · rw [if_neg h8]
        simp only
        have hz : (s.extract k (k + n)).size = n := by rw [ByteArray.size_extract]; omega
        refine ⟨?_, by rw [hz]; omega⟩
        rw [encT, hz, toList_drop, toList_extract, Nat.add_sub_cancel_left, ← h3, List.append_assoc]
        have e : (s.data.toList.drop k).take n ++ s.data.toList.drop (k + n) = s.data.toList.drop k := by
          rw [← List.drop_drop, List.take_append_drop]
        rw [e, List.take_append_drop]
theorem rTxt_bwd {s : ByteArray} (h : (rTxt (s, 0)).2.2 = 0) : s.data.toList = encT (rTxt (s, 0)).1 ++ (rTxt (s, 0)).2.1.data.toList ∧ (rTxt (s, 0)).1.size ≤ 4096 := by
  have h0 : ((getText s).2.2 : Int) = 0 := by
    unfold rTxt at h; rw [if_neg (by simp)] at h; exact h
  have := getText_bwd (s := s) (by omega)
  unfold rTxt
  rw [if_neg (by simp)]
  exact this
theorem rByt_bwd {s : ByteArray} (h : (rByt (s, 0) 32).2.2 = 0) : s.data.toList = (rByt (s, 0) 32).1.data.toList ++ (rByt (s, 0) 32).2.1.data.toList ∧ (rByt (s, 0) 32).1.size = 32 := by
  unfold rByt at h ⊢
  rw [if_neg (by simp)] at h ⊢
  by_cases h1 : (32 : Int) < 0 ∨ (s.size : Int) < 32
  · rw [if_pos h1] at h; simp at h
  · rw [if_neg h1]
    simp only
    refine ⟨?_, ?_⟩
    · rw [toList_take, toList_drop]; exact (List.take_append_drop _ _).symm
    · rw [ByteArray.size_extract]; simp; omega
theorem entsL_ok : ∀ (n : Nat) (st : ByteArray × Int) (l : List Ent) (r : List Ent × (ByteArray × Int)), entsL n st l = some r → r.2.2 = 0 → st.2 = 0
  | 0, st, l, r, h, h0 => by
    simp [entsL] at h; subst h; exact h0
  | n + 1, st, l, r, h, h0 => by
    apply Classical.byContradiction; intro he
    rw [entsL, if_pos he] at h
    injection h with h
    subst h
    exact he h0
theorem parsL_ok : ∀ (n : Nat) (st : ByteArray × Int) (l : List ByteArray), (parsL n st l).2.2 = 0 → st.2 = 0
  | 0, st, l, h0 => h0
  | n + 1, st, l, h0 => by
    apply Classical.byContradiction; intro he
    rw [parsL, if_pos he] at h0
    exact he h0
theorem pair0 {st : ByteArray × Int} (h : st.2 = 0) : st = (st.1, 0) := Prod.ext rfl h
theorem entsL_bwd : ∀ (n : Nat) (s : ByteArray) (l : List Ent) (r : List Ent × (ByteArray × Int)), entsL n (s, 0) l = some r → r.2.2 = 0 → ∃ l2, r.1 = l ++ l2 ∧ l2.length = n ∧ s.data.toList = encEs l2 ++ r.2.1.data.toList
  | 0, s, l, r, h, h0 => by
    simp [entsL] at h; subst h; exact ⟨[], by simp, rfl, by simp [encEs]⟩
  | n + 1, s, l, r, h, h0 => by
    rw [entsL, if_neg (by simp)] at h
    by_cases hd : 1 < (rNum (rTxt (s, 0)).2).1
    · rw [if_pos hd] at h; cases h
    · rw [if_neg hd] at h
      have k3 := entsL_ok n _ _ r h h0
      have k2 := rByt_ok k3
      have k1 := rNum_ok k2
      have b1 := rTxt_bwd k1
      rw [pair0 k1] at k2 k3 h hd
      have b2 := rNum_bwd k2
      rw [pair0 k2] at k3 h
      have b3 := rByt_bwd k3
      rw [pair0 k3] at h
      obtain ⟨l2, e1, e2, e3⟩ := entsL_bwd n _ _ r h h0
      refine ⟨⟨(rTxt (s, 0)).1, decide ((rNum ((rTxt (s, 0)).2.1, 0)).1 = 1), (rByt ((rNum ((rTxt (s, 0)).2.1, 0)).2.1, 0) 32).1⟩ :: l2, by rw [e1]; simp, by rw [List.length_cons, e2], ?_⟩
      have hdd : enc (if decide ((rNum ((rTxt (s, 0)).2.1, 0)).1 = 1) = true then 1 else 0) = enc (rNum ((rTxt (s, 0)).2.1, 0)).1 := by
        rcases (by omega : (rNum ((rTxt (s, 0)).2.1, 0)).1 = 0 ∨ (rNum ((rTxt (s, 0)).2.1, 0)).1 = 1) with e | e <;> rw [e] <;> rfl
      rw [show encEs (⟨(rTxt (s, 0)).1, decide ((rNum ((rTxt (s, 0)).2.1, 0)).1 = 1), (rByt ((rNum ((rTxt (s, 0)).2.1, 0)).2.1, 0) 32).1⟩ :: l2) = encT (rTxt (s, 0)).1 ++ (enc (if decide ((rNum ((rTxt (s, 0)).2.1, 0)).1 = 1) = true then 1 else 0) ++ ((rByt ((rNum ((rTxt (s, 0)).2.1, 0)).2.1, 0) 32).1.data.toList ++ encEs l2)) by simp [encEs, encE]]
      rw [hdd, b1.1, b2.1, b3.1, e3]
      simp only [List.append_assoc]
theorem parsL_bwd : ∀ (n : Nat) (s : ByteArray) (l : List ByteArray), (parsL n (s, 0) l).2.2 = 0 → ∃ l2, (parsL n (s, 0) l).1 = l ++ l2 ∧ l2.length = n ∧ s.data.toList = encP l2 ++ (parsL n (s, 0) l).2.1.data.toList
  | 0, s, l, h0 => ⟨[], by simp [parsL], rfl, by simp [encP, parsL]⟩
  | n + 1, s, l, h0 => by
    rw [parsL, if_neg (by simp)] at h0 ⊢
    have k3 := parsL_ok n _ _ h0
    have b3 := rByt_bwd k3
    rw [pair0 k3] at h0 ⊢
    obtain ⟨l2, e1, e2, e3⟩ := parsL_bwd n _ _ h0
    refine ⟨(rByt (s, 0) 32).1 :: l2, by rw [e1]; simp, by rw [List.length_cons, e2], ?_⟩
    rw [show encP ((rByt (s, 0) 32).1 :: l2) = (rByt (s, 0) 32).1.data.toList ++ encP l2 by simp [encP], b3.1, e3]
    simp only [List.append_assoc]
theorem raw_bwd {s : ByteArray} {o : ObjS} {st : ByteArray × Int} (h : rawF s = some (o, st)) (h0 : st.2 = 0) (hk : 1 ≤ o.kind ∧ o.kind ≤ 4) : s.data.toList = encO o ++ st.1.data.toList := by
  unfold rawF at h
  simp only at h
  by_cases k1 : (rNum (s, 0)).1 = 1
  · rw [if_pos k1] at h
    injection h with h
    injection h with h1 h2
    subst h1 h2
    have e1 := rTxt_ok h0
    have b1 := rNum_bwd e1
    rw [pair0 e1] at h0 ⊢
    have b2 := rTxt_bwd h0
    rw [b1.1, k1, encO, bodyO, if_pos (by rfl), b2.1]
    simp only [List.append_assoc]
    rfl
  rw [if_neg k1] at h
  by_cases k2 : (rNum (s, 0)).1 = 2
  · rw [if_pos k2] at h
    unfold rawT at h
    cases hr : entsL (rNum (rNum (s, 0)).2).1 (rNum (rNum (s, 0)).2).2 [] with
    | none => rw [hr] at h; cases h
    | some r =>
      rw [hr] at h
      injection h with h
      injection h with h1 h2
      subst h1 h2
      have e2 := entsL_ok _ _ _ _ hr h0
      have e1 := rNum_ok e2
      have b1 := rNum_bwd e1
      rw [pair0 e1] at e2 hr
      have b2 := rNum_bwd e2
      rw [pair0 e2] at hr
      obtain ⟨l2, c1, c2, c3⟩ := entsL_bwd _ _ _ _ hr h0
      rw [List.nil_append] at c1
      rw [b1.1, k2, b2.1, c3, ← c2, encO, bodyO, if_neg (by simp), if_pos (by rfl), c1]
      simp only [List.append_assoc]
      rfl
  rw [if_neg k2] at h
  by_cases k3 : (rNum (s, 0)).1 = 3
  · rw [if_pos k3] at h
    injection h with h
    unfold rawC at h
    simp only at h
    injection h with h1 h2
    subst h1 h2
    have e6 := rTxt_ok h0
    have e5 := rNum_ok e6
    have e4 := rTxt_ok e5
    have e3 := parsL_ok _ _ _ e4
    have e2 := rNum_ok e3
    have e1 := rByt_ok e2
    have b1 := rNum_bwd e1
    rw [pair0 e1] at e2 e3 e4 e5 e6 h0 ⊢
    have b2 := rByt_bwd e2
    rw [pair0 e2] at e3 e4 e5 e6 h0 ⊢
    have b3 := rNum_bwd e3
    rw [pair0 e3] at e4 e5 e6 h0 ⊢
    obtain ⟨l2, c1, c2, c3⟩ := parsL_bwd _ _ _ e4
    rw [pair0 e4] at e5 e6 h0 ⊢
    have b5 := rTxt_bwd e5
    rw [pair0 e5] at e6 h0 ⊢
    have b6 := rNum_bwd e6
    rw [pair0 e6] at h0 ⊢
    have b7 := rTxt_bwd h0
    rw [List.nil_append] at c1
    rw [b1.1, k3, b2.1, b3.1, c3, b5.1, b6.1, b7.1, encO, bodyO, if_neg (by simp), if_neg (by simp), if_pos (by rfl)]
    simp only [c1, c2, List.append_assoc]
    rfl
  rw [if_neg k3] at h
  by_cases k4 : (rNum (s, 0)).1 = 4
  · rw [if_pos k4] at h
    injection h with h
    unfold rawG at h
    simp only at h
    injection h with h1 h2
    subst h1 h2
    have e3 := rTxt_ok h0
    have e2 := rTxt_ok e3
    have e1 := rByt_ok e2
    have b1 := rNum_bwd e1
    rw [pair0 e1] at e2 e3 h0 ⊢
    have b2 := rByt_bwd e2
    rw [pair0 e2] at e3 h0 ⊢
    have b3 := rTxt_bwd e3
    rw [pair0 e3] at h0 ⊢
    have b4 := rTxt_bwd h0
    rw [b1.1, k4, b2.1, b3.1, b4.1, encO, bodyO, if_neg (by simp), if_neg (by simp), if_neg (by simp), if_pos (by rfl)]
    simp only [List.append_assoc]
    rfl
  · rw [if_neg k4] at h
    injection h with h
    injection h with h1 h2
    subst h1 h2
    exfalso
    simp only at hk
    omega

/-! The laws. -/
theorem decode_ok {s : ByteArray} {o : ObjS} (h : decodeF s = (o, 0)) : goodF o = 0 ∧ encO o = s.data.toList ∧ s.size ≤ 8192 := by
  unfold decodeF at h
  by_cases hs : 8192 < s.size
  · rw [if_pos hs] at h; injection h with _ h; cases h
  · rw [if_neg hs] at h
    cases hr : rawF s with
    | none => rw [hr] at h; injection h with _ h; cases h
    | some r =>
      obtain ⟨p, st⟩ := r
      rw [hr] at h
      simp only at h
      unfold endF2 at h
      by_cases h1 : st.2 ≠ 0 ∨ (1 ≤ p.kind ∧ p.kind ≤ 4 ∧ 0 < st.1.size)
      · rw [if_pos h1] at h; injection h with _ h; cases h
      · rw [if_neg h1] at h
        by_cases h2 : goodF p = 0
        · rw [if_neg (by simpa using h2)] at h
          injection h with h
          subst h
          have hg := goodF_good h2
          have h3 : st.2 = 0 := Classical.byContradiction fun hc => h1 (.inl hc)
          have h4 : st.1.size = 0 := Classical.byContradiction fun hc => h1 (.inr ⟨hg.kind.1, hg.kind.2, by omega⟩)
          have hb := raw_bwd hr h3 hg.kind
          have h5 : st.1.data.toList = [] := List.eq_nil_of_length_eq_zero (by rw [toList_length]; exact h4)
          rw [h5, List.append_nil] at hb
          exact ⟨h2, hb.symm, by omega⟩
        · rw [if_pos h2] at h
          injection h with _ h
          exact absurd h h2
theorem decode_bad {s : ByteArray} (h : (decodeF s).2 ≠ 0) : (decodeF s).1 = zeroO := by
  unfold decodeF at h ⊢
  by_cases hs : 8192 < s.size
  · rw [if_pos hs]
  · rw [if_neg hs] at h ⊢
    cases hr : rawF s with
    | none => rfl
    | some r =>
      rw [hr] at h
      simp only at h ⊢
      unfold endF2 at h ⊢
      split
      · rfl
      · rename_i h1
        rw [if_neg h1] at h
        split
        · rfl
        · rename_i h2
          rw [if_neg h2] at h
          exact absurd rfl h
theorem decode_encode {o : ObjS} (h : goodF o = 0) (hl : (encO o).length ≤ 8192) : decodeF ⟨(encO o).toArray⟩ = (o, 0) := by
  obtain ⟨s', h1, h2⟩ := raw_fwd (goodF_good h) (s := ⟨(encO o).toArray⟩) (y := []) (by rw [toList_mk, List.append_nil])
  have hz : s'.size = 0 := by rw [← toList_length, h2]; rfl
  unfold decodeF
  rw [if_neg (by rw [← toList_length, toList_mk]; omega), h1]
  simp only
  unfold endF2
  rw [if_neg (by simp only [ne_eq, not_true_eq_false, false_or, not_and]; intros; omega), if_neg (by simpa using h)]
theorem decode_more {o p : ObjS} {s : ByteArray} {m : List UInt8} (h : goodF o = 0) (hd : decodeF s = (p, 0)) (hs : s.data.toList = encO o ++ m) : m = [] := by
  obtain ⟨g, e, _⟩ := decode_ok hd
  obtain ⟨s1, h1, h2⟩ := raw_fwd (goodF_good h) hs
  obtain ⟨s2, h3, h4⟩ := raw_fwd (goodF_good g) (s := s) (y := []) (by rw [e, List.append_nil])
  rw [h1] at h3
  injection h3 with h3
  injection h3 with h5 h6
  injection h6 with h6
  rw [← h2, h6, h4]
theorem decode_less {o p : ObjS} {t : ByteArray} {m : List UInt8} (h : goodF o = 0) (hd : decodeF t = (p, 0)) (hs : encO o = t.data.toList ++ m) : m = [] := by
  obtain ⟨g, e, _⟩ := decode_ok hd
  obtain ⟨s1, h1, h2⟩ := raw_fwd (goodF_good h) (s := ⟨(encO o).toArray⟩) (y := []) (by rw [toList_mk, List.append_nil])
  obtain ⟨s2, h3, h4⟩ := raw_fwd (goodF_good g) (s := ⟨(encO o).toArray⟩) (y := m) (by rw [toList_mk, hs, e])
  rw [h1] at h3
  injection h3 with h3
  injection h3 with h5 h6
  injection h6 with h6
  rw [← h4, ← h6, h2]
theorem encO_inj {o p : ObjS} (h : goodF o = 0) (g : goodF p = 0) (e : encO o = encO p) : o = p := by
  obtain ⟨s1, h1, _⟩ := raw_fwd (goodF_good h) (s := ⟨(encO o).toArray⟩) (y := []) (by rw [toList_mk, List.append_nil])
  obtain ⟨s2, h2, _⟩ := raw_fwd (goodF_good g) (s := ⟨(encO o).toArray⟩) (y := []) (by rw [toList_mk, List.append_nil, e])
  rw [h1] at h2
  injection h2 with h2
  injection h2 with h2
end Go.Proofs.YtmacceamebdelaaDoor
/-! WrUse -/
namespace Go.Proofs.YtmacceamebdelaaDoor
open Go.RowKit
set_option linter.unusedVariables false
set_option linter.unusedSimpArgs false

theorem WrTo.use {w w' : World} {B g : Nat} {v : Value} {l l' : List UInt8} {e e' : Int} {en : Ending} (h : WrTo w B g v l' e' en w') (hg : B ≤ g) (hst : WrSt w B g v l e) :
    en = .returned (.tuple #[]) ∧ ∃ v', WrSt w' B g v' l' e' ∧ Below B w w' ∧ ∀ xb, xb < w.heap.size → xb ≠ g → v.ownBlock ≠ some xb → (w'.heap[xb]? = w.heap[xb]? ∧ v'.ownBlock ≠ some xb) := by
  have hb := hst.below' hg h
  obtain ⟨he, v', hs, hu, hv⟩ := h
  refine ⟨he, v', hs, hb, fun xb hx h1 h2 => ⟨hu.block xb hx (fun e => e.elim h1 h2), fun e => ?_⟩⟩
  rcases hv with hv | ⟨k, hk, hk2⟩
  · exact h2 (hv ▸ e)
  · rw [hk] at e; injection e with e; omega
theorem three_cells {w : World} {b : Nat} {x y z : Value} {t : TypeId} (h : w.heap[b]? = some (.cells #[x, y, z] t (0, 0))) : w.cell? ⟨b, 0, none⟩ = some x ∧ w.cell? ⟨b, 1, none⟩ = some y ∧ w.cell? ⟨b, 2, none⟩ = some z := by
  refine ⟨?_, ?_, ?_⟩ <;> simp [World.cell?, h]
theorem owns_elem {w : World} {base : Nat} {e : TypeId} {size : Nat} {v : Value} {n : Nat} {xs : List Value} (h : w.ownsRow base e size v n xs) {k : Nat} (hk : v.ownBlock = some k) : base ≤ k ∧ ∃ cs f, w.heap[k]? = some (.cells cs e f) := by
  rcases h.2 with ⟨rfl, _⟩ | ⟨g, cap, cur, rfl, hbg, hg, r⟩
  · cases hk
  · injection hk with hk
    subst hk
    exact ⟨hbg, _, _, hg⟩
theorem enc9 {n : Nat} (h : n < 4611686018427387904) : (enc n).length ≤ 9 := enc_len9 n h
theorem encT_length {s : ByteArray} (h : s.size ≤ 4096) : (encT s).length ≤ 4105 := by
  have := enc9 (n := s.size) (by omega)
  rw [encT, List.length_append, toList_length]; omega
end Go.Proofs.YtmacceamebdelaaDoor
/-! RdAid -/
namespace Go.Proofs.YtmacceamebdelaaDoor
open Go.RowKit
set_option linter.unusedVariables false
set_option linter.unusedSimpArgs false

theorem owns_one {w : World} {B : Nat} {e : TypeId} {size n : Nat} {v : Value} {xs : List Value} (h : w.ownsRow B e size v n xs) : v.oneCell' = true := by
  rcases h.2 with ⟨rfl, _⟩ | ⟨g, cap, cur, rfl, _⟩ <;> rfl
theorem owns_ge {w : World} {B : Nat} {e : TypeId} {size n k : Nat} {v : Value} {xs : List Value} (h : w.ownsRow B e size v n xs) (hk : v.ownBlock = some k) : B ≤ k := by
  rcases h.2 with ⟨rfl, _⟩ | ⟨g, cap, cur, rfl, hbg, _⟩
  · simp [Value.ownBlock] at hk
  · simp only [Value.ownBlock, Option.some.injEq] at hk
    omega
theorem cells_setCell {w : World} {g : Nat} {cs : Array Value} {t : TypeId} (h : w.heap[g]? = some (.cells cs t (0, 0))) (i : Nat) (u : Value) : (w.setCell ⟨g, i, none⟩ u).heap[g]? = some (.cells (cs.setIfInBounds i u) t (0, 0)) := by
  have hlt := lt_of_block h
  have h' : w.heap[g] = .cells cs t (0, 0) := by simpa [Array.getElem?_eq_getElem hlt] using h
  show (w.heap.modify g _)[g]? = _
  rw [Array.getElem?_eq_getElem (by simpa using hlt), Array.getElem_modify_self, h']
  rfl
theorem set_id {w : World} {q i : Nat} {cs : Array Value} {t : TypeId} {f : Nat × Nat} {v : Value} (h : w.heap[q]? = some (.cells cs t f)) (hi : cs[i]? = some v) : w.setCell ⟨q, i, none⟩ v = w := by
  have hm : (w.setCell ⟨q, i, none⟩ v).heap = w.heap := by
    unfold World.setCell
    dsimp only
    apply Array.ext_getElem?
    intro j
    rw [Array.getElem?_modify]
    split
    · next e =>
      subst e
      rw [h]
      have hs : cs.setIfInBounds i v = cs := by
        apply Array.ext_getElem?
        intro k
        rw [Array.getElem?_setIfInBounds]
        split
        · next e2 =>
          subst e2
          split
          · exact hi.symm
          · next h2 => rw [Array.getElem?_eq_none (by omega)] at hi; simp at hi
        · rfl
      simp [hs]
    · rfl
  cases w
  simp only [World.setCell] at hm ⊢
  rw [hm]
theorem rNum_62 (x : ByteArray × Int) : (rNum x).1 < 4611686018427387904 := by
  unfold rNum
  split
  · show 0 < 4611686018427387904; omega
  · cases hg : get x.1.data.toList with
    | none => show 0 < 4611686018427387904; omega
    | some p => exact (get_some hg).1
theorem rTxt_le (x : ByteArray × Int) : (rTxt x).2.1.size ≤ x.1.size := by
  unfold rTxt
  split
  · exact Nat.le_refl _
  · simp only [ByteArray.size_extract]; omega
theorem rNum_le (x : ByteArray × Int) : (rNum x).2.1.size ≤ x.1.size := by
  unfold rNum
  split
  · exact Nat.le_refl _
  · cases hg : get x.1.data.toList with
    | none => exact Nat.le_refl _
    | some p => simp only [ByteArray.size_extract]; omega
theorem rByt_le (x : ByteArray × Int) (n : Int) : (rByt x n).2.1.size ≤ x.1.size := by
  unfold rByt
  split
  · exact Nat.le_refl _
  · split
    · exact Nat.le_refl _
    · simp only [ByteArray.size_extract]; omega
theorem rByt_less {s3 s4 : ByteArray × Int} {id : ByteArray} (h : rByt s3 32 = (id, s4)) (h0 : s4.2 = 0) : s4.1.size < s3.1.size := by
  unfold rByt at h
  split at h
  · next hne => cases h; exact absurd h0 hne
  · split at h
    · cases h; cases h0
    · next hz => cases h; simp only [ByteArray.size_extract]; omega
theorem wpList_append1u {P : Program} {w : World} {ops : Array Oper} {rest : List Oper} {o : Oper} {a : Act} {Q : Exit → Act → World → Prop} (hgd : o.guard = none) (s x : Operand) (t : TypeId)
    (ho : o.op = .call { callee := .builtin .append, args := #[s, x], argTypes := #[t, t] })
    {base : Nat} {e : TypeId} {z : Value} {size bytes : Nat} (hinf : infoIs P e z size bytes) (ht : P.underlying t = some (.slice e)) (hzs : z.cells.size = size) (hsz : 0 < size) (hby : 0 < bytes)
    {v : Value} {n : Nat} {xs : List Value} (hown : w.ownsRow base e size v n xs) (hb : base ≤ w.heap.size)
    {cs : Array Value} (hcs : cs.size = size) (h1 : ∀ u ∈ cs.toList, u.oneCell' = true) (hbytes : (n + 1) * bytes ≤ 140737488355328)
    (hs : a.eval s = v) (hx : a.eval x = .slice (some ⟨w.heap.size, 0, none⟩) 1 1)
    (h : ∀ v' w', w'.ownsRow base e size v' (n + 1) (xs ++ cs.toList) → Upd (fun k => v.ownBlock = some k) w w' → wpList P ops Q rest (a.put o.dst v') w') : wpList P ops Q (o :: rest) a (w.alloc (.cells cs e)) := by
  obtain ⟨i, hi, hz, hsize, hbt⟩ := info_parts hinf
  have hle : n + 1 ≤ (n + 1) * bytes := Nat.le_mul_of_pos_right _ hby
  refine wpList_append_own _ hgd s x t ho base e i z size bytes ht hi hz hsize hbt hzs hsz v n xs hs (hown.alloc _) ⟨w.heap.size, 0, none⟩ 1 1 cs.toList hx (by simp [hcs]) ?_ h1 (by unfold maxLen; omega) hbytes (by simp; omega) ?_
  · intro j u hu
    rw [addr_add, Nat.zero_add]
    exact cell_block j u (by simpa using hu)
  · intro v' w' hown' hgrow _
    exact h v' w' hown' (((Upd.refl _ w).alloc _).grown hgrow (fun k hk => .inl hk))
theorem wp_append1u {P : Program} {w : World} {o : Oper} {a : Act} {K : Act → World → Prop} {Q : Exit → Act → World → Prop} (s x : Operand) (t : TypeId)
    (ho : o.op = .call { callee := .builtin .append, args := #[s, x], argTypes := #[t, t] })
    {base : Nat} {e : TypeId} {z : Value} {bytes : Nat} (hinf : infoIs P e z 1 bytes) (ht : P.underlying t = some (.slice e)) (hzs : z.cells.size = 1) (hby : 0 < bytes)
    {v : Value} {n : Nat} {xs : List Value} (hown : w.ownsRow base e 1 v n xs) (hb : base ≤ w.heap.size)
    {u : Value} (h1 : u.oneCell' = true) (hbytes : (n + 1) * bytes ≤ 140737488355328)
    (hs : a.eval s = v) (hx : a.eval x = .slice (some ⟨w.heap.size, 0, none⟩) 1 1)
    (h : ∀ v' w', w'.ownsRow base e 1 v' (n + 1) (xs ++ [u]) → Upd (fun k => v.ownBlock = some k) w w' → K (a.put o.dst v') w') : o.wp P a (w.alloc (.cells #[u] e)) K Q := by
  obtain ⟨i, hi, hz, hsize, hbt⟩ := info_parts hinf
  have hle : n + 1 ≤ (n + 1) * bytes := Nat.le_mul_of_pos_right _ hby
  refine wp_append_own _ s x t ho base e i z 1 bytes ht hi hz hsize hbt hzs (by decide) v n xs hs (hown.alloc _) ⟨w.heap.size, 0, none⟩ 1 1 [u] hx (by simp) ?_ (by simpa using h1) (by unfold maxLen; omega) hbytes (by simp; omega) ?_
  · intro j x hj
    rw [addr_add, Nat.zero_add]
    exact cell_block j x (by simpa using hj)
  · intro v' w' hown' hgrow _
    exact h v' w' hown' (((Upd.refl _ w).alloc _).grown hgrow (fun k hk => .inl hk))
end Go.Proofs.YtmacceamebdelaaDoor
