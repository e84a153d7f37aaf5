/- Plain laws of the encoding of numbers: no program in sight. -/
namespace Go.Proofs.YtinhjnbgblieeaaDoor

/-- The encoding of a number. -/
def enc (n : Nat) : List UInt8 :=
  if n < 128 then [UInt8.ofNat n] else UInt8.ofNat (n % 128 + 128) :: enc (n / 128)
termination_by n
decreasing_by omega

/-- What Get reads, from place i on, with m read so far. -/
def getAux : Nat → List UInt8 → Nat → Option (Nat × Nat)
  | _, [], _ => none
  | i, c :: r, m => if 9 ≤ i then none else if i = 8 ∧ 63 < c.toNat then none else
      if c.toNat < 128 then (if 0 < i ∧ c.toNat = 0 then none else some (m + (c.toNat % 128) * 128 ^ i, i + 1))
      else getAux (i + 1) r (m + (c.toNat % 128) * 128 ^ i)

def get (l : List UInt8) : Option (Nat × Nat) := getAux 0 l 0

theorem enc_small (n : Nat) (h : n < 128) : enc n = [UInt8.ofNat n] := by rw [enc]; simp [h]
theorem enc_big (n : Nat) (h : ¬ n < 128) : enc n = UInt8.ofNat (n % 128 + 128) :: enc (n / 128) := by rw [enc]; simp [h]

theorem enc_pos (n : Nat) : 0 < (enc n).length := by
  by_cases h : n < 128
  · rw [enc_small n h]; simp
  · rw [enc_big n h]; simp

theorem toNat_ofNat (n : Nat) (h : n < 256) : (UInt8.ofNat n).toNat = n := by
  simp [UInt8.toNat_ofNat']; omega

theorem ofNat_toNat (c : UInt8) : UInt8.ofNat c.toNat = c := by simp

theorem enc_len (n : Nat) : ∀ k, n < 128 ^ (k + 1) → (enc n).length ≤ k + 1 := by
  intro k
  induction k generalizing n with
  | zero => intro h; rw [enc_small n (by omega)]; simp
  | succ k ih =>
    intro h
    by_cases hs : n < 128
    · rw [enc_small n hs]; simp
    · rw [enc_big n hs]
      have := ih (n / 128) (by rw [Nat.pow_succ] at h; omega)
      simp; omega

theorem enc_len9 (n : Nat) (h : n < 4611686018427387904) : (enc n).length ≤ 9 :=
  enc_len n 8 (by have : (128 : Nat) ^ 9 = 9223372036854775808 := by decide
                  simp only [Nat.reduceAdd]; omega)

theorem mul_pow_succ (q r i : Nat) : (q * 128 + r) * 128 ^ i = r * 128 ^ i + q * 128 ^ (i + 1) := by
  rw [Nat.pow_succ, Nat.add_mul, Nat.mul_assoc, Nat.mul_comm 128 (128 ^ i), Nat.add_comm]

theorem getAux_some (l : List UInt8) : ∀ (i m n k : Nat), m < 128 ^ i → getAux i l m = some (n, k) →
    ∃ x, n = m + x * 128 ^ i ∧ k = i + (enc x).length ∧ l.take (enc x).length = enc x ∧ (0 < i → 0 < x) ∧ k ≤ 9 ∧ n < 4611686018427387904 ∧ (enc x).length ≤ l.length := by
  induction l with
  | nil => intro i m n k _ h; simp [getAux] at h
  | cons c r ih =>
    intro i m n k hm h
    rw [getAux] at h
    split at h
    · cases h
    · rename_i h9
      split at h
      · cases h
      · rename_i h8
        have hp : (128 : Nat) ^ i ≤ 128 ^ 8 := Nat.pow_le_pow_right (by omega) (by omega)
        have e8 : (128 : Nat) ^ 8 = 72057594037927936 := by decide
        split at h
        · rename_i hc
          split at h
          · cases h
          · rename_i h0
            simp only [Option.some.injEq, Prod.mk.injEq] at h
            obtain ⟨rfl, rfl⟩ := h
            have hmod : c.toNat % 128 = c.toNat := Nat.mod_eq_of_lt hc
            have he : enc c.toNat = [c] := by rw [enc_small _ hc, ofNat_toNat]
            refine ⟨c.toNat, by rw [hmod], by rw [he]; rfl, by rw [he]; rfl, ?_, by omega, ?_, by rw [he]; simp⟩
            · intro hi; have : ¬ c.toNat = 0 := fun e => h0 ⟨hi, e⟩; omega
            · rw [hmod]
              by_cases hi8 : i = 8
              · subst hi8
                have : c.toNat ≤ 63 := by have := fun hx => h8 ⟨rfl, hx⟩; omega
                omega
              · have hp7 : (128 : Nat) ^ i ≤ 128 ^ 7 := Nat.pow_le_pow_right (by omega) (by omega)
                have e7 : (128 : Nat) ^ 7 = 562949953421312 := by decide
                have : c.toNat * 128 ^ i ≤ 127 * 562949953421312 := Nat.mul_le_mul (by omega) (by omega)
                omega
        · rename_i hc
          have hcl : c.toNat < 256 := c.toNat_lt
          have hm' : m + (c.toNat % 128) * 128 ^ i < 128 ^ (i + 1) := by
            have : (c.toNat % 128) * 128 ^ i ≤ 127 * 128 ^ i := Nat.mul_le_mul_right _ (by omega)
            rw [Nat.pow_succ]; omega
          obtain ⟨x, hn, hk, ht, hx, hk9, hn2, hl⟩ := ih (i + 1) _ n k hm' h
          have hx' := hx (by omega)
          have hbig : ¬ (x * 128 + c.toNat % 128) < 128 := by omega
          have he : enc (x * 128 + c.toNat % 128) = c :: enc x := by
            rw [enc_big _ hbig]
            have e1 : (x * 128 + c.toNat % 128) % 128 + 128 = c.toNat := by omega
            have e2 : (x * 128 + c.toNat % 128) / 128 = x := by omega
            rw [e1, e2, ofNat_toNat]
          refine ⟨x * 128 + c.toNat % 128, ?_, ?_, ?_, fun _ => by omega, hk9, hn2, ?_⟩
          · rw [hn, mul_pow_succ]; omega
          · rw [he, hk]; simp; omega
          · rw [he]; simp [ht]
          · rw [he]; simp; omega

theorem getAux_enc (x : Nat) : ∀ (i m : Nat) (more : List UInt8), i ≤ 8 → m + x * 128 ^ i < 4611686018427387904 → (0 < i → 0 < x) →
    getAux i (enc x ++ more) m = some (m + x * 128 ^ i, i + (enc x).length) := by
  induction x using Nat.strongRecOn with
  | _ x ih =>
    intro i m more hi hb hx
    by_cases hs : x < 128
    · rw [enc_small x hs]
      simp only [List.cons_append, List.nil_append, getAux, toNat_ofNat x (by omega), Nat.mod_eq_of_lt hs, if_pos hs, List.length_cons, List.length_nil]
      rw [if_neg (by omega), if_neg, if_neg]
      · rintro ⟨h1, h2⟩; have := hx h1; omega
      · rintro ⟨h1, h2⟩; subst h1
        have e8 : (128 : Nat) ^ 8 = 72057594037927936 := by decide
        rw [e8] at hb; omega
    · rw [enc_big x hs]
      have hi7 : i ≤ 7 := by
        rcases Nat.lt_or_ge i 8 with h | h
        · omega
        · have : i = 8 := by omega
          subst this
          have e8 : (128 : Nat) ^ 8 = 72057594037927936 := by decide
          rw [e8] at hb; omega
      have hc : (UInt8.ofNat (x % 128 + 128)).toNat = x % 128 + 128 := toNat_ofNat _ (by omega)
      have hmod : (x % 128 + 128) % 128 = x % 128 := by omega
      have hsplit : x * 128 ^ i = (x % 128) * 128 ^ i + x / 128 * 128 ^ (i + 1) := by
        rw [← mul_pow_succ]; congr 1; omega
      simp only [List.cons_append, getAux, hc, hmod]
      rw [if_neg (by omega), if_neg (by omega), if_neg (by omega), ih (x / 128) (by omega) (i + 1) _ more (by omega) (by omega) (fun _ => by omega)]
      simp only [List.length_cons, Option.some.injEq, Prod.mk.injEq]
      exact ⟨by omega, by omega⟩

theorem getAux_cut (x : Nat) : ∀ (i m j : Nat), j < (enc x).length → getAux i ((enc x).take j) m = none := by
  induction x using Nat.strongRecOn with
  | _ x ih =>
    intro i m j hj
    match j with
    | 0 => simp [getAux]
    | j + 1 =>
      by_cases hs : x < 128
      · rw [enc_small x hs] at hj; simp at hj
      · rw [enc_big x hs] at hj ⊢
        have hc : (UInt8.ofNat (x % 128 + 128)).toNat = x % 128 + 128 := toNat_ofNat _ (by omega)
        simp only [List.take_succ_cons, getAux, hc]
        rw [if_neg (show ¬ x % 128 + 128 < 128 by omega), ih (x / 128) (by omega) _ _ j (by simpa using hj)]
        simp

theorem get_some {l : List UInt8} {n k : Nat} (h : get l = some (n, k)) :
    n < 4611686018427387904 ∧ k = (enc n).length ∧ l.take k = enc n ∧ 1 ≤ k ∧ k ≤ 9 ∧ k ≤ l.length := by
  obtain ⟨x, hn, hk, ht, _, hk9, hn2, hl⟩ := getAux_some l 0 0 n k (by simp) h
  have e : n = x := by simpa using hn
  subst e
  have hk' : k = (enc n).length := by omega
  have hp := enc_pos n
  exact ⟨hn2, hk', by rw [hk']; exact ht, by omega, hk9, by omega⟩

theorem get_enc (n : Nat) (more : List UInt8) (h : n < 4611686018427387904) : get (enc n ++ more) = some (n, (enc n).length) := by
  have := getAux_enc n 0 0 more (by omega) (by simpa using h) (by omega)
  simpa [get] using this

theorem get_cut (n j : Nat) (hj : j < (enc n).length) : get ((enc n).take j) = none := getAux_cut n 0 0 j hj

end Go.Proofs.YtinhjnbgblieeaaDoor
