/- Descends in plain Lean: what it comes to, and that it is right where there is room for all. -/
import Derived.Test.YtalkheljejkpiaaDoorBas
import Derived.Test.YtalkheljejkpiaaDoorObA
namespace Go.Proofs.YtalkheljejkpiaaDoor
set_option linter.unusedVariables false
set_option linter.unusedSimpArgs false

noncomputable def kids (g : ByteArray → ByteArray × Int) (x : ByteArray) : List ByteArray :=
  if (g x).2 = 0 ∧ (decodeF (g x).1).2 = 0 ∧ (decodeF (g x).1).1.kind = 3 then (decodeF (g x).1).1.pars else []
noncomputable def desG (g : ByteArray → ByteArray × Int) (fr : ByteArray) : Nat → List ByteArray → List ByteArray → Bool
  | 0, _, _ => false
  | _ + 1, _, [] => false
  | n + 1, seen, x :: rest => if 400 ≤ seen.length then false else if x = fr then true else if hasB seen x = true then desG g fr n seen rest else desG g fr n (seen ++ [x]) (rest ++ kids g x)
def muD (seen work : List ByteArray) : Nat := (400 - seen.length) * 5 + work.length
noncomputable def desF (g : ByteArray → ByteArray × Int) (id fr : ByteArray) : Bool := desG g fr 2002 [] [id]
theorem hasB_iff {ss : List ByteArray} {x : ByteArray} : hasB ss x = true ↔ x ∈ ss := by simp [hasB]
variable {g : ByteArray → ByteArray × Int} {fr : ByteArray}
theorem kids_good {x : ByteArray} (h : (g x).2 = 0 ∧ (decodeF (g x).1).2 = 0 ∧ (decodeF (g x).1).1.kind = 3) : kids g x = (decodeF (g x).1).1.pars := by unfold kids; rw [if_pos h]
theorem kids_none {x : ByteArray} (h : ¬ ((g x).2 = 0 ∧ (decodeF (g x).1).2 = 0 ∧ (decodeF (g x).1).1.kind = 3)) : kids g x = [] := by unfold kids; rw [if_neg h]
theorem kids_len (g : ByteArray → ByteArray × Int) (x : ByteArray) : (kids g x).length ≤ 4 := by
  by_cases h : (g x).2 = 0 ∧ (decodeF (g x).1).2 = 0 ∧ (decodeF (g x).1).1.kind = 3
  · rw [kids_good h]
    have := decode_ok (s := (g x).1) (o := (decodeF (g x).1).1) (by rw [← h.2.1])
    exact (goodF_good this.1).pars
  · rw [kids_none h]; exact Nat.zero_le _
theorem kids_32 {x y : ByteArray} (h : y ∈ kids g x) : y.size = 32 := by
  by_cases k : (g x).2 = 0 ∧ (decodeF (g x).1).2 = 0 ∧ (decodeF (g x).1).1.kind = 3
  · rw [kids_good k] at h
    have := decode_ok (s := (g x).1) (o := (decodeF (g x).1).1) (by rw [← k.2.1])
    exact (goodF_good this.1).par _ h
  · rw [kids_none k] at h; cases h
/-- From one to another, from parent to parent. -/
inductive Rch (g : ByteArray → ByteArray × Int) : ByteArray → ByteArray → Prop
  | refl (x : ByteArray) : Rch g x x
  | step {x y z : ByteArray} (h : y ∈ kids g x) (r : Rch g y z) : Rch g x z
theorem Rch.trans {x y z : ByteArray} (h : Rch g x y) (k : Rch g y z) : Rch g x z := by
  induction h with
  | refl => exact k
  | step h _ ih => exact .step h (ih k)
theorem des_sound : ∀ (n : Nat) (seen work : List ByteArray), desG g fr n seen work = true → ∃ x ∈ work, Rch g x fr
  | 0, _, _, h => by cases h
  | n + 1, seen, [], h => by cases h
  | n + 1, seen, x :: rest, h => by
    unfold desG at h
    split at h
    · cases h
    · split at h
      · next e => subst e; exact ⟨x, by simp, .refl _⟩
      · split at h
        · obtain ⟨y, hy, hr⟩ := des_sound n _ _ h
          exact ⟨y, by simp [hy], hr⟩
        · obtain ⟨y, hy, hr⟩ := des_sound n _ _ h
          rcases List.mem_append.1 hy with hy | hy
          · exact ⟨y, by simp [hy], hr⟩
          · exact ⟨x, by simp, .step hy hr⟩
/-- A way that leaves what has been seen comes by what is still to be looked at. -/
theorem way_out {seen work : List ByteArray} (hc : ∀ z ∈ seen, ∀ y ∈ kids g z, y ∈ seen ∨ y ∈ work) (hf : fr ∉ seen) {x : ByteArray} (r : Rch g x fr) : x ∈ seen → ∃ y ∈ work, y ∉ seen ∧ Rch g y fr := by
  induction r with
  | refl => intro h; exact absurd h hf
  | @step x y z hk r ih =>
    intro h
    by_cases hy : y ∈ seen
    · exact ih hf hy
    · exact ⟨y, (hc x h y hk).resolve_left hy, hy, r⟩
theorem nodup_len : ∀ {l U : List ByteArray}, l.Nodup → (∀ x ∈ l, x ∈ U) → l.length ≤ U.length
  | [], _, _, _ => Nat.zero_le _
  | x :: l, U, hn, hs => by
    obtain ⟨h1, h2⟩ := List.nodup_cons.1 hn
    have hx : x ∈ U := hs x (by simp)
    have h3 := nodup_len (l := l) (U := U.filter fun y => decide (y ≠ x)) h2 (fun y hy => by
      rw [List.mem_filter]
      exact ⟨hs y (by simp [hy]), by simp only [decide_eq_true_eq]; intro e; exact h1 (e ▸ hy)⟩)
    have h4 : (U.filter fun y => decide (y ≠ x)).length < U.length := List.length_filter_lt_length_iff_exists.2 ⟨x, hx, by simp⟩
    simp only [List.length_cons]; omega
theorem des_full {U : List ByteArray} (hU : U.length < 400) (hk : ∀ z ∈ U, ∀ y ∈ kids g z, y ∈ U) : ∀ (n : Nat) (seen work : List ByteArray), muD seen work < n → seen.Nodup → (∀ z ∈ seen, z ∈ U) → (∀ z ∈ work, z ∈ U) →
    (∀ z ∈ seen, ∀ y ∈ kids g z, y ∈ seen ∨ y ∈ work) → fr ∉ seen → desG g fr n seen work = false → ∀ x ∈ work, ¬ Rch g x fr
  | 0, _, _, h, _, _, _, _, _, _ => absurd h (Nat.not_lt_zero _)
  | n + 1, seen, [], _, _, _, _, _, _, _ => fun x hx => by cases hx
  | n + 1, seen, x :: rest, hm, hn, hs, hw, hc, hf, hd => by
    have hl := nodup_len hn hs
    unfold desG at hd
    rw [if_neg (by omega)] at hd
    by_cases e : x = fr
    · rw [if_pos e] at hd; cases hd
    · rw [if_neg e] at hd
      by_cases hx : x ∈ seen
      · rw [if_pos (hasB_iff.2 hx)] at hd
        have hc' : ∀ z ∈ seen, ∀ y ∈ kids g z, y ∈ seen ∨ y ∈ rest := fun z hz y hy => by
          rcases hc z hz y hy with h | h
          · exact .inl h
          · rcases List.mem_cons.1 h with h | h
            · exact .inl (h ▸ hx)
            · exact .inr h
        have ih := des_full hU hk n seen rest (by unfold muD at hm ⊢; simp only [List.length_cons] at hm; omega) hn hs (fun z hz => hw z (by simp [hz])) hc' hf hd
        intro y hy
        rcases List.mem_cons.1 hy with rfl | hy
        · intro r
          obtain ⟨z, hz, _, hr⟩ := way_out hc' hf r hx
          exact ih z hz hr
        · exact ih y hy
      · rw [if_neg (fun h => hx (hasB_iff.1 h))] at hd
        have hxU : x ∈ U := hw x (by simp)
        have ih := des_full hU hk n (seen ++ [x]) (rest ++ kids g x)
          (by unfold muD at hm ⊢; have := kids_len g x; simp only [List.length_cons, List.length_append, List.length_nil] at hm ⊢; omega)
          (List.nodup_append.2 ⟨hn, by simp, fun a ha b hb => by rw [List.mem_singleton.1 hb]; exact fun e => hx (e ▸ ha)⟩)
          (fun z hz => (List.mem_append.1 hz).elim (hs z) (fun h => by rw [List.mem_singleton.1 h]; exact hxU))
          (fun z hz => (List.mem_append.1 hz).elim (fun h => hw z (by simp [h])) (hk x hxU z))
          (fun z hz y hy => by
            rcases List.mem_append.1 hz with hz | hz
            · rcases hc z hz y hy with h | h
              · exact .inl (by simp [h])
              · rcases List.mem_cons.1 h with h | h
                · exact .inl (by simp [h])
                · exact .inr (by simp [h])
            · rw [List.mem_singleton.1 hz] at hy
              exact .inr (by simp [hy]))
          (by rw [List.mem_append, List.mem_singleton]; rintro (h | h); exact hf h; exact e h.symm) hd
        intro y hy
        rcases List.mem_cons.1 hy with rfl | hy
        · intro r
          cases r with
          | refl => exact e rfl
          | step hk' r => exact ih _ (by simp [hk']) r
        · exact ih y (by simp [hy])
theorem des_iff {U : List ByteArray} (hU : U.length < 400) (hk : ∀ z ∈ U, ∀ y ∈ kids g z, y ∈ U) {x : ByteArray} (hx : x ∈ U) (fr : ByteArray) : desF g x fr = true ↔ Rch g x fr := by
  constructor
  · intro h
    obtain ⟨y, hy, r⟩ := des_sound _ _ _ h
    rw [List.mem_singleton.1 hy] at r; exact r
  · intro r
    cases h : desF g x fr with
    | true => rfl
    | false => exact absurd r (des_full hU hk 2002 [] [x] (by show (400 - 0) * 5 + 1 < 2002; decide) List.nodup_nil (fun _ h => by cases h) (fun z hz => by rw [List.mem_singleton.1 hz]; exact hx) (fun _ h => by cases h) (by simp) h x (by simp))
theorem des_self (g : ByteArray → ByteArray × Int) (x : ByteArray) : desF g x x = true := by
  unfold desF desG
  rw [if_neg (by decide), if_pos rfl]
/-- Upon few objects: from whatever one descends from what that descends from. -/
theorem des_trans {U : List ByteArray} (hU : U.length < 399) (hk : ∀ z y, y ∈ kids g z → y ∈ U) {a b c : ByteArray} (h1 : desF g a b = true) (h2 : desF g b c = true) : desF g a c = true := by
  have hkk : ∀ x : ByteArray, ∀ z ∈ x :: U, ∀ y ∈ kids g z, y ∈ x :: U := fun x z _ y hy => by simp [hk z y hy]
  rw [des_iff (U := a :: U) (by simp only [List.length_cons]; omega) (hkk a) (by simp)] at h1 ⊢
  rw [des_iff (U := b :: U) (by simp only [List.length_cons]; omega) (hkk b) (by simp)] at h2
  exact h1.trans h2
end Go.Proofs.YtalkheljejkpiaaDoor
