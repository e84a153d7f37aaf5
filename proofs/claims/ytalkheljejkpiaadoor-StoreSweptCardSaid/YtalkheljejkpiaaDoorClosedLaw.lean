/- What Reach finds is closed, rising, and has all that it began with. -/
import Derived.Test.YtalkheljejkpiaaDoorReachLaw
import Derived.Test.YtalkheljejkpiaaDoorNam
import Derived.Sort.Walk0
namespace Go.Proofs.YtalkheljejkpiaaDoor
set_option linter.unusedVariables false
set_option linter.unusedSimpArgs false

structure Closed (g : ByteArray → ByteArray × Int) (U : List ByteArray) : Prop where
  ok : ∀ x ∈ U, (g x).2 = 0 ∧ (decodeF (g x).1).2 = 0
  links : ∀ x ∈ U, ∀ y ∈ linksF (decodeF (g x).1).1, y ∈ U
  nod : U.Nodup
  len : U.length ≤ 400
variable {g : ByteArray → ByteArray × Int}
theorem hasB_no {ss : List ByteArray} {x : ByteArray} (h : x ∉ ss) : hasB ss x = false := by
  cases k : hasB ss x with
  | false => rfl
  | true => exact absurd (hasB_iff.1 k) h
theorem reG_closed : ∀ (n : Nat) (seen st : List ByteArray) (lk wg : Bool) (s : List ByteArray), reG g n seen st lk wg = some (s, false, false) → seen.Nodup → seen.length ≤ 400 →
    lk = false ∧ wg = false ∧ (∀ x ∈ seen, x ∈ s) ∧ (∀ x ∈ st, x ∈ s) ∧ s.Nodup ∧ s.length ≤ 400 ∧ ∀ x ∈ s, x ∈ seen ∨ (((g x).2 = 0 ∧ (decodeF (g x).1).2 = 0) ∧ ∀ y ∈ linksF (decodeF (g x).1).1, y ∈ s)
  | 0, _, _, _, _, _, h, _, _ => by cases h
  | n + 1, seen, [], lk, wg, s, h, hn, hl => by
    rw [reG_0] at h
    injection h with h; injection h with h1 h; injection h with h2 h3
    subst h1
    exact ⟨h2, h3, fun x hx => hx, fun x hx => (by cases hx), hn, hl, fun x hx => .inl hx⟩
  | n + 1, seen, x :: r, lk, wg, s, h, hn, hl => by
    by_cases h1 : hasB seen x = true
    · rw [reG_1 h1] at h
      obtain ⟨a1, a2, a3, a4, a5, a6, a7⟩ := reG_closed n seen r lk wg s h hn hl
      exact ⟨a1, a2, a3, fun y hy => (List.mem_cons.1 hy).elim (fun e => e ▸ a3 x (hasB_iff.1 h1)) (a4 y), a5, a6, a7⟩
    · have h1' : hasB seen x = false := by simpa using h1
      obtain ⟨⟨b, e⟩, hg⟩ : ∃ q, g x = q := ⟨_, rfl⟩
      by_cases he : e = 0
      · subst he
        obtain ⟨⟨o, ed⟩, hd⟩ : ∃ q, decodeF b = q := ⟨_, rfl⟩
        by_cases hz : ed = 0
        · subst hz
          by_cases h4 : 400 ≤ seen.length
          · rw [reG_4 h1' hg hd h4] at h; cases h
          · rw [reG_5 h1' hg hd h4] at h
            have hx : x ∉ seen := fun k => h1 (hasB_iff.2 k)
            obtain ⟨a1, a2, a3, a4, a5, a6, a7⟩ := reG_closed n (seen ++ [x]) ((linksF o).reverse ++ r) lk wg s h (List.nodup_append.2 ⟨hn, by simp, fun u hu v hv => by rw [List.mem_singleton.1 hv]; exact fun e => hx (e ▸ hu)⟩) (by simp only [List.length_append, List.length_cons, List.length_nil]; omega)
            have hxs : x ∈ s := a3 x (by simp)
            refine ⟨a1, a2, fun y hy => a3 y (by simp [hy]), fun y hy => (List.mem_cons.1 hy).elim (fun e => e ▸ hxs) (fun k => a4 y (by simp [k])), a5, a6, fun y hy => ?_⟩
            rcases a7 y hy with h | h
            · rcases List.mem_append.1 h with h | h
              · exact .inl h
              · rw [List.mem_singleton.1 h, hg]
                dsimp only
                rw [hd]
                exact .inr ⟨⟨rfl, rfl⟩, fun z hz => a4 z (by simp only [List.mem_append, List.mem_reverse]; exact .inl hz)⟩
            · exact .inr h
        · rw [reG_3 h1' hg hd hz] at h
          have := (reG_closed n seen r lk true s h hn hl).2.1
          cases this
      · rw [reG_2 h1' hg he] at h
        have := (reG_closed n seen r true wg s h hn hl).1
        cases this
theorem reG_full {U : List ByteArray} (hU : Closed g U) : ∀ (n : Nat) (seen st : List ByteArray), muR seen st < n → seen.Nodup → (∀ x ∈ seen, x ∈ U) → (∀ x ∈ st, x ∈ U) →
    ∃ s, reG g n seen st false false = some (s, false, false) ∧ ∀ x ∈ s, x ∈ U
  | 0, _, _, h, _, _, _ => absurd h (Nat.not_lt_zero _)
  | n + 1, seen, [], _, _, hs, _ => ⟨seen, rfl, hs⟩
  | n + 1, seen, x :: r, hm, hn, hs, ht => by
    have hxU := ht x (by simp)
    by_cases h1 : hasB seen x = true
    · rw [reG_1 h1]
      exact reG_full hU n seen r (by unfold muR at *; simp only [List.length_cons] at hm; omega) hn hs (fun y hy => ht y (by simp [hy]))
    · have h1' : hasB seen x = false := by simpa using h1
      have hx : x ∉ seen := fun k => h1 (hasB_iff.2 k)
      have hn' : (seen ++ [x]).Nodup := List.nodup_append.2 ⟨hn, by simp, fun u hu v hv => by rw [List.mem_singleton.1 hv]; exact fun e => hx (e ▸ hu)⟩
      have hs' : ∀ y ∈ seen ++ [x], y ∈ U := fun y hy => (List.mem_append.1 hy).elim (hs y) (fun k => (List.mem_singleton.1 k) ▸ hxU)
      have hl := nodup_len hn' hs'
      have hUl := hU.len
      simp only [List.length_append, List.length_cons, List.length_nil] at hl
      obtain ⟨b, hg⟩ : ∃ b, g x = (b, 0) := ⟨(g x).1, Prod.ext rfl (hU.ok x hxU).1⟩
      obtain ⟨o, hd⟩ : ∃ o, decodeF b = (o, 0) := ⟨(decodeF b).1, Prod.ext rfl (by have := (hU.ok x hxU).2; rw [hg] at this; exact this)⟩
      have hlk : ∀ y ∈ linksF o, y ∈ U := by
        have := hU.links x hxU
        rw [hg] at this; dsimp only at this; rw [hd] at this; exact this
      have h64 := (links_good (goodF_good (decode_ok hd).1)).1
      rw [reG_5 h1' hg hd (by omega)]
      exact reG_full hU n (seen ++ [x]) ((linksF o).reverse ++ r) (by unfold muR at *; simp only [List.length_cons, List.length_append, List.length_nil, List.length_reverse] at *; omega) hn' hs' (fun y hy => by
        rcases List.mem_append.1 hy with h | h
        · exact hlk y (List.mem_reverse.1 h)
        · exact ht y (by simp [h]))
/- The order. -/
theorem mem_sortF {l : List ByteArray} {x : ByteArray} : x ∈ sortF l ↔ x ∈ l := by
  unfold sortF
  rw [List.mem_map]
  constructor
  · rintro ⟨a, ha, rfl⟩
    obtain ⟨b, hb, rfl⟩ := List.mem_map.1 ((List.mergeSort_perm _ leB).mem_iff.1 ha)
    exact hb
  · intro hx
    exact ⟨x.data.toList, (List.mergeSort_perm _ leB).mem_iff.2 (List.mem_map.2 ⟨x, hx, rfl⟩), rfl⟩
theorem sortF_len (l : List ByteArray) : (sortF l).length = l.length := by unfold sortF; simp [List.length_mergeSort]
theorem sortF_perm (l : List ByteArray) : (sortF l).Perm l := by
  have h := (List.mergeSort_perm (l.map fun b => b.data.toList) leB).map (fun b => (⟨b.toArray⟩ : ByteArray))
  rw [List.map_map] at h
  have e : l.map ((fun b : List UInt8 => (⟨b.toArray⟩ : ByteArray)) ∘ fun b => b.data.toList) = l := by
    conv => rhs; rw [← List.map_id l]
    exact List.map_congr_left fun x _ => rfl
  rw [e] at h
  exact h
theorem lt_data (a b : ByteArray) : lt a b ↔ a.data.toList < b.data.toList := by
  unfold lt
  rw [bytesLess_eq, ByteArray.toList_eq, ByteArray.toList_eq, decide_eq_true_iff]
theorem sortF_srt {l : List ByteArray} (h : l.Nodup) : (sortF l).Pairwise lt := by
  have tr : ∀ a b c : List UInt8, leB a b = true → leB b c = true → leB a c = true := fun a b c h1 h2 => by simp only [leB, decide_eq_true_eq] at *; exact List.le_trans h1 h2
  have to : ∀ a b : List UInt8, (leB a b || leB b a) = true := fun a b => by simp only [leB, Bool.or_eq_true, decide_eq_true_eq]; exact List.le_total a b
  have h1 := List.pairwise_mergeSort tr to (l.map fun b => b.data.toList)
  have h2 : (sortF l).Pairwise (fun a b => leB a.data.toList b.data.toList = true) := by
    unfold sortF
    exact List.pairwise_map.2 (h1.imp fun h => h)
  have h3 : (sortF l).Nodup := (sortF_perm l).nodup_iff.2 h
  refine (List.pairwise_and_iff.2 ⟨h2, h3⟩).imp fun {a b} hab => ?_
  obtain ⟨hle, hne⟩ := hab
  simp only [leB, decide_eq_true_eq] at hle
  rcases lt_tri a b with k | k | k
  · exact k
  · exact absurd k hne
  · exact absurd ((lt_data b a).1 k) (by simpa using hle)
theorem reach_ok {ids all : List ByteArray} (h : reachF g ids = (all, 0)) : Closed g all ∧ (∀ x ∈ ids, x ∈ all) ∧ all.Pairwise lt := by
  cases hG : reG g (26001 + ids.length) [] ids.reverse false false with
  | none => rw [reachF_1 hG] at h; injection h with _ h; cases h
  | some t =>
    obtain ⟨seen, lk, wg⟩ := t
    cases lk with
    | true => rw [reachF_2 hG] at h; injection h with _ h; cases h
    | false =>
      cases wg with
      | true => rw [reachF_3 hG] at h; injection h with _ h; cases h
      | false =>
        rw [reachF_4 hG] at h
        injection h with h _
        subst h
        obtain ⟨_, _, _, a4, a5, a6, a7⟩ := reG_closed _ _ _ _ _ _ hG List.nodup_nil (Nat.zero_le _)
        have a8 : ∀ x ∈ seen, ((g x).2 = 0 ∧ (decodeF (g x).1).2 = 0) ∧ ∀ y ∈ linksF (decodeF (g x).1).1, y ∈ seen := fun x hx => (a7 x hx).resolve_left (by simp)
        exact ⟨⟨fun x hx => (a8 x (mem_sortF.1 hx)).1, fun x hx y hy => mem_sortF.2 ((a8 x (mem_sortF.1 hx)).2 y hy), (sortF_perm seen).nodup_iff.2 a5, by rw [sortF_len]; exact a6⟩, fun x hx => mem_sortF.2 (a4 x (List.mem_reverse.2 hx)), sortF_srt a5⟩
theorem reach_bad {ids : List ByteArray} (h : (reachF g ids).2 ≠ 0) : (reachF g ids).1 = [] := by
  cases hG : reG g (26001 + ids.length) [] ids.reverse false false with
  | none => rw [reachF_1 hG]
  | some t =>
    obtain ⟨seen, lk, wg⟩ := t
    cases lk with
    | true => rw [reachF_2 hG]
    | false =>
      cases wg with
      | true => rw [reachF_3 hG]
      | false => rw [reachF_4 hG] at h; exact absurd rfl h
theorem reach_in {U : List ByteArray} (hU : Closed g U) {ids : List ByteArray} (hi : ∀ x ∈ ids, x ∈ U) : ∃ s, reachF g ids = (s, 0) ∧ ∀ x ∈ s, x ∈ U := by
  obtain ⟨s, h1, h2⟩ := reG_full hU (26001 + ids.length) [] ids.reverse (by unfold muR; simp) List.nodup_nil (by simp) (fun x hx => hi x (List.mem_reverse.1 hx))
  exact ⟨sortF s, reachF_4 h1, fun x hx => h2 x (mem_sortF.1 hx)⟩
end Go.Proofs.YtalkheljejkpiaaDoor
