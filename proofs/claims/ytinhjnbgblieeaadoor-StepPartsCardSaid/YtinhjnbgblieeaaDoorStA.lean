/- Texts put together: StepLaw Stp Step1 Step2 Step3. -/
import Derived.Test.YtinhjnbgblieeaaDoorBas
import Derived.Test.YtinhjnbgblieeaaDoorNam
import Derived.Test.YtinhjnbgblieeaaDoorSha
import Derived.Test.YtinhjnbgblieeaaDoorRegion3
/-! StepLaw -/
namespace Go.Proofs.YtinhjnbgblieeaaDoor
set_option linter.unusedVariables false
set_option linter.unusedSimpArgs false

structure Stp where
  ref : ByteArray
  old : ByteArray
  new : ByteArray
  who : List Int
  seals : List ByteArray
def zeroStp : Stp := ⟨noB, noB, noB, [], []⟩
def idOk (s : ByteArray) : Bool := decide (s.size = 0) || decide (s.size = 32)
def headOk (s : Stp) : Bool := namedR s.ref && (idOk s.old && (idOk s.new && decide (s.old ≠ s.new)))
/-- The first error of a row of tests. -/
def firstE (f : Nat → Int) : Nat → Nat → Int
  | _, 0 => 0
  | k, c + 1 => if f k ≠ 0 then f k else firstE f (k + 1) c
theorem firstE_at {f : Nat → Int} {k : Nat} (h0 : f k ≠ 0) : ∀ {c k0 : Nat}, k0 ≤ k → k < k0 + c → (∀ j, k0 ≤ j → j < k → f j = 0) → firstE f k0 c = f k
  | 0, k0, h1, h2, _ => by omega
  | c + 1, k0, h1, h2, h3 => by
    unfold firstE
    by_cases e : k0 = k
    · rw [e, if_pos h0]
    · rw [if_neg (fun h => h (h3 k0 (Nat.le_refl _) (by omega)))]
      exact firstE_at h0 (by omega) (by omega) (fun j a b => h3 j (by omega) b)
theorem firstE_all {f : Nat → Int} : ∀ {c k0 : Nat}, (∀ j, k0 ≤ j → j < k0 + c → f j = 0) → firstE f k0 c = 0
  | 0, _, _ => rfl
  | c + 1, k0, h => by
    unfold firstE
    rw [if_neg (fun e => e (h k0 (Nat.le_refl _) (by omega)))]
    exact firstE_all (fun j a b => h j (by omega) (by omega))
theorem firstE_zero {f : Nat → Int} : ∀ {c k0 : Nat}, firstE f k0 c = 0 → ∀ j, k0 ≤ j → j < k0 + c → f j = 0
  | 0, _, _, j, a, b => by omega
  | c + 1, k0, h, j, a, b => by
    unfold firstE at h
    by_cases e : f k0 = 0
    · rw [if_neg (fun k => k e)] at h
      by_cases ej : j = k0
      · rw [ej]; exact e
      · exact firstE_zero h j (by omega) (by omega)
    · rw [if_pos e] at h; exact absurd h e
def rowS (s : Stp) (k : Nat) : Int :=
  if s.who.getD k 0 < 0 ∨ 8 ≤ s.who.getD k 0 ∨ (0 < k ∧ s.who.getD k 0 ≤ s.who.getD (k - 1) 0) then 3 else if (s.seals.getD k noB).size ≠ 32 then 2 else 0
def goodS (s : Stp) : Int := if headOk s = false then 2 else if 8 < s.who.length ∨ s.who.length ≠ s.seals.length then 6 else firstE (rowS s) 0 s.who.length
/-- The rows of a good step, as pairs. -/
structure GoodP (P : List (Int × ByteArray)) : Prop where
  srt : (P.map Prod.fst).Pairwise (· < ·)
  rng : ∀ p ∈ P, 0 ≤ p.1 ∧ p.1 < 8
  siz : ∀ p ∈ P, p.2.size = 32
def stpOf (s : Stp) (P : List (Int × ByteArray)) : Stp := ⟨s.ref, s.old, s.new, P.map Prod.fst, P.map Prod.snd⟩
theorem len_range : ∀ (l : List Int) (a b : Int), l.Pairwise (· < ·) → (∀ x ∈ l, a ≤ x ∧ x < b) → l.length ≤ (b - a).toNat
  | [], _, _, _, _ => Nat.zero_le _
  | x :: l, a, b, h, g => by
    have h1 := List.pairwise_cons.1 h
    have hx := g x (by simp)
    have := len_range l (x + 1) b h1.2 (fun y hy => ⟨by have := h1.1 y hy; omega, (g y (by simp [hy])).2⟩)
    simp only [List.length_cons]
    omega
theorem GoodP.len {P : List (Int × ByteArray)} (h : GoodP P) : P.length ≤ 8 := by
  have := len_range (P.map Prod.fst) 0 8 h.srt (fun x hx => by obtain ⟨p, hp, rfl⟩ := List.mem_map.1 hx; exact h.rng p hp)
  simpa using this
theorem getD_map {α β : Type} (f : α → β) (l : List α) (k : Nat) (d : β) (h : k < l.length) : (l.map f).getD k d = f l[k] := by
  rw [List.getD, List.getElem?_map, List.getElem?_eq_getElem h]; rfl
theorem adj_lt : ∀ (l : List Int), (∀ k, 0 < k → k < l.length → l.getD (k - 1) 0 < l.getD k 0) → l.Pairwise (· < ·)
  | [], _ => List.Pairwise.nil
  | x :: l, h => by
    have ih := adj_lt l (fun k hk hl => by
      have := h (k + 1) (by omega) (by simpa using hl)
      obtain ⟨j, rfl⟩ : ∃ j, k = j + 1 := ⟨k - 1, by omega⟩
      simpa using this)
    refine List.pairwise_cons.2 ⟨fun y hy => ?_, ih⟩
    cases l with
    | nil => cases hy
    | cons z l =>
      have h1 : x < z := by simpa using h 1 (by omega) (by simp)
      rcases List.mem_cons.1 hy with rfl | hy
      · exact h1
      · exact Int.lt_trans h1 ((List.pairwise_cons.1 ih).1 y hy)
theorem goodS_of {s : Stp} (hh : headOk s = true) {P : List (Int × ByteArray)} (h : GoodP P) : goodS (stpOf s P) = 0 := by
  have hl := h.len
  unfold goodS
  rw [if_neg (by show ¬ headOk s = false; rw [hh]; decide), if_neg (by simp [stpOf]; omega)]
  refine firstE_all fun j _ hj => ?_
  have hj' : j < P.length := by simpa [stpOf] using hj
  unfold rowS
  have e1 : (stpOf s P).who.getD j 0 = P[j].1 := getD_map _ _ _ _ hj'
  have e2 : (stpOf s P).seals.getD j noB = P[j].2 := getD_map _ _ _ _ hj'
  have hr := h.rng P[j] (List.getElem_mem hj')
  have hs := h.siz P[j] (List.getElem_mem hj')
  rw [e1, e2]
  rw [if_neg, if_neg (fun k => k hs)]
  rintro (k | k | ⟨k0, k⟩)
  · omega
  · omega
  · have e3 : (stpOf s P).who.getD (j - 1) 0 = P[j - 1].1 := getD_map _ _ _ _ (by omega)
    rw [e3] at k
    have := List.pairwise_iff_getElem.1 h.srt (j - 1) j (by simp; omega) (by simpa using hj') (by omega)
    simp only [List.getElem_map] at this
    omega
theorem goodS_inv {s : Stp} (h : goodS s = 0) : headOk s = true ∧ ∃ P, GoodP P ∧ s = stpOf s P := by
  unfold goodS at h
  cases hh : headOk s with
  | false => rw [if_pos hh] at h; exact absurd h (by decide)
  | true =>
    rw [if_neg (by rw [hh]; decide)] at h
    by_cases hl : 8 < s.who.length ∨ s.who.length ≠ s.seals.length
    · rw [if_pos hl] at h; exact absurd h (by decide)
    · rw [if_neg hl] at h
      have hrow := firstE_zero h
      have hlen : s.who.length = s.seals.length := by omega
      have m1 : (s.who.zip s.seals).map Prod.fst = s.who := List.map_fst_zip (by omega)
      have m2 : (s.who.zip s.seals).map Prod.snd = s.seals := List.map_snd_zip (by omega)
      refine ⟨rfl, s.who.zip s.seals, ?_, ?_⟩
      · have key : ∀ j, j < s.who.length → 0 ≤ s.who.getD j 0 ∧ s.who.getD j 0 < 8 ∧ (0 < j → s.who.getD (j - 1) 0 < s.who.getD j 0) ∧ (s.seals.getD j noB).size = 32 := by
          intro j hj
          have hj2 := hrow j (Nat.zero_le _) (by omega)
          unfold rowS at hj2
          by_cases c : s.who.getD j 0 < 0 ∨ 8 ≤ s.who.getD j 0 ∨ (0 < j ∧ s.who.getD j 0 ≤ s.who.getD (j - 1) 0)
          · rw [if_pos c] at hj2; exact absurd hj2 (by decide)
          · rw [if_neg c] at hj2
            by_cases c2 : (s.seals.getD j noB).size ≠ 32
            · rw [if_pos c2] at hj2; exact absurd hj2 (by decide)
            · exact ⟨by omega, by omega, by omega, by omega⟩
        refine ⟨?_, fun p hp => ?_, fun p hp => ?_⟩
        · rw [m1]; exact adj_lt _ (fun k hk hl => (key k hl).2.2.1 hk)
        · obtain ⟨j, hj, rfl⟩ := List.mem_iff_getElem.1 hp
          have hj' : j < s.who.length := by have := hj; rw [List.length_zip] at this; omega
          have := key j hj'
          rw [List.getD, List.getElem?_eq_getElem hj'] at this
          simp only [List.getElem_zip]
          exact ⟨this.1, this.2.1⟩
        · obtain ⟨j, hj, rfl⟩ := List.mem_iff_getElem.1 hp
          have hj' : j < s.who.length := by have := hj; rw [List.length_zip] at this; omega
          have := (key j hj').2.2.2
          rw [List.getD, List.getElem?_eq_getElem (show j < s.seals.length by omega)] at this
          simp only [List.getElem_zip]
          exact this
      · unfold stpOf
        rw [m1, m2]

/-! Body. -/
def bodyL (n : Nat) (s : Stp) : List UInt8 := enc n ++ (encT s.ref ++ (encT s.old ++ encT s.new))
def bodyB (n : Nat) (s : Stp) : ByteArray := ⟨(bodyL n s).toArray⟩
def bodyF (at_ : Int) (s : Stp) : ByteArray × Int := if at_ < 0 ∨ 200 ≤ at_ then (noB, 3) else (bodyB at_.toNat s, 0)
theorem enc_ne {m n : Nat} (hm : m < 4611686018427387904) (hn : n < 4611686018427387904) {a b : List UInt8} (h : enc m ++ a = enc n ++ b) : m = n := by
  have h1 := get_enc m a hm
  have h2 := get_enc n b hn
  rw [h, h2] at h1
  have := congrArg (Option.map Prod.fst) h1
  simpa using this.symm
theorem body_ne {m n : Nat} (hm : m < 200) (hn : n < 200) (s : Stp) (h : bodyB m s = bodyB n s) : m = n := by
  have e : bodyL m s = bodyL n s := by
    have := congrArg (fun b : ByteArray => b.data.toList) h
    simpa [bodyB] using this
  exact enc_ne (by omega) (by omega) e

/-! Sign. -/
section
variable (sl : ByteArray → ByteArray → ByteArray)
def insW {α : Type} (k : Nat) (x : α) (l : List α) : List α := l.take k ++ x :: l.drop k
def whoK (who : Int) (l : List Int) : Nat := (l.takeWhile (fun x => decide (x < who))).length
def signF (s : Stp) (at_ who : Int) (key : ByteArray) : Stp × Int :=
  if goodS s ≠ 0 then (zeroStp, goodS s) else if (bodyF at_ s).2 ≠ 0 then (zeroStp, (bodyF at_ s).2) else if who < 0 ∨ 8 ≤ who then (zeroStp, 3) else
  if s.who[whoK who s.who]? = some who then (zeroStp, 8) else
  (⟨s.ref, s.old, s.new, insW (whoK who s.who) who s.who, insW (whoK who s.who) (sl key (bodyF at_ s).1) s.seals⟩, 0)
def insP (p : Int × ByteArray) : List (Int × ByteArray) → List (Int × ByteArray)
  | [] => [p]
  | q :: P => if q.1 < p.1 then q :: insP p P else p :: q :: P
theorem insP_eq (p : Int × ByteArray) : ∀ P : List (Int × ByteArray), insP p P = insW (whoK p.1 (P.map Prod.fst)) p P
  | [] => rfl
  | q :: P => by
    have ih := insP_eq p P
    unfold insP
    by_cases h : q.1 < p.1
    · rw [if_pos h, ih]
      simp [insW, whoK, h]
    · rw [if_neg h]
      simp [insW, whoK, h]
theorem map_insW {α β : Type} (f : α → β) (k : Nat) (x : α) (l : List α) : (insW k x l).map f = insW k (f x) (l.map f) := by simp [insW, List.map_take, List.map_drop]
theorem insP_comm {p q : Int × ByteArray} (h : p.1 ≠ q.1) : ∀ P : List (Int × ByteArray), insP p (insP q P) = insP q (insP p P)
  | [] => by
    simp only [insP]
    by_cases a : q.1 < p.1
    · rw [if_pos a, if_neg (show ¬ p.1 < q.1 by omega)]
    · rw [if_neg a, if_pos (show p.1 < q.1 by omega)]
  | x :: P => by
    have ih := insP_comm h P
    by_cases a : x.1 < p.1
    · by_cases b : x.1 < q.1
      · simp only [insP, a, b, if_true, ih]
      · have c : q.1 < p.1 := by omega
        have d : ¬ p.1 < q.1 := by omega
        simp only [insP, a, b, c, if_true, if_false]
    · by_cases b : x.1 < q.1
      · have c : p.1 < q.1 := by omega
        simp only [insP, a, b, c, if_true, if_false]
      · rcases Int.lt_or_gt_of_ne h with c | c
        · have d : ¬ q.1 < p.1 := by omega
          simp only [insP, a, b, c, d, if_true, if_false]
        · have d : ¬ p.1 < q.1 := by omega
          simp only [insP, a, b, d, if_true, if_false]
          rw [if_pos (show q.1 < p.1 from c)]
theorem insP_len (p : Int × ByteArray) : ∀ P : List (Int × ByteArray), (insP p P).length = P.length + 1
  | [] => rfl
  | q :: P => by
    unfold insP
    split
    · simp [insP_len p P]
    · simp
theorem insP_mem {p x : Int × ByteArray} : ∀ {P : List (Int × ByteArray)}, x ∈ insP p P ↔ x = p ∨ x ∈ P
  | [] => by simp [insP]
  | q :: P => by
    unfold insP
    split
    · simp only [List.mem_cons, insP_mem (P := P)]
      constructor
      · rintro (h | h | h) <;> simp [h]
      · rintro (h | h | h) <;> simp [h]
    · simp only [List.mem_cons]
theorem GoodP.ins {P : List (Int × ByteArray)} (h : GoodP P) {p : Int × ByteArray} (h1 : 0 ≤ p.1 ∧ p.1 < 8) (h2 : p.2.size = 32) (h3 : ∀ q ∈ P, q.1 ≠ p.1) : GoodP (insP p P) := by
  refine ⟨?_, fun x hx => ?_, fun x hx => ?_⟩
  · have key : ∀ P : List (Int × ByteArray), (P.map Prod.fst).Pairwise (· < ·) → (∀ q ∈ P, q.1 ≠ p.1) → ((insP p P).map Prod.fst).Pairwise (· < ·) := by
      intro P
      induction P with
      | nil => intro _ _; simp [insP]
      | cons q P ih =>
        intro hs hn
        have hc := List.pairwise_cons.1 (by simpa using hs : List.Pairwise (· < ·) (q.1 :: P.map Prod.fst))
        have hq := hn q (by simp)
        unfold insP
        split
        · rename_i hlt
          rw [List.map_cons]
          refine List.pairwise_cons.2 ⟨fun y hy => ?_, ih hc.2 (fun r hr => hn r (by simp [hr]))⟩
          obtain ⟨r, hr, rfl⟩ := List.mem_map.1 hy
          rcases insP_mem.1 hr with rfl | hr
          · exact hlt
          · exact hc.1 _ (List.mem_map_of_mem hr)
        · rename_i hlt
          have hpq : p.1 < q.1 := by omega
          rw [List.map_cons, List.map_cons]
          refine List.pairwise_cons.2 ⟨fun y hy => ?_, List.pairwise_cons.2 hc⟩
          rcases List.mem_cons.1 hy with rfl | hy
          · exact hpq
          · exact Int.lt_trans hpq (hc.1 y hy)
    exact key P h.srt h3
  · rcases insP_mem.1 hx with rfl | hx
    · exact h1
    · exact h.rng x hx
  · rcases insP_mem.1 hx with rfl | hx
    · exact h2
    · exact h.siz x hx
theorem whoK_le (x : Int) (l : List Int) : whoK x l ≤ l.length := by
  unfold whoK
  exact (List.takeWhile_sublist _).length_le
theorem whoK_mem : ∀ {l : List Int} {x : Int}, l.Pairwise (· < ·) → (l[whoK x l]? = some x ↔ x ∈ l)
  | [], x, _ => by simp [whoK]
  | y :: l, x, h => by
    have hc := List.pairwise_cons.1 h
    have ih := whoK_mem (x := x) hc.2
    by_cases e : y < x
    · have : whoK x (y :: l) = whoK x l + 1 := by simp [whoK, e]
      rw [this, List.getElem?_cons_succ, ih]
      simp only [List.mem_cons]
      constructor
      · exact .inr
      · rintro (rfl | h2)
        · omega
        · exact h2
    · have : whoK x (y :: l) = 0 := by simp [whoK, e]
      rw [this, List.getElem?_cons_zero]
      simp only [Option.some.injEq, List.mem_cons]
      constructor
      · exact fun h => .inl h.symm
      · rintro (rfl | h2)
        · rfl
        · have := hc.1 x h2; omega
/-- A signing of a good step, by its rows. -/
theorem sign_good {s : Stp} (hh : headOk s = true) {P : List (Int × ByteArray)} (h : GoodP P) {at_ who : Int} (key : ByteArray) (ha : 0 ≤ at_ ∧ at_ < 200) (hw : 0 ≤ who ∧ who < 8) :
    signF sl (stpOf s P) at_ who key = if who ∈ P.map Prod.fst then (zeroStp, 8) else (stpOf s (insP (who, sl key (bodyB at_.toNat s)) P), 0) := by
  unfold signF
  have hb : bodyF at_ (stpOf s P) = (bodyB at_.toNat s, 0) := by unfold bodyF; rw [if_neg (by omega)]; rfl
  rw [if_neg (fun k => k (goodS_of hh h)), hb, if_neg (fun k => k rfl), if_neg (by omega), show (stpOf s P).who = P.map Prod.fst from rfl]
  by_cases hm : who ∈ P.map Prod.fst
  · rw [if_pos ((whoK_mem h.srt).2 hm), if_pos hm]
  · rw [if_neg (fun k => hm ((whoK_mem h.srt).1 k)), if_neg hm, insP_eq]
    unfold stpOf
    rw [map_insW, map_insW]
theorem sign_inv {s : Stp} {at_ who : Int} {key : ByteArray} (h : (signF sl s at_ who key).2 = 0) : headOk s = true ∧ (0 ≤ at_ ∧ at_ < 200) ∧ (0 ≤ who ∧ who < 8) ∧ ∃ P, GoodP P ∧ s = stpOf s P ∧ who ∉ P.map Prod.fst := by
  have hg : goodS s = 0 := by
    unfold signF at h
    by_cases g : goodS s = 0
    · exact g
    · rw [if_pos g] at h; exact absurd h g
  obtain ⟨hh, P, hP, hs⟩ := goodS_inv hg
  unfold signF at h
  rw [if_neg (fun k => k hg)] at h
  by_cases ha : at_ < 0 ∨ 200 ≤ at_
  · have hb : (bodyF at_ s).2 = 3 := by unfold bodyF; rw [if_pos ha]
    rw [if_pos (by rw [hb]; decide), hb] at h; exact absurd h (by decide)
  · have hb : (bodyF at_ s).2 = 0 := by unfold bodyF; rw [if_neg ha]
    rw [if_neg (fun k => k hb)] at h
    by_cases hw : who < 0 ∨ 8 ≤ who
    · rw [if_pos hw] at h; exact absurd h (by decide)
    · rw [if_neg hw] at h
      refine ⟨hh, by omega, by omega, P, hP, hs, fun hm => ?_⟩
      have e : s.who = P.map Prod.fst := congrArg Stp.who hs
      rw [if_pos (by rw [e]; exact (whoK_mem hP.srt).2 hm)] at h
      exact absurd h (by decide)
theorem sign_bad {s : Stp} {at_ who : Int} {key : ByteArray} (h : (signF sl s at_ who key).2 ≠ 0) : (signF sl s at_ who key).1 = zeroStp := by
  unfold signF at h ⊢
  repeat' split
  all_goals first | rfl | skip
  all_goals simp_all
/-- In whichever order two sign, the step is the same; and nobody signs twice. -/
theorem sign_order (h32 : ∀ k b, (sl k b).size = 32) {s : Stp} {at_ a b : Int} {k l : ByteArray} (ha : (signF sl s at_ a k).2 = 0) (hb : (signF sl s at_ b l).2 = 0) (hne : a ≠ b) :
    (signF sl (signF sl s at_ a k).1 at_ b l).2 = 0 ∧ signF sl (signF sl s at_ b l).1 at_ a k = signF sl (signF sl s at_ a k).1 at_ b l ∧
      (signF sl (signF sl (signF sl s at_ a k).1 at_ b l).1 at_ a k).2 = 8 ∧ (signF sl (signF sl s at_ a k).1 at_ b l).1.who.length = s.who.length + 2 := by
  obtain ⟨hh, hat, har, P, hP, hs, hna⟩ := sign_inv sl ha
  obtain ⟨_, _, hbr, P', hP', hs', hnb'⟩ := sign_inv sl hb
  have hnb : b ∉ P.map Prod.fst := by
    have e1 : s.who = P.map Prod.fst := congrArg Stp.who hs
    have e2 : s.who = P'.map Prod.fst := congrArg Stp.who hs'
    rw [← e1, e2]; exact hnb'
  have nm : ∀ {c : Int} {Q : List (Int × ByteArray)}, c ∉ Q.map Prod.fst → ∀ q ∈ Q, q.1 ≠ c := fun hc q hq e => hc (e ▸ List.mem_map_of_mem hq)
  have nmi : ∀ {c d : Int} {x : ByteArray} {Q : List (Int × ByteArray)}, c ∉ Q.map Prod.fst → c ≠ d → c ∉ (insP (d, x) Q).map Prod.fst := by
    intro c d x Q hc hcd hm
    obtain ⟨q, hq, rfl⟩ := List.mem_map.1 hm
    rcases insP_mem.1 hq with rfl | hq
    · exact hcd rfl
    · exact hc (List.mem_map_of_mem hq)
  obtain ⟨sa, hsa⟩ : ∃ x, x = sl k (bodyB at_.toNat s) := ⟨_, rfl⟩
  obtain ⟨sb, hsb⟩ : ∃ x, x = sl l (bodyB at_.toNat s) := ⟨_, rfl⟩
  have s32a : sa.size = 32 := hsa ▸ h32 _ _
  have s32b : sb.size = 32 := hsb ▸ h32 _ _
  have e1 : signF sl s at_ a k = (stpOf s (insP (a, sa) P), 0) := by
    rw [hs, sign_good sl hh hP k hat har, if_neg hna, hsa]; rfl
  have e2 : signF sl s at_ b l = (stpOf s (insP (b, sb) P), 0) := by
    rw [hs, sign_good sl hh hP l hat hbr, if_neg hnb, hsb]; rfl
  have ga := hP.ins (p := (a, sa)) har s32a (nm hna)
  have gb := hP.ins (p := (b, sb)) hbr s32b (nm hnb)
  have e3 : signF sl (stpOf s (insP (a, sa) P)) at_ b l = (stpOf s (insP (b, sb) (insP (a, sa) P)), 0) := by
    rw [sign_good sl hh ga l hat hbr, if_neg (nmi hnb (fun e => hne e.symm)), hsb]
  have e4 : signF sl (stpOf s (insP (b, sb) P)) at_ a k = (stpOf s (insP (a, sa) (insP (b, sb) P)), 0) := by
    rw [sign_good sl hh gb k hat har, if_neg (nmi hna hne), hsa]
  have gab := ga.ins (p := (b, sb)) hbr s32b (nm (nmi hnb (fun e => hne e.symm)))
  rw [e1, e2]
  simp only
  rw [e3, e4]
  refine ⟨rfl, by rw [insP_comm (p := (a, sa)) (q := (b, sb)) hne], ?_, ?_⟩
  · rw [sign_good sl hh gab k hat har, if_pos]
    exact List.mem_map.2 ⟨(a, sa), insP_mem.2 (.inr (insP_mem.2 (.inl rfl))), rfl⟩
  · have e5 : s.who.length = P.length := by
      have := congrArg (fun x : Stp => x.who.length) hs
      simpa [stpOf] using this
    simp [stpOf, insP_len, e5]

/-! Check. -/
def rowC (signers : List ByteArray) (b : ByteArray) (s : Stp) (k : Nat) : Int :=
  if (signers.length : Int) ≤ s.who.getD k 0 ∨ sl (signers.getD (s.who.getD k 0).toNat noB) b ≠ s.seals.getD k noB then 13 else 0
def checkF (signers : List ByteArray) (need at_ : Int) (s : Stp) : Int :=
  if goodS s ≠ 0 then goodS s else if (bodyF at_ s).2 ≠ 0 then (bodyF at_ s).2 else
  if firstE (rowC sl signers (bodyF at_ s).1 s) 0 s.who.length ≠ 0 then firstE (rowC sl signers (bodyF at_ s).1 s) 0 s.who.length else
  if (s.who.length : Int) < need then 13 else 0
theorem firstE_13 {f : Nat → Int} (h : ∀ j, f j = 13 ∨ f j = 0) : ∀ c k0, firstE f k0 c = 13 ∨ firstE f k0 c = 0
  | 0, _ => .inr rfl
  | c + 1, k0 => by
    unfold firstE
    split
    · exact h k0
    · exact firstE_13 h c (k0 + 1)
theorem rowC_13 (signers : List ByteArray) (b : ByteArray) (s : Stp) (k : Nat) : rowC sl signers b s k = 13 ∨ rowC sl signers b s k = 0 := by
  unfold rowC; split
  · exact .inl rfl
  · exact .inr rfl
/-- Signed rows: each by its own key. -/
def RowsBy (signers : List ByteArray) (b : ByteArray) (P : List (Int × ByteArray)) : Prop := ∀ p ∈ P, p.1 < signers.length ∧ p.2 = sl (signers.getD p.1.toNat noB) b
theorem check_rows {signers : List ByteArray} {need at_ : Int} {s : Stp} (hh : headOk s = true) {P : List (Int × ByteArray)} (h : GoodP P) (ha : 0 ≤ at_ ∧ at_ < 200) (hr : RowsBy sl signers (bodyB at_.toNat s) P) :
    checkF sl signers need at_ (stpOf s P) = if (P.length : Int) < need then 13 else 0 := by
  unfold checkF
  have hb : bodyF at_ (stpOf s P) = (bodyB at_.toNat s, 0) := by unfold bodyF; rw [if_neg (by omega)]; rfl
  rw [if_neg (fun k => k (goodS_of hh h)), hb, if_neg (fun k => k rfl)]
  have hz : firstE (rowC sl signers (bodyB at_.toNat s) (stpOf s P)) 0 (stpOf s P).who.length = 0 := by
    refine firstE_all fun j _ hj => ?_
    have hj' : j < P.length := by simpa [stpOf] using hj
    have e1 : (stpOf s P).who.getD j 0 = P[j].1 := getD_map _ _ _ _ hj'
    have e2 : (stpOf s P).seals.getD j noB = P[j].2 := getD_map _ _ _ _ hj'
    have := hr P[j] (List.getElem_mem hj')
    unfold rowC
    rw [e1, e2, if_neg]
    rintro (k | k)
    · omega
    · exact k this.2.symm
  rw [if_neg (fun k => k hz)]
  simp [stpOf]
theorem check_other {signers : List ByteArray} {at_ other : Int} {s : Stp} (hh : headOk s = true) {P : List (Int × ByteArray)} (h : GoodP P) (hne : P ≠ []) (ha : 0 ≤ at_ ∧ at_ < 200) (ho : 0 ≤ other ∧ other < 200) (hr : RowsBy sl signers (bodyB at_.toNat s) P) :
    checkF sl signers 0 other (stpOf s P) = 13 ∨ (sl (signers.getD ((stpOf s P).who.getD 0 0).toNat noB) (bodyB at_.toNat s) = sl (signers.getD ((stpOf s P).who.getD 0 0).toNat noB) (bodyB other.toNat s)) := by
  unfold checkF
  have hb : bodyF other (stpOf s P) = (bodyB other.toNat s, 0) := by unfold bodyF; rw [if_neg (by omega)]; rfl
  rw [if_neg (fun k => k (goodS_of hh h)), hb, if_neg (fun k => k rfl)]
  rcases firstE_13 (rowC_13 sl signers (bodyB other.toNat s) (stpOf s P)) (stpOf s P).who.length 0 with e | e
  · left; rw [if_pos (by rw [e]; decide), e]
  · right
    have hl : 0 < P.length := List.length_pos_iff.2 hne
    have h0 := firstE_zero e 0 (Nat.le_refl _) (by simpa [stpOf] using hl)
    have e1 : (stpOf s P).who.getD 0 0 = P[0].1 := getD_map _ _ _ _ hl
    have e2 : (stpOf s P).seals.getD 0 noB = P[0].2 := getD_map _ _ _ _ hl
    unfold rowC at h0
    by_cases c : (signers.length : Int) ≤ (stpOf s P).who.getD 0 0 ∨ sl (signers.getD ((stpOf s P).who.getD 0 0).toNat noB) (bodyB other.toNat s) ≠ (stpOf s P).seals.getD 0 noB
    · rw [if_pos c] at h0; exact absurd h0 (by decide)
    · have c2 : sl (signers.getD ((stpOf s P).who.getD 0 0).toNat noB) (bodyB other.toNat s) = (stpOf s P).seals.getD 0 noB := Classical.not_not.1 (fun k => c (.inr k))
      rw [c2, e2, (hr P[0] (List.getElem_mem hl)).2, e1]
end
end Go.Proofs.YtinhjnbgblieeaaDoor
/-! Stp -/
namespace Go.Proofs.YtinhjnbgblieeaaDoor
open Go.RowKit
set_option linter.unusedVariables false
set_option linter.unusedSimpArgs false

theorem info_int : infoIs Tryd.prog 3 (.int .i64 0) 1 8 := by unfold infoIs; kernel_rfl
theorem size_int : (Tryd.prog.info? 3).map (·.size) = some 1 := by kernel_rfl
def ivs (zs : List Int) : List Value := zs.map (.int .i64)
theorem ivs_take (zs : List Int) (k : Nat) : (ivs zs).take (k * 1) = ivs (zs.take k) := by simp [ivs, List.map_take]
theorem ivs_drop (zs : List Int) (k : Nat) : (ivs zs).drop (k * 1) = ivs (zs.drop k) := by simp [ivs, List.map_drop]
theorem ivs_append (a b : List Int) : ivs (a ++ b) = ivs a ++ ivs b := by simp [ivs]
theorem ivs_one (zs : List Int) : ∀ y ∈ ivs zs, y.oneCell' = true := by
  intro y hy
  obtain ⟨x, _, rfl⟩ := List.mem_map.1 hy
  rfl
theorem ivs_length (zs : List Int) : (ivs zs).length = zs.length := by simp [ivs]
def rdI (w : World) (v : Value) (zs : List Int) : Prop := rdRow w 1 v zs.length (ivs zs)
theorem rdI.below {w w' : World} {v : Value} {zs : List Int} (h : rdI w v zs) (hb : Below w.heap.size w w') : rdI w' v zs := rdRow.below h hb
theorem rdI_nil (w : World) : rdI w (.slice none 0 0) [] := ⟨rfl, none, 0, rfl, Nat.le_refl _, by decide, fun _ => rfl, fun _ h => by cases h⟩
theorem rdS_nil0 (w : World) : rdS w (.slice none 0 0) [] := ⟨rfl, none, 0, rfl, Nat.le_refl _, by decide, fun _ => rfl, fun _ h => by cases h⟩
theorem rdI_owns {w : World} {B : Nat} {v : Value} {zs : List Int} (h : w.ownsRow B 3 1 v zs.length (ivs zs)) : rdI w v zs := rdRow_of_owns h
theorem rdI_len {w : World} {v : Value} {zs : List Int} (hr : rdI w v zs) : zs.length ≤ 9223372036854775807 := by
  obtain ⟨_, ao, cap, rfl, h1, h2, _⟩ := hr
  unfold maxLen at h2; omega
theorem rdI_at {w : World} {ao : Option Addr} {cap : Nat} {zs : List Int} (hr : rdI w (.slice ao zs.length cap) zs) (h : 0 < zs.length) :
    ∃ b off, ao = some ⟨b, off, none⟩ ∧ b < w.heap.size ∧ ∀ j, j < zs.length → w.cell? ⟨b, off + j, none⟩ = some (.int .i64 (zs.getD j 0)) := by
  have hg : ∀ j, j < zs.length → (ivs zs)[j]? = some (.int .i64 (zs.getD j 0)) := fun j hj => by
    rw [ivs, List.getElem?_map, List.getD, List.getElem?_eq_getElem hj]; rfl
  obtain ⟨b, off, cap', hv, _, hb⟩ := rd_cell hr 0 _ (hg 0 h)
  injection hv with h1 h2 h3
  subst h1
  refine ⟨b, off, rfl, hb, fun j hj => ?_⟩
  obtain ⟨b', off', cap2, hv2, hc, _⟩ := rd_cell hr j _ (hg j hj)
  simp only [Value.slice.injEq, Option.some.injEq, Addr.mk.injEq, and_true, true_and] at hv2
  obtain ⟨⟨rfl, rfl⟩, _⟩ := hv2
  exact hc
theorem rdS_at' {w : World} {ao : Option Addr} {cap : Nat} {ss : List ByteArray} (hr : rdS w (.slice ao ss.length cap) ss) (h : 0 < ss.length) :
    ∃ b off, ao = some ⟨b, off, none⟩ ∧ b < w.heap.size ∧ ∀ j, j < ss.length → w.cell? ⟨b, off + j, none⟩ = some (.string (ss.getD j noB)) := by
  obtain ⟨b, off, cap', hv, hb, hc⟩ := rdS_all hr h
  injection hv with h1 h2 h3
  exact ⟨b, off, h1, hb, hc⟩
/-- A step as a value. -/
def stpC (s : Stp) (vw vs : Value) : List Value := [.string s.ref, .string s.old, .string s.new, vw, vs]
theorem stp_cells {w : World} {n : Nat} {a b c d e : Value} (h : w.heap[n]? = some (.cells #[a, b, c, d, e] 25 (0, 0))) :
    w.cell? ⟨n, 0, none⟩ = some a ∧ w.cell? ⟨n, 1, none⟩ = some b ∧ w.cell? ⟨n, 2, none⟩ = some c ∧ w.cell? ⟨n, 3, none⟩ = some d ∧ w.cell? ⟨n, 4, none⟩ = some e ∧ w.frozen? ⟨n, 3, none⟩ = false ∧ w.frozen? ⟨n, 4, none⟩ = false := by
  refine ⟨?_, ?_, ?_, ?_, ?_, ?_, ?_⟩ <;> simp [World.cell?, World.frozen?, h]
section
variable {P : Program} {w w0 : World} {B : Nat}
/-- 'append(s, x...)' inside a region: s of the call's own, x a slice that can be read. -/
theorem wp_append_rd {o : Oper} {a : Act} {K : Act → World → Prop} {Q : Exit → Act → World → Prop} (s x : Operand) (t : TypeId)
    (ho : o.op = .call { callee := .builtin .append, args := #[s, x], argTypes := #[t, t] })
    {base : Nat} {e : TypeId} {z : Value} {bytes size : Nat} (hinf : infoIs P e z size bytes) (ht : P.underlying t = some (.slice e)) (hzs : z.cells.size = size) (hsz : 0 < size) (hby : 0 < bytes)
    {v : Value} {n m : Nat} {xs ys : List Value} {u : Value} (hown : w.ownsRow base e size v n xs) (hbel : Below B w0 w) (hB : B ≤ base) (hb : base ≤ w.heap.size)
    (hr : rdRow w size u m ys) (h1 : ∀ y ∈ ys, y.oneCell' = true) (hbytes : (n + m) * bytes ≤ 140737488355328)
    (hs : a.eval s = v) (hx : a.eval x = u)
    (h : ∀ v' w', w'.ownsRow base e size v' (n + m) (xs ++ ys) → Below B w0 w' → K (a.put o.dst v') w') : o.wp P a w K Q := by
  obtain ⟨i, hi, hz, hsize, hbt⟩ := info_parts hinf
  have hle : n + m ≤ (n + m) * bytes := Nat.le_mul_of_pos_right _ hby
  obtain ⟨hl, ao, cap, rfl, hle2, hm, hz0, hc⟩ := hr
  cases ao with
  | none =>
    have hcap := hz0 rfl
    have hm0 : m = 0 := by omega
    subst hcap hm0
    have hy : ys = [] := List.eq_nil_of_length_eq_zero (by rw [hl, Nat.zero_mul])
    subst hy
    have hrun := run_append_owned_none (P := P) w base t o.type e i size ht hi v n xs hown
    unfold Oper.wp execOp
    simp only [ho, resolve, invoke, builtin, Sem.run_bind, Sem.run_pure, Result.andThen_ok, List.map_toArray, List.map_cons, List.map_nil, hs, hx, hrun]
    exact h v w (by simpa using hown) hbel
  | some ad =>
    refine wp_append_own _ s x t ho base e i z size bytes ht hi hz hsize hbt hzs hsz v n xs hs hown ad m cap ys hx hl (hc ad rfl) h1 (by unfold maxLen; omega) hbytes hb ?_
    intro v' w' hown' hgrow _
    refine h v' w' hown' (hbel.grown hgrow (by have := hbel.size; omega) ?_)
    intro k hk
    have := (hown.lt k hk).1; omega
end
theorem rdI_one {w : World} {n : Nat} {x : Int} (h : w.heap[n]? = some (.cells #[.int .i64 x] 3 (0, 0))) : rdRow w 1 (.slice (some ⟨n, 0, none⟩) 1 1) 1 [.int .i64 x] := by
  refine ⟨rfl, some ⟨n, 0, none⟩, 1, rfl, Nat.le_refl _, by decide, (fun h => by cases h), fun b hb j u hu => ?_⟩
  obtain rfl := Option.some.inj hb
  have hj : j = 0 := by have := (List.getElem?_eq_some_iff.1 hu).1; simpa using this
  subst hj
  have : u = .int .i64 x := by simpa using hu.symm
  subst this
  simp [World.cell?, Addr.add, h]
theorem rdS_one {w : World} {n : Nat} {x : ByteArray} (h : w.heap[n]? = some (.cells #[.string x] 9 (0, 0))) : rdRow w 1 (.slice (some ⟨n, 0, none⟩) 1 1) 1 [.string x] := by
  refine ⟨rfl, some ⟨n, 0, none⟩, 1, rfl, Nat.le_refl _, by decide, (fun h => by cases h), fun b hb j u hu => ?_⟩
  obtain rfl := Option.some.inj hb
  have hj : j = 0 := by have := (List.getElem?_eq_some_iff.1 hu).1; simpa using this
  subst hj
  have : u = .string x := by simpa using hu.symm
  subst this
  simp [World.cell?, Addr.add, h]
end Go.Proofs.YtinhjnbgblieeaaDoor
/-! Step1 -/
namespace Go.Proofs.YtinhjnbgblieeaaDoor
open Go.RowKit
set_option linter.unusedVariables false
set_option linter.unusedSimpArgs false

theorem goodS_1 {s : Stp} (h : headOk s = false) : goodS s = 2 := by unfold goodS; rw [if_pos h]
theorem goodS_2 {s : Stp} (h : headOk s = true) (h2 : 8 < s.who.length ∨ s.who.length ≠ s.seals.length) : goodS s = 6 := by unfold goodS; rw [if_neg (by rw [h]; decide), if_pos h2]
theorem goodS_3 {s : Stp} (h : headOk s = true) (h2 : ¬ (8 < s.who.length ∨ s.who.length ≠ s.seals.length)) : goodS s = firstE (rowS s) 0 s.who.length := by unfold goodS; rw [if_neg (by rw [h]; decide), if_neg h2]
theorem rowS_z {s : Stp} {k : Nat} (h : ¬ (s.who.getD k 0 < 0 ∨ 8 ≤ s.who.getD k 0 ∨ (0 < k ∧ s.who.getD k 0 ≤ s.who.getD (k - 1) 0))) (h2 : (s.seals.getD k noB).size = 32) : rowS s k = 0 := by
  unfold rowS; rw [if_neg h, if_neg (fun e => e h2)]
theorem rowS_t {s : Stp} {k : Nat} (h : ¬ (s.who.getD k 0 < 0 ∨ 8 ≤ s.who.getD k 0 ∨ (0 < k ∧ s.who.getD k 0 ≤ s.who.getD (k - 1) 0))) (h2 : (s.seals.getD k noB).size ≠ 32) : rowS s k = 2 := by
  unfold rowS; rw [if_neg h, if_pos h2]
set_option maxRecDepth 100000 in
set_option maxHeartbeats 3200000 in
theorem goodStp_any (s : Stp) (vw vs : Value) (w : World) (hw : rdI w vw s.who) (hs : rdS w vs s.seals) :
    Calls Tryd.prog 14 #[.agg #[.string s.ref, .string s.old, .string s.new, vw, vs]] w fun e w' => e = .returned (.int .i64 (goodS s)) ∧ Below w.heap.size w w' := by
  obtain ⟨F, hF⟩ : ∃ F, F = goodS s := ⟨_, rfl⟩
  rw [← hF]
  have HF := Lib.hid hF
  have HW := Lib.hid hw
  have HS := Lib.hid hs
  obtain ⟨ae, ce, rfl⟩ := rd_form hw
  obtain ⟨af, cf, rfl⟩ := rd_form hs
  clear hF hw hs
  obtain ⟨W, hW⟩ : ∃ W, w.alloc (.cells #[.string s.ref, .string s.old, .string s.new, .slice ae s.who.length ce, .slice af s.seals.length cf] 25) = W := ⟨_, rfl⟩
  have hg0 : W.heap[w.heap.size]? = some (.cells #[.string s.ref, .string s.old, .string s.new, .slice ae s.who.length ce, .slice af s.seals.length cf] 25 (0, 0)) := by rw [← hW]; exact heap_alloc_new _ _
  obtain ⟨c0, c1, c2, c3, c4, _, _⟩ := stp_cells hg0
  have HG := Lib.hid hg0
  have HBA := Lib.hid (show Below w.heap.size w W by rw [← hW]; exact (Below.refl _ _).alloc (Nat.le_refl _) _)
  clear hg0
  have HNM := Lib.hid (namedR_any s.ref W)
  obtain ⟨nm, hnm⟩ : ∃ nm, nm = namedR s.ref := ⟨_, rfl⟩
  rw [← hnm] at HNM
  have HNMD := Lib.hid hnm.symm
  clear hnm
  cases nm with
  | false =>
    have hF := HF.out.trans (goodS_1 (by rw [headOk, HNMD.out]; rfl))
    subst hF
    go_enter Tryd.func14, Tryd.ntmps14
    go_wp2_with fail
    (with_reducible refine HNM.out.mono ?_)
    rintro e w1 ⟨rfl, hb⟩
    have HB1 := Lib.hid hb
    have g1 := blk_below (HG.out) hb
    clear hb
    obtain ⟨c0, c1, c2, c3, c4, _, _⟩ := stp_cells g1
    go_wp2_with fail
    go_ret
    exact ⟨rfl, HBA.out.trans (HB1.out.mono HBA.out.size)⟩
  | true =>
    by_cases hoe : s.old.size = 0
    · have ho := Lib.hid hoe
      have oe0 : ((s.old.size : Int) == 0) = true := by rw [hoe]; rfl
      have on0 : ((s.old.size : Int) != 0) = false := by rw [bne, oe0]; rfl
      have oe32 : ((s.old.size : Int) == 32) = false := beq_eq_false_iff_ne.2 (by omega)
      have on32 : ((s.old.size : Int) != 32) = true := by rw [bne, oe32]; rfl
      clear hoe
      by_cases hne : s.new.size = 0
      · have hn := Lib.hid hne
        have ne0 : ((s.new.size : Int) == 0) = true := by rw [hne]; rfl
        have nn0 : ((s.new.size : Int) != 0) = false := by rw [bne, ne0]; rfl
        have ne32 : ((s.new.size : Int) == 32) = false := beq_eq_false_iff_ne.2 (by omega)
        have nn32 : ((s.new.size : Int) != 32) = true := by rw [bne, ne32]; rfl
        clear hne
        by_cases hon : s.old = s.new
        · have HH := Lib.hid (show headOk s = false by rw [headOk, hon]; simp)
          have hF := HF.out.trans (goodS_1 HH.out)
          subst hF
          have hob : (s.old.toList == s.new.toList) = true := by rw [hon]; exact beq_self_eq_true _
          clear hon
          go_enter Tryd.func14, Tryd.ntmps14
          go_wp2_with fail
          (with_reducible refine HNM.out.mono ?_)
          rintro e w1 ⟨rfl, hb⟩
          have HB1 := Lib.hid hb
          have g1 := blk_below (HG.out) hb
          clear hb
          obtain ⟨c0, c1, c2, c3, c4, _, _⟩ := stp_cells g1
          go_wp2_with fail
          go_ret
          exact ⟨rfl, HBA.out.trans (HB1.out.mono HBA.out.size)⟩
        · have HH := Lib.hid (show headOk s = true by rw [headOk, HNMD.out, idOk, idOk, ho.out, hn.out, decide_eq_true hon]; rfl)
          have hob : (s.old.toList == s.new.toList) = false := beq_eq_false_iff_ne.2 (fun e => hon (toList_inj e))
          clear hon
          by_cases hl : 8 < s.who.length ∨ s.who.length ≠ s.seals.length
          · have hF := HF.out.trans (goodS_2 HH.out hl)
            subst hF
            by_cases h8 : 8 < s.who.length
            · have l1 : decide ((8 : Int) < (s.who.length : Int)) = true := decide_eq_true (by omega)
              go_enter Tryd.func14, Tryd.ntmps14
              go_wp2_with fail
              (with_reducible refine HNM.out.mono ?_)
              rintro e w1 ⟨rfl, hb⟩
              have HB1 := Lib.hid hb
              have g1 := blk_below (HG.out) hb
              clear hb
              obtain ⟨c0, c1, c2, c3, c4, _, _⟩ := stp_cells g1
              go_wp2_with fail
              go_ret
              exact ⟨rfl, HBA.out.trans (HB1.out.mono HBA.out.size)⟩
            · have l1 : decide ((8 : Int) < (s.who.length : Int)) = false := decide_eq_false (by omega)
              have l2 : ((s.who.length : Int) == (s.seals.length : Int)) = false := beq_eq_false_iff_ne.2 (by omega)
              have l3 : ((s.who.length : Int) != (s.seals.length : Int)) = true := by rw [bne, l2]; rfl
              go_enter Tryd.func14, Tryd.ntmps14
              go_wp2_with fail
              (with_reducible refine HNM.out.mono ?_)
              rintro e w1 ⟨rfl, hb⟩
              have HB1 := Lib.hid hb
              have g1 := blk_below (HG.out) hb
              clear hb
              obtain ⟨c0, c1, c2, c3, c4, _, _⟩ := stp_cells g1
              go_wp2_with fail
              go_ret
              exact ⟨rfl, HBA.out.trans (HB1.out.mono HBA.out.size)⟩
          · have hle : s.who.length = s.seals.length := by omega
            have l1 : decide ((8 : Int) < (s.who.length : Int)) = false := decide_eq_false (by omega)
            have l2 : ((s.who.length : Int) == (s.seals.length : Int)) = true := beq_iff_eq.2 (by omega)
            have l3 : ((s.who.length : Int) != (s.seals.length : Int)) = false := by rw [bne, l2]; rfl
            have HFE := Lib.hid (HF.out.trans (goodS_3 HH.out hl))
            have H8 := Lib.hid (show s.who.length ≤ 8 by omega)
            have HLE := Lib.hid hle
            clear hl hle
            go_enter Tryd.func14, Tryd.ntmps14
            go_wp2_with fail
            (with_reducible refine HNM.out.mono ?_)
            rintro e w1 ⟨rfl, hb⟩
            have HB1 := Lib.hid hb
            have g1 := blk_below (HG.out) hb
            clear hb
            obtain ⟨c0, c1, c2, c3, c4, _, _⟩ := stp_cells g1
            go_wp2_with fail
            have HBW := Lib.hid (HBA.out.trans (HB1.out.mono HBA.out.size))
            have hb0 := Lib.hid (Below.refl w1.heap.size w1)
            have HGG := Lib.hid (fun wr (h : Below w1.heap.size w1 wr) => blk_below g1 h)
            clear c0 c1 c2 c3 c4 g1
            go_loopw [2, 56] (fun r i wr => ∃ k : Nat, k ≤ s.who.length ∧ r = .int .i64 0 ∧ i = .int .i64 (k : Int) ∧ Hid (∀ j, j < k → rowS s j = 0) ∧ Hid (Below w1.heap.size w1 wr)) (fun _ i _ => s.who.length - (intOf i).toNat)
            case atStart => exact ⟨0, Nat.zero_le _, rfl, rfl, Lib.hid fun j hj => absurd hj (Nat.not_lt_zero _), hb0⟩
            case round =>
              obtain ⟨k, hk, rfl, rfl, HALL, HR1⟩ := hrel
              have HB := Lib.hid (HBW.out.trans (HR1.out.mono HBW.out.size))
              obtain ⟨c0, c1, c2, c3, c4, _, _⟩ := stp_cells (HGG.out _ HR1.out)
              by_cases hlt : k < s.who.length
              · have hki : (k : Int) < (s.who.length : Int) := by omega
                have hkb : decide ((k : Int) < (s.who.length : Int)) = true := decide_eq_true hki
                have hk0 : (0 : Int) ≤ (k : Int) := by omega
                obtain ⟨bw, ow, hae, hblt, hcw⟩ := rdI_at HW.out (by omega)
                obtain ⟨bs, os, hae2, hblt2, hcs⟩ := rdS_at' HS.out (by have := HLE.out; omega)
                subst hae
                subst hae2
                have d0 := (HB.out.cell (p := ⟨bw, ow + k, none⟩) hblt).trans (hcw k hlt)
                have d1 := (HB.out.cell (p := ⟨bs, os + k, none⟩) hblt2).trans (hcs k (by have := HLE.out; omega))
                have hks : (k : Int) < (s.seals.length : Int) := by have := HLE.out; omega
                obtain ⟨x, hx⟩ : ∃ x, x = s.who.getD k 0 := ⟨_, rfl⟩
                obtain ⟨q, hq⟩ : ∃ q, q = s.seals.getD k noB := ⟨_, rfl⟩
                rw [← hx] at d0
                rw [← hq] at d1
                have HX := Lib.hid hx
                have HQ := Lib.hid hq
                have HLT := Lib.hid hlt
                have HCW := Lib.hid hcw
                have HBL := Lib.hid hblt
                clear hx hq hcw hcs hblt hblt2
                by_cases x0 : x < 0
                · have xb0 : decide (x < 0) = true := decide_eq_true x0
                  have HOK := Lib.hid (show rowS s k = 3 by unfold rowS; rw [← HX.out, if_pos (.inl x0)])
                  have hF := HFE.out.trans (firstE_at (by rw [HOK.out]; decide) (Nat.zero_le _) (by have := HLT.out; omega) (fun j _ hj => HALL.out j hj))
                  rw [HOK.out] at hF
                  subst hF
                  go_wp2_with fail
                  go_ret
                  exact ⟨rfl, HB.out⟩
                · have xb0 : decide (x < 0) = false := decide_eq_false x0
                  by_cases x8 : 8 ≤ x
                  · have xb8 : decide (8 ≤ x) = true := decide_eq_true x8
                    have HOK := Lib.hid (show rowS s k = 3 by unfold rowS; rw [← HX.out, if_pos (.inr (.inl x8))])
                    have hF := HFE.out.trans (firstE_at (by rw [HOK.out]; decide) (Nat.zero_le _) (by have := HLT.out; omega) (fun j _ hj => HALL.out j hj))
                    rw [HOK.out] at hF
                    subst hF
                    go_wp2_with fail
                    go_ret
                    exact ⟨rfl, HB.out⟩
                  · have xb8 : decide (8 ≤ x) = false := decide_eq_false x8
                    rcases Nat.eq_zero_or_pos k with hk00 | hk00
                    · subst hk00
                      have hz0 : decide ((0 : Int) < (0 : Int)) = false := by simp
                      have HRW := Lib.hid (show ¬ (s.who.getD 0 0 < 0 ∨ 8 ≤ s.who.getD 0 0 ∨ (0 < 0 ∧ s.who.getD 0 0 ≤ s.who.getD (0 - 1) 0)) by have e := HX.out; omega)
                      have HCN := Lib.hid (show ((0 + 1 : Nat) : Int) = 1 from rfl)
                      have HMS := Lib.hid (show (1 : Int) = ((0 + 1 : Nat) : Int) from rfl)
                      simp only [Nat.add_zero] at d0 d1
                      by_cases hq : q.size = 32
                      · have hz : ((q.size : Int) == 32) = true := by rw [hq]; rfl
                        have hz2 : ((q.size : Int) != 32) = false := by rw [bne, hz]; rfl
                        have HOK := Lib.hid (show rowS s 0 = 0 from rowS_z HRW.out (by rw [← HQ.out]; exact hq))
                        clear hq
                        go_wp2_with fail
                        go_roundw
                        case rel => exact ⟨0 + 1, by have := HLT.out; omega, rfl, by (first | rfl | rw [HCN.out] | (rw [HCN.out, hw2])), Lib.hid fun j hj => by (by_cases hjk : j = 0; rw [hjk]; exact HOK.out; exact HALL.out j (by omega)), HR1⟩
                        case measure => exact meas_step _ (by first | exact HMS.out | exact hw2.symm.trans HMS.out) HLT.out
                      · have hz : ((q.size : Int) == 32) = false := beq_eq_false_iff_ne.2 (by omega)
                        have hz2 : ((q.size : Int) != 32) = true := by rw [bne, hz]; rfl
                        have HOK := Lib.hid (show rowS s 0 = 2 from rowS_t HRW.out (by rw [← HQ.out]; exact hq))
                        clear hq
                        have hF := HFE.out.trans (firstE_at (by rw [HOK.out]; decide) (Nat.zero_le _) (by have := HLT.out; omega) (fun j _ hj => HALL.out j hj))
                        rw [HOK.out] at hF
                        subst hF
                        go_wp2_with fail
                        go_ret
                        exact ⟨rfl, HB.out⟩
                    · obtain ⟨m, rfl⟩ : ∃ m, k = m + 1 := ⟨k - 1, by omega⟩
                      obtain ⟨y, hy⟩ : ∃ y, y = s.who.getD m 0 := ⟨_, rfl⟩
                      have dp := (HB.out.cell (p := ⟨bw, ow + m, none⟩) HBL.out).trans (HCW.out m (by omega))
                      rw [← hy] at dp
                      have HY := Lib.hid hy
                      have hmi : (m : Int) < (s.who.length : Int) := by omega
                      have hm0 : (0 : Int) ≤ (m : Int) := by omega
                      have hmn : m < s.who.length := by omega
                      have hmw : IntKind.i64.wrap (m : Int) = (m : Int) := by rw [IntKind.wrap_i64]; have := H8.out; omega
                      have hpos : decide ((0 : Int) < ((m + 1 : Nat) : Int)) = true := decide_eq_true (by omega)
                      clear hy
                      by_cases hxy : x ≤ y
                      · have xyb : decide (x ≤ y) = true := decide_eq_true hxy
                        have HOK := Lib.hid (show rowS s (m + 1) = 3 by unfold rowS; rw [← HX.out, Nat.add_sub_cancel, ← HY.out, if_pos (.inr (.inr ⟨by omega, hxy⟩))])
                        have hF := HFE.out.trans (firstE_at (by rw [HOK.out]; decide) (Nat.zero_le _) (by have := HLT.out; omega) (fun j _ hj => HALL.out j hj))
                        rw [HOK.out] at hF
                        subst hF
                        go_wp2_with fail
                        go_ret
                        exact ⟨rfl, HB.out⟩
                      · have xyb : decide (x ≤ y) = false := decide_eq_false hxy
                        have HRW := Lib.hid (show ¬ (s.who.getD (m + 1) 0 < 0 ∨ 8 ≤ s.who.getD (m + 1) 0 ∨ (0 < m + 1 ∧ s.who.getD (m + 1) 0 ≤ s.who.getD (m + 1 - 1) 0)) by rw [Nat.add_sub_cancel]; have e := HX.out; have e2 := HY.out; omega)
                        have hw2 : wrap64 ((m : Int) + 1 + 1) = (m : Int) + 1 + 1 := IntWalk.wrap64_in _ (by have := H8.out; omega)
                        have HCN := Lib.hid (show ((m + 1 + 1 : Nat) : Int) = wrap64 ((m : Int) + 1 + 1) by rw [hw2]; omega)
                        have HMS := Lib.hid (show wrap64 ((m : Int) + 1 + 1) = ((m + 1 + 1 : Nat) : Int) from HCN.out.symm)
                        by_cases hq : q.size = 32
                        · have hz : ((q.size : Int) == 32) = true := by rw [hq]; rfl
                          have hz2 : ((q.size : Int) != 32) = false := by rw [bne, hz]; rfl
                          have HOK := Lib.hid (show rowS s (m + 1) = 0 from rowS_z HRW.out (by rw [← HQ.out]; exact hq))
                          clear hq
                          go_wp2_with fail
                          go_roundw
                          case rel => exact ⟨m + 1 + 1, by have := HLT.out; omega, rfl, by (first | rfl | rw [HCN.out] | (rw [HCN.out, hw2])), Lib.hid fun j hj => by (by_cases hjk : j = m + 1; rw [hjk]; exact HOK.out; exact HALL.out j (by omega)), HR1⟩
                          case measure => exact meas_step _ (by first | exact HMS.out | exact hw2.symm.trans HMS.out) HLT.out
                        · have hz : ((q.size : Int) == 32) = false := beq_eq_false_iff_ne.2 (by omega)
                          have hz2 : ((q.size : Int) != 32) = true := by rw [bne, hz]; rfl
                          have HOK := Lib.hid (show rowS s (m + 1) = 2 from rowS_t HRW.out (by rw [← HQ.out]; exact hq))
                          clear hq
                          have hF := HFE.out.trans (firstE_at (by rw [HOK.out]; decide) (Nat.zero_le _) (by have := HLT.out; omega) (fun j _ hj => HALL.out j hj))
                          rw [HOK.out] at hF
                          subst hF
                          go_wp2_with fail
                          go_ret
                          exact ⟨rfl, HB.out⟩
              · have hkn : k = s.who.length := by omega
                have hkb : decide ((k : Int) < (s.who.length : Int)) = false := decide_eq_false (by omega)
                have hF := HFE.out.trans (firstE_all (fun j _ hj => HALL.out j (by omega)))
                subst hF
                go_wp2_with fail
                go_ret
                exact ⟨rfl, HB.out⟩
      · by_cases hnf : s.new.size = 32
        · have hne := hnf
          have hn := Lib.hid hne
          have ne0 : ((s.new.size : Int) == 0) = false := beq_eq_false_iff_ne.2 (by omega)
          have nn0 : ((s.new.size : Int) != 0) = true := by rw [bne, ne0]; rfl
          have ne32 : ((s.new.size : Int) == 32) = true := by rw [hne]; rfl
          have nn32 : ((s.new.size : Int) != 32) = false := by rw [bne, ne32]; rfl
          clear hnf hne
          by_cases hon : s.old = s.new
          · have HH := Lib.hid (show headOk s = false by rw [headOk, hon]; simp)
            have hF := HF.out.trans (goodS_1 HH.out)
            subst hF
            have hob : (s.old.toList == s.new.toList) = true := by rw [hon]; exact beq_self_eq_true _
            clear hon
            go_enter Tryd.func14, Tryd.ntmps14
            go_wp2_with fail
            (with_reducible refine HNM.out.mono ?_)
            rintro e w1 ⟨rfl, hb⟩
            have HB1 := Lib.hid hb
            have g1 := blk_below (HG.out) hb
            clear hb
            obtain ⟨c0, c1, c2, c3, c4, _, _⟩ := stp_cells g1
            go_wp2_with fail
            go_ret
            exact ⟨rfl, HBA.out.trans (HB1.out.mono HBA.out.size)⟩
          · have HH := Lib.hid (show headOk s = true by rw [headOk, HNMD.out, idOk, idOk, ho.out, hn.out, decide_eq_true hon]; rfl)
            have hob : (s.old.toList == s.new.toList) = false := beq_eq_false_iff_ne.2 (fun e => hon (toList_inj e))
            clear hon
            by_cases hl : 8 < s.who.length ∨ s.who.length ≠ s.seals.length
            · have hF := HF.out.trans (goodS_2 HH.out hl)
              subst hF
              by_cases h8 : 8 < s.who.length
              · have l1 : decide ((8 : Int) < (s.who.length : Int)) = true := decide_eq_true (by omega)
                go_enter Tryd.func14, Tryd.ntmps14
                go_wp2_with fail
                (with_reducible refine HNM.out.mono ?_)
                rintro e w1 ⟨rfl, hb⟩
                have HB1 := Lib.hid hb
                have g1 := blk_below (HG.out) hb
                clear hb
                obtain ⟨c0, c1, c2, c3, c4, _, _⟩ := stp_cells g1
                go_wp2_with fail
                go_ret
                exact ⟨rfl, HBA.out.trans (HB1.out.mono HBA.out.size)⟩
              · have l1 : decide ((8 : Int) < (s.who.length : Int)) = false := decide_eq_false (by omega)
                have l2 : ((s.who.length : Int) == (s.seals.length : Int)) = false := beq_eq_false_iff_ne.2 (by omega)
                have l3 : ((s.who.length : Int) != (s.seals.length : Int)) = true := by rw [bne, l2]; rfl
                go_enter Tryd.func14, Tryd.ntmps14
                go_wp2_with fail
                (with_reducible refine HNM.out.mono ?_)
                rintro e w1 ⟨rfl, hb⟩
                have HB1 := Lib.hid hb
                have g1 := blk_below (HG.out) hb
                clear hb
                obtain ⟨c0, c1, c2, c3, c4, _, _⟩ := stp_cells g1
                go_wp2_with fail
                go_ret
                exact ⟨rfl, HBA.out.trans (HB1.out.mono HBA.out.size)⟩
            · have hle : s.who.length = s.seals.length := by omega
              have l1 : decide ((8 : Int) < (s.who.length : Int)) = false := decide_eq_false (by omega)
              have l2 : ((s.who.length : Int) == (s.seals.length : Int)) = true := beq_iff_eq.2 (by omega)
              have l3 : ((s.who.length : Int) != (s.seals.length : Int)) = false := by rw [bne, l2]; rfl
              have HFE := Lib.hid (HF.out.trans (goodS_3 HH.out hl))
              have H8 := Lib.hid (show s.who.length ≤ 8 by omega)
              have HLE := Lib.hid hle
              clear hl hle
              go_enter Tryd.func14, Tryd.ntmps14
              go_wp2_with fail
              (with_reducible refine HNM.out.mono ?_)
              rintro e w1 ⟨rfl, hb⟩
              have HB1 := Lib.hid hb
              have g1 := blk_below (HG.out) hb
              clear hb
              obtain ⟨c0, c1, c2, c3, c4, _, _⟩ := stp_cells g1
              go_wp2_with fail
              have HBW := Lib.hid (HBA.out.trans (HB1.out.mono HBA.out.size))
              have hb0 := Lib.hid (Below.refl w1.heap.size w1)
              have HGG := Lib.hid (fun wr (h : Below w1.heap.size w1 wr) => blk_below g1 h)
              clear c0 c1 c2 c3 c4 g1
              go_loopw [2, 56] (fun r i wr => ∃ k : Nat, k ≤ s.who.length ∧ r = .int .i64 0 ∧ i = .int .i64 (k : Int) ∧ Hid (∀ j, j < k → rowS s j = 0) ∧ Hid (Below w1.heap.size w1 wr)) (fun _ i _ => s.who.length - (intOf i).toNat)
              case atStart => exact ⟨0, Nat.zero_le _, rfl, rfl, Lib.hid fun j hj => absurd hj (Nat.not_lt_zero _), hb0⟩
              case round =>
                obtain ⟨k, hk, rfl, rfl, HALL, HR1⟩ := hrel
                have HB := Lib.hid (HBW.out.trans (HR1.out.mono HBW.out.size))
                obtain ⟨c0, c1, c2, c3, c4, _, _⟩ := stp_cells (HGG.out _ HR1.out)
                by_cases hlt : k < s.who.length
                · have hki : (k : Int) < (s.who.length : Int) := by omega
                  have hkb : decide ((k : Int) < (s.who.length : Int)) = true := decide_eq_true hki
                  have hk0 : (0 : Int) ≤ (k : Int) := by omega
                  obtain ⟨bw, ow, hae, hblt, hcw⟩ := rdI_at HW.out (by omega)
                  obtain ⟨bs, os, hae2, hblt2, hcs⟩ := rdS_at' HS.out (by have := HLE.out; omega)
                  subst hae
                  subst hae2
                  have d0 := (HB.out.cell (p := ⟨bw, ow + k, none⟩) hblt).trans (hcw k hlt)
                  have d1 := (HB.out.cell (p := ⟨bs, os + k, none⟩) hblt2).trans (hcs k (by have := HLE.out; omega))
                  have hks : (k : Int) < (s.seals.length : Int) := by have := HLE.out; omega
                  obtain ⟨x, hx⟩ : ∃ x, x = s.who.getD k 0 := ⟨_, rfl⟩
                  obtain ⟨q, hq⟩ : ∃ q, q = s.seals.getD k noB := ⟨_, rfl⟩
                  rw [← hx] at d0
                  rw [← hq] at d1
                  have HX := Lib.hid hx
                  have HQ := Lib.hid hq
                  have HLT := Lib.hid hlt
                  have HCW := Lib.hid hcw
                  have HBL := Lib.hid hblt
                  clear hx hq hcw hcs hblt hblt2
                  by_cases x0 : x < 0
                  · have xb0 : decide (x < 0) = true := decide_eq_true x0
                    have HOK := Lib.hid (show rowS s k = 3 by unfold rowS; rw [← HX.out, if_pos (.inl x0)])
                    have hF := HFE.out.trans (firstE_at (by rw [HOK.out]; decide) (Nat.zero_le _) (by have := HLT.out; omega) (fun j _ hj => HALL.out j hj))
                    rw [HOK.out] at hF
                    subst hF
                    go_wp2_with fail
                    go_ret
                    exact ⟨rfl, HB.out⟩
                  · have xb0 : decide (x < 0) = false := decide_eq_false x0
                    by_cases x8 : 8 ≤ x
                    · have xb8 : decide (8 ≤ x) = true := decide_eq_true x8
                      have HOK := Lib.hid (show rowS s k = 3 by unfold rowS; rw [← HX.out, if_pos (.inr (.inl x8))])
                      have hF := HFE.out.trans (firstE_at (by rw [HOK.out]; decide) (Nat.zero_le _) (by have := HLT.out; omega) (fun j _ hj => HALL.out j hj))
                      rw [HOK.out] at hF
                      subst hF
                      go_wp2_with fail
                      go_ret
                      exact ⟨rfl, HB.out⟩
                    · have xb8 : decide (8 ≤ x) = false := decide_eq_false x8
                      rcases Nat.eq_zero_or_pos k with hk00 | hk00
                      · subst hk00
                        have hz0 : decide ((0 : Int) < (0 : Int)) = false := by simp
                        have HRW := Lib.hid (show ¬ (s.who.getD 0 0 < 0 ∨ 8 ≤ s.who.getD 0 0 ∨ (0 < 0 ∧ s.who.getD 0 0 ≤ s.who.getD (0 - 1) 0)) by have e := HX.out; omega)
                        have HCN := Lib.hid (show ((0 + 1 : Nat) : Int) = 1 from rfl)
                        have HMS := Lib.hid (show (1 : Int) = ((0 + 1 : Nat) : Int) from rfl)
                        simp only [Nat.add_zero] at d0 d1
                        by_cases hq : q.size = 32
                        · have hz : ((q.size : Int) == 32) = true := by rw [hq]; rfl
                          have hz2 : ((q.size : Int) != 32) = false := by rw [bne, hz]; rfl
                          have HOK := Lib.hid (show rowS s 0 = 0 from rowS_z HRW.out (by rw [← HQ.out]; exact hq))
                          clear hq
                          go_wp2_with fail
                          go_roundw
                          case rel => exact ⟨0 + 1, by have := HLT.out; omega, rfl, by (first | rfl | rw [HCN.out] | (rw [HCN.out, hw2])), Lib.hid fun j hj => by (by_cases hjk : j = 0; rw [hjk]; exact HOK.out; exact HALL.out j (by omega)), HR1⟩
                          case measure => exact meas_step _ (by first | exact HMS.out | exact hw2.symm.trans HMS.out) HLT.out
                        · have hz : ((q.size : Int) == 32) = false := beq_eq_false_iff_ne.2 (by omega)
                          have hz2 : ((q.size : Int) != 32) = true := by rw [bne, hz]; rfl
                          have HOK := Lib.hid (show rowS s 0 = 2 from rowS_t HRW.out (by rw [← HQ.out]; exact hq))
                          clear hq
                          have hF := HFE.out.trans (firstE_at (by rw [HOK.out]; decide) (Nat.zero_le _) (by have := HLT.out; omega) (fun j _ hj => HALL.out j hj))
                          rw [HOK.out] at hF
                          subst hF
                          go_wp2_with fail
                          go_ret
                          exact ⟨rfl, HB.out⟩
                      · obtain ⟨m, rfl⟩ : ∃ m, k = m + 1 := ⟨k - 1, by omega⟩
                        obtain ⟨y, hy⟩ : ∃ y, y = s.who.getD m 0 := ⟨_, rfl⟩
                        have dp := (HB.out.cell (p := ⟨bw, ow + m, none⟩) HBL.out).trans (HCW.out m (by omega))
                        rw [← hy] at dp
                        have HY := Lib.hid hy
                        have hmi : (m : Int) < (s.who.length : Int) := by omega
                        have hm0 : (0 : Int) ≤ (m : Int) := by omega
                        have hmn : m < s.who.length := by omega
                        have hmw : IntKind.i64.wrap (m : Int) = (m : Int) := by rw [IntKind.wrap_i64]; have := H8.out; omega
                        have hpos : decide ((0 : Int) < ((m + 1 : Nat) : Int)) = true := decide_eq_true (by omega)
                        clear hy
                        by_cases hxy : x ≤ y
                        · have xyb : decide (x ≤ y) = true := decide_eq_true hxy
                          have HOK := Lib.hid (show rowS s (m + 1) = 3 by unfold rowS; rw [← HX.out, Nat.add_sub_cancel, ← HY.out, if_pos (.inr (.inr ⟨by omega, hxy⟩))])
                          have hF := HFE.out.trans (firstE_at (by rw [HOK.out]; decide) (Nat.zero_le _) (by have := HLT.out; omega) (fun j _ hj => HALL.out j hj))
                          rw [HOK.out] at hF
                          subst hF
                          go_wp2_with fail
                          go_ret
                          exact ⟨rfl, HB.out⟩
                        · have xyb : decide (x ≤ y) = false := decide_eq_false hxy
                          have HRW := Lib.hid (show ¬ (s.who.getD (m + 1) 0 < 0 ∨ 8 ≤ s.who.getD (m + 1) 0 ∨ (0 < m + 1 ∧ s.who.getD (m + 1) 0 ≤ s.who.getD (m + 1 - 1) 0)) by rw [Nat.add_sub_cancel]; have e := HX.out; have e2 := HY.out; omega)
                          have hw2 : wrap64 ((m : Int) + 1 + 1) = (m : Int) + 1 + 1 := IntWalk.wrap64_in _ (by have := H8.out; omega)
                          have HCN := Lib.hid (show ((m + 1 + 1 : Nat) : Int) = wrap64 ((m : Int) + 1 + 1) by rw [hw2]; omega)
                          have HMS := Lib.hid (show wrap64 ((m : Int) + 1 + 1) = ((m + 1 + 1 : Nat) : Int) from HCN.out.symm)
                          by_cases hq : q.size = 32
                          · have hz : ((q.size : Int) == 32) = true := by rw [hq]; rfl
                            have hz2 : ((q.size : Int) != 32) = false := by rw [bne, hz]; rfl
                            have HOK := Lib.hid (show rowS s (m + 1) = 0 from rowS_z HRW.out (by rw [← HQ.out]; exact hq))
                            clear hq
                            go_wp2_with fail
                            go_roundw
                            case rel => exact ⟨m + 1 + 1, by have := HLT.out; omega, rfl, by (first | rfl | rw [HCN.out] | (rw [HCN.out, hw2])), Lib.hid fun j hj => by (by_cases hjk : j = m + 1; rw [hjk]; exact HOK.out; exact HALL.out j (by omega)), HR1⟩
                            case measure => exact meas_step _ (by first | exact HMS.out | exact hw2.symm.trans HMS.out) HLT.out
                          · have hz : ((q.size : Int) == 32) = false := beq_eq_false_iff_ne.2 (by omega)
                            have hz2 : ((q.size : Int) != 32) = true := by rw [bne, hz]; rfl
                            have HOK := Lib.hid (show rowS s (m + 1) = 2 from rowS_t HRW.out (by rw [← HQ.out]; exact hq))
                            clear hq
                            have hF := HFE.out.trans (firstE_at (by rw [HOK.out]; decide) (Nat.zero_le _) (by have := HLT.out; omega) (fun j _ hj => HALL.out j hj))
                            rw [HOK.out] at hF
                            subst hF
                            go_wp2_with fail
                            go_ret
                            exact ⟨rfl, HB.out⟩
                · have hkn : k = s.who.length := by omega
                  have hkb : decide ((k : Int) < (s.who.length : Int)) = false := decide_eq_false (by omega)
                  have hF := HFE.out.trans (firstE_all (fun j _ hj => HALL.out j (by omega)))
                  subst hF
                  go_wp2_with fail
                  go_ret
                  exact ⟨rfl, HB.out⟩
        · have HH := Lib.hid (show headOk s = false by rw [headOk, idOk, idOk, decide_eq_false hne, decide_eq_false hnf]; simp)
          have hF := HF.out.trans (goodS_1 HH.out)
          subst hF
          have ne0 : ((s.new.size : Int) == 0) = false := beq_eq_false_iff_ne.2 (by omega)
          have nn0 : ((s.new.size : Int) != 0) = true := by rw [bne, ne0]; rfl
          have ne32 : ((s.new.size : Int) == 32) = false := beq_eq_false_iff_ne.2 (by omega)
          have nn32 : ((s.new.size : Int) != 32) = true := by rw [bne, ne32]; rfl
          clear hne hnf
          go_enter Tryd.func14, Tryd.ntmps14
          go_wp2_with fail
          (with_reducible refine HNM.out.mono ?_)
          rintro e w1 ⟨rfl, hb⟩
          have HB1 := Lib.hid hb
          have g1 := blk_below (HG.out) hb
          clear hb
          obtain ⟨c0, c1, c2, c3, c4, _, _⟩ := stp_cells g1
          go_wp2_with fail
          go_ret
          exact ⟨rfl, HBA.out.trans (HB1.out.mono HBA.out.size)⟩
    · by_cases hof : s.old.size = 32
      · have hoe := hof
        have ho := Lib.hid hoe
        have oe0 : ((s.old.size : Int) == 0) = false := beq_eq_false_iff_ne.2 (by omega)
        have on0 : ((s.old.size : Int) != 0) = true := by rw [bne, oe0]; rfl
        have oe32 : ((s.old.size : Int) == 32) = true := by rw [hoe]; rfl
        have on32 : ((s.old.size : Int) != 32) = false := by rw [bne, oe32]; rfl
        clear hof hoe
        by_cases hne : s.new.size = 0
        · have hn := Lib.hid hne
          have ne0 : ((s.new.size : Int) == 0) = true := by rw [hne]; rfl
          have nn0 : ((s.new.size : Int) != 0) = false := by rw [bne, ne0]; rfl
          have ne32 : ((s.new.size : Int) == 32) = false := beq_eq_false_iff_ne.2 (by omega)
          have nn32 : ((s.new.size : Int) != 32) = true := by rw [bne, ne32]; rfl
          clear hne
          by_cases hon : s.old = s.new
          · have HH := Lib.hid (show headOk s = false by rw [headOk, hon]; simp)
            have hF := HF.out.trans (goodS_1 HH.out)
            subst hF
            have hob : (s.old.toList == s.new.toList) = true := by rw [hon]; exact beq_self_eq_true _
            clear hon
            go_enter Tryd.func14, Tryd.ntmps14
            go_wp2_with fail
            (with_reducible refine HNM.out.mono ?_)
            rintro e w1 ⟨rfl, hb⟩
            have HB1 := Lib.hid hb
            have g1 := blk_below (HG.out) hb
            clear hb
            obtain ⟨c0, c1, c2, c3, c4, _, _⟩ := stp_cells g1
            go_wp2_with fail
            go_ret
            exact ⟨rfl, HBA.out.trans (HB1.out.mono HBA.out.size)⟩
          · have HH := Lib.hid (show headOk s = true by rw [headOk, HNMD.out, idOk, idOk, ho.out, hn.out, decide_eq_true hon]; rfl)
            have hob : (s.old.toList == s.new.toList) = false := beq_eq_false_iff_ne.2 (fun e => hon (toList_inj e))
            clear hon
            by_cases hl : 8 < s.who.length ∨ s.who.length ≠ s.seals.length
            · have hF := HF.out.trans (goodS_2 HH.out hl)
              subst hF
              by_cases h8 : 8 < s.who.length
              · have l1 : decide ((8 : Int) < (s.who.length : Int)) = true := decide_eq_true (by omega)
                go_enter Tryd.func14, Tryd.ntmps14
                go_wp2_with fail
                (with_reducible refine HNM.out.mono ?_)
                rintro e w1 ⟨rfl, hb⟩
                have HB1 := Lib.hid hb
                have g1 := blk_below (HG.out) hb
                clear hb
                obtain ⟨c0, c1, c2, c3, c4, _, _⟩ := stp_cells g1
                go_wp2_with fail
                go_ret
                exact ⟨rfl, HBA.out.trans (HB1.out.mono HBA.out.size)⟩
              · have l1 : decide ((8 : Int) < (s.who.length : Int)) = false := decide_eq_false (by omega)
                have l2 : ((s.who.length : Int) == (s.seals.length : Int)) = false := beq_eq_false_iff_ne.2 (by omega)
                have l3 : ((s.who.length : Int) != (s.seals.length : Int)) = true := by rw [bne, l2]; rfl
                go_enter Tryd.func14, Tryd.ntmps14
                go_wp2_with fail
                (with_reducible refine HNM.out.mono ?_)
                rintro e w1 ⟨rfl, hb⟩
                have HB1 := Lib.hid hb
                have g1 := blk_below (HG.out) hb
                clear hb
                obtain ⟨c0, c1, c2, c3, c4, _, _⟩ := stp_cells g1
                go_wp2_with fail
                go_ret
                exact ⟨rfl, HBA.out.trans (HB1.out.mono HBA.out.size)⟩
            · have hle : s.who.length = s.seals.length := by omega
              have l1 : decide ((8 : Int) < (s.who.length : Int)) = false := decide_eq_false (by omega)
              have l2 : ((s.who.length : Int) == (s.seals.length : Int)) = true := beq_iff_eq.2 (by omega)
              have l3 : ((s.who.length : Int) != (s.seals.length : Int)) = false := by rw [bne, l2]; rfl
              have HFE := Lib.hid (HF.out.trans (goodS_3 HH.out hl))
              have H8 := Lib.hid (show s.who.length ≤ 8 by omega)
              have HLE := Lib.hid hle
              clear hl hle
              go_enter Tryd.func14, Tryd.ntmps14
              go_wp2_with fail
              (with_reducible refine HNM.out.mono ?_)
              rintro e w1 ⟨rfl, hb⟩
              have HB1 := Lib.hid hb
              have g1 := blk_below (HG.out) hb
              clear hb
              obtain ⟨c0, c1, c2, c3, c4, _, _⟩ := stp_cells g1
              go_wp2_with fail
              have HBW := Lib.hid (HBA.out.trans (HB1.out.mono HBA.out.size))
              have hb0 := Lib.hid (Below.refl w1.heap.size w1)
              have HGG := Lib.hid (fun wr (h : Below w1.heap.size w1 wr) => blk_below g1 h)
              clear c0 c1 c2 c3 c4 g1
              go_loopw [2, 56] (fun r i wr => ∃ k : Nat, k ≤ s.who.length ∧ r = .int .i64 0 ∧ i = .int .i64 (k : Int) ∧ Hid (∀ j, j < k → rowS s j = 0) ∧ Hid (Below w1.heap.size w1 wr)) (fun _ i _ => s.who.length - (intOf i).toNat)
              case atStart => exact ⟨0, Nat.zero_le _, rfl, rfl, Lib.hid fun j hj => absurd hj (Nat.not_lt_zero _), hb0⟩
              case round =>
                obtain ⟨k, hk, rfl, rfl, HALL, HR1⟩ := hrel
                have HB := Lib.hid (HBW.out.trans (HR1.out.mono HBW.out.size))
                obtain ⟨c0, c1, c2, c3, c4, _, _⟩ := stp_cells (HGG.out _ HR1.out)
                by_cases hlt : k < s.who.length
                · have hki : (k : Int) < (s.who.length : Int) := by omega
                  have hkb : decide ((k : Int) < (s.who.length : Int)) = true := decide_eq_true hki
                  have hk0 : (0 : Int) ≤ (k : Int) := by omega
                  obtain ⟨bw, ow, hae, hblt, hcw⟩ := rdI_at HW.out (by omega)
                  obtain ⟨bs, os, hae2, hblt2, hcs⟩ := rdS_at' HS.out (by have := HLE.out; omega)
                  subst hae
                  subst hae2
                  have d0 := (HB.out.cell (p := ⟨bw, ow + k, none⟩) hblt).trans (hcw k hlt)
                  have d1 := (HB.out.cell (p := ⟨bs, os + k, none⟩) hblt2).trans (hcs k (by have := HLE.out; omega))
                  have hks : (k : Int) < (s.seals.length : Int) := by have := HLE.out; omega
                  obtain ⟨x, hx⟩ : ∃ x, x = s.who.getD k 0 := ⟨_, rfl⟩
                  obtain ⟨q, hq⟩ : ∃ q, q = s.seals.getD k noB := ⟨_, rfl⟩
                  rw [← hx] at d0
                  rw [← hq] at d1
                  have HX := Lib.hid hx
                  have HQ := Lib.hid hq
                  have HLT := Lib.hid hlt
                  have HCW := Lib.hid hcw
                  have HBL := Lib.hid hblt
                  clear hx hq hcw hcs hblt hblt2
                  by_cases x0 : x < 0
                  · have xb0 : decide (x < 0) = true := decide_eq_true x0
                    have HOK := Lib.hid (show rowS s k = 3 by unfold rowS; rw [← HX.out, if_pos (.inl x0)])
                    have hF := HFE.out.trans (firstE_at (by rw [HOK.out]; decide) (Nat.zero_le _) (by have := HLT.out; omega) (fun j _ hj => HALL.out j hj))
                    rw [HOK.out] at hF
                    subst hF
                    go_wp2_with fail
                    go_ret
                    exact ⟨rfl, HB.out⟩
                  · have xb0 : decide (x < 0) = false := decide_eq_false x0
                    by_cases x8 : 8 ≤ x
                    · have xb8 : decide (8 ≤ x) = true := decide_eq_true x8
                      have HOK := Lib.hid (show rowS s k = 3 by unfold rowS; rw [← HX.out, if_pos (.inr (.inl x8))])
                      have hF := HFE.out.trans (firstE_at (by rw [HOK.out]; decide) (Nat.zero_le _) (by have := HLT.out; omega) (fun j _ hj => HALL.out j hj))
                      rw [HOK.out] at hF
                      subst hF
                      go_wp2_with fail
                      go_ret
                      exact ⟨rfl, HB.out⟩
                    · have xb8 : decide (8 ≤ x) = false := decide_eq_false x8
                      rcases Nat.eq_zero_or_pos k with hk00 | hk00
                      · subst hk00
                        have hz0 : decide ((0 : Int) < (0 : Int)) = false := by simp
                        have HRW := Lib.hid (show ¬ (s.who.getD 0 0 < 0 ∨ 8 ≤ s.who.getD 0 0 ∨ (0 < 0 ∧ s.who.getD 0 0 ≤ s.who.getD (0 - 1) 0)) by have e := HX.out; omega)
                        have HCN := Lib.hid (show ((0 + 1 : Nat) : Int) = 1 from rfl)
                        have HMS := Lib.hid (show (1 : Int) = ((0 + 1 : Nat) : Int) from rfl)
                        simp only [Nat.add_zero] at d0 d1
                        by_cases hq : q.size = 32
                        · have hz : ((q.size : Int) == 32) = true := by rw [hq]; rfl
                          have hz2 : ((q.size : Int) != 32) = false := by rw [bne, hz]; rfl
                          have HOK := Lib.hid (show rowS s 0 = 0 from rowS_z HRW.out (by rw [← HQ.out]; exact hq))
                          clear hq
                          go_wp2_with fail
                          go_roundw
                          case rel => exact ⟨0 + 1, by have := HLT.out; omega, rfl, by (first | rfl | rw [HCN.out] | (rw [HCN.out, hw2])), Lib.hid fun j hj => by (by_cases hjk : j = 0; rw [hjk]; exact HOK.out; exact HALL.out j (by omega)), HR1⟩
                          case measure => exact meas_step _ (by first | exact HMS.out | exact hw2.symm.trans HMS.out) HLT.out
                        · have hz : ((q.size : Int) == 32) = false := beq_eq_false_iff_ne.2 (by omega)
                          have hz2 : ((q.size : Int) != 32) = true := by rw [bne, hz]; rfl
                          have HOK := Lib.hid (show rowS s 0 = 2 from rowS_t HRW.out (by rw [← HQ.out]; exact hq))
                          clear hq
                          have hF := HFE.out.trans (firstE_at (by rw [HOK.out]; decide) (Nat.zero_le _) (by have := HLT.out; omega) (fun j _ hj => HALL.out j hj))
                          rw [HOK.out] at hF
                          subst hF
                          go_wp2_with fail
                          go_ret
                          exact ⟨rfl, HB.out⟩
                      · obtain ⟨m, rfl⟩ : ∃ m, k = m + 1 := ⟨k - 1, by omega⟩
                        obtain ⟨y, hy⟩ : ∃ y, y = s.who.getD m 0 := ⟨_, rfl⟩
                        have dp := (HB.out.cell (p := ⟨bw, ow + m, none⟩) HBL.out).trans (HCW.out m (by omega))
                        rw [← hy] at dp
                        have HY := Lib.hid hy
                        have hmi : (m : Int) < (s.who.length : Int) := by omega
                        have hm0 : (0 : Int) ≤ (m : Int) := by omega
                        have hmn : m < s.who.length := by omega
                        have hmw : IntKind.i64.wrap (m : Int) = (m : Int) := by rw [IntKind.wrap_i64]; have := H8.out; omega
                        have hpos : decide ((0 : Int) < ((m + 1 : Nat) : Int)) = true := decide_eq_true (by omega)
                        clear hy
                        by_cases hxy : x ≤ y
                        · have xyb : decide (x ≤ y) = true := decide_eq_true hxy
                          have HOK := Lib.hid (show rowS s (m + 1) = 3 by unfold rowS; rw [← HX.out, Nat.add_sub_cancel, ← HY.out, if_pos (.inr (.inr ⟨by omega, hxy⟩))])
                          have hF := HFE.out.trans (firstE_at (by rw [HOK.out]; decide) (Nat.zero_le _) (by have := HLT.out; omega) (fun j _ hj => HALL.out j hj))
                          rw [HOK.out] at hF
                          subst hF
                          go_wp2_with fail
                          go_ret
                          exact ⟨rfl, HB.out⟩
                        · have xyb : decide (x ≤ y) = false := decide_eq_false hxy
                          have HRW := Lib.hid (show ¬ (s.who.getD (m + 1) 0 < 0 ∨ 8 ≤ s.who.getD (m + 1) 0 ∨ (0 < m + 1 ∧ s.who.getD (m + 1) 0 ≤ s.who.getD (m + 1 - 1) 0)) by rw [Nat.add_sub_cancel]; have e := HX.out; have e2 := HY.out; omega)
                          have hw2 : wrap64 ((m : Int) + 1 + 1) = (m : Int) + 1 + 1 := IntWalk.wrap64_in _ (by have := H8.out; omega)
                          have HCN := Lib.hid (show ((m + 1 + 1 : Nat) : Int) = wrap64 ((m : Int) + 1 + 1) by rw [hw2]; omega)
                          have HMS := Lib.hid (show wrap64 ((m : Int) + 1 + 1) = ((m + 1 + 1 : Nat) : Int) from HCN.out.symm)
                          by_cases hq : q.size = 32
                          · have hz : ((q.size : Int) == 32) = true := by rw [hq]; rfl
                            have hz2 : ((q.size : Int) != 32) = false := by rw [bne, hz]; rfl
                            have HOK := Lib.hid (show rowS s (m + 1) = 0 from rowS_z HRW.out (by rw [← HQ.out]; exact hq))
                            clear hq
                            go_wp2_with fail
                            go_roundw
                            case rel => exact ⟨m + 1 + 1, by have := HLT.out; omega, rfl, by (first | rfl | rw [HCN.out] | (rw [HCN.out, hw2])), Lib.hid fun j hj => by (by_cases hjk : j = m + 1; rw [hjk]; exact HOK.out; exact HALL.out j (by omega)), HR1⟩
                            case measure => exact meas_step _ (by first | exact HMS.out | exact hw2.symm.trans HMS.out) HLT.out
                          · have hz : ((q.size : Int) == 32) = false := beq_eq_false_iff_ne.2 (by omega)
                            have hz2 : ((q.size : Int) != 32) = true := by rw [bne, hz]; rfl
                            have HOK := Lib.hid (show rowS s (m + 1) = 2 from rowS_t HRW.out (by rw [← HQ.out]; exact hq))
                            clear hq
                            have hF := HFE.out.trans (firstE_at (by rw [HOK.out]; decide) (Nat.zero_le _) (by have := HLT.out; omega) (fun j _ hj => HALL.out j hj))
                            rw [HOK.out] at hF
                            subst hF
                            go_wp2_with fail
                            go_ret
                            exact ⟨rfl, HB.out⟩
                · have hkn : k = s.who.length := by omega
                  have hkb : decide ((k : Int) < (s.who.length : Int)) = false := decide_eq_false (by omega)
                  have hF := HFE.out.trans (firstE_all (fun j _ hj => HALL.out j (by omega)))
                  subst hF
                  go_wp2_with fail
                  go_ret
                  exact ⟨rfl, HB.out⟩
        · by_cases hnf : s.new.size = 32
          · have hne := hnf
            have hn := Lib.hid hne
            have ne0 : ((s.new.size : Int) == 0) = false := beq_eq_false_iff_ne.2 (by omega)
            have nn0 : ((s.new.size : Int) != 0) = true := by rw [bne, ne0]; rfl
            have ne32 : ((s.new.size : Int) == 32) = true := by rw [hne]; rfl
            have nn32 : ((s.new.size : Int) != 32) = false := by rw [bne, ne32]; rfl
            clear hnf hne
            by_cases hon : s.old = s.new
            · have HH := Lib.hid (show headOk s = false by rw [headOk, hon]; simp)
              have hF := HF.out.trans (goodS_1 HH.out)
              subst hF
              have hob : (s.old.toList == s.new.toList) = true := by rw [hon]; exact beq_self_eq_true _
              clear hon
              go_enter Tryd.func14, Tryd.ntmps14
              go_wp2_with fail
              (with_reducible refine HNM.out.mono ?_)
              rintro e w1 ⟨rfl, hb⟩
              have HB1 := Lib.hid hb
              have g1 := blk_below (HG.out) hb
              clear hb
              obtain ⟨c0, c1, c2, c3, c4, _, _⟩ := stp_cells g1
              go_wp2_with fail
              go_ret
              exact ⟨rfl, HBA.out.trans (HB1.out.mono HBA.out.size)⟩
            · have HH := Lib.hid (show headOk s = true by rw [headOk, HNMD.out, idOk, idOk, ho.out, hn.out, decide_eq_true hon]; rfl)
              have hob : (s.old.toList == s.new.toList) = false := beq_eq_false_iff_ne.2 (fun e => hon (toList_inj e))
              clear hon
              by_cases hl : 8 < s.who.length ∨ s.who.length ≠ s.seals.length
              · have hF := HF.out.trans (goodS_2 HH.out hl)
                subst hF
                by_cases h8 : 8 < s.who.length
                · have l1 : decide ((8 : Int) < (s.who.length : Int)) = true := decide_eq_true (by omega)
                  go_enter Tryd.func14, Tryd.ntmps14
                  go_wp2_with fail
                  (with_reducible refine HNM.out.mono ?_)
                  rintro e w1 ⟨rfl, hb⟩
                  have HB1 := Lib.hid hb
                  have g1 := blk_below (HG.out) hb
                  clear hb
                  obtain ⟨c0, c1, c2, c3, c4, _, _⟩ := stp_cells g1
                  go_wp2_with fail
                  go_ret
                  exact ⟨rfl, HBA.out.trans (HB1.out.mono HBA.out.size)⟩
                · have l1 : decide ((8 : Int) < (s.who.length : Int)) = false := decide_eq_false (by omega)
                  have l2 : ((s.who.length : Int) == (s.seals.length : Int)) = false := beq_eq_false_iff_ne.2 (by omega)
                  have l3 : ((s.who.length : Int) != (s.seals.length : Int)) = true := by rw [bne, l2]; rfl
                  go_enter Tryd.func14, Tryd.ntmps14
                  go_wp2_with fail
                  (with_reducible refine HNM.out.mono ?_)
                  rintro e w1 ⟨rfl, hb⟩
                  have HB1 := Lib.hid hb
                  have g1 := blk_below (HG.out) hb
                  clear hb
                  obtain ⟨c0, c1, c2, c3, c4, _, _⟩ := stp_cells g1
                  go_wp2_with fail
                  go_ret
                  exact ⟨rfl, HBA.out.trans (HB1.out.mono HBA.out.size)⟩
              · have hle : s.who.length = s.seals.length := by omega
                have l1 : decide ((8 : Int) < (s.who.length : Int)) = false := decide_eq_false (by omega)
                have l2 : ((s.who.length : Int) == (s.seals.length : Int)) = true := beq_iff_eq.2 (by omega)
                have l3 : ((s.who.length : Int) != (s.seals.length : Int)) = false := by rw [bne, l2]; rfl
                have HFE := Lib.hid (HF.out.trans (goodS_3 HH.out hl))
                have H8 := Lib.hid (show s.who.length ≤ 8 by omega)
                have HLE := Lib.hid hle
                clear hl hle
                go_enter Tryd.func14, Tryd.ntmps14
                go_wp2_with fail
                (with_reducible refine HNM.out.mono ?_)
                rintro e w1 ⟨rfl, hb⟩
                have HB1 := Lib.hid hb
                have g1 := blk_below (HG.out) hb
                clear hb
                obtain ⟨c0, c1, c2, c3, c4, _, _⟩ := stp_cells g1
                go_wp2_with fail
                have HBW := Lib.hid (HBA.out.trans (HB1.out.mono HBA.out.size))
                have hb0 := Lib.hid (Below.refl w1.heap.size w1)
                have HGG := Lib.hid (fun wr (h : Below w1.heap.size w1 wr) => blk_below g1 h)
                clear c0 c1 c2 c3 c4 g1
                go_loopw [2, 56] (fun r i wr => ∃ k : Nat, k ≤ s.who.length ∧ r = .int .i64 0 ∧ i = .int .i64 (k : Int) ∧ Hid (∀ j, j < k → rowS s j = 0) ∧ Hid (Below w1.heap.size w1 wr)) (fun _ i _ => s.who.length - (intOf i).toNat)
                case atStart => exact ⟨0, Nat.zero_le _, rfl, rfl, Lib.hid fun j hj => absurd hj (Nat.not_lt_zero _), hb0⟩
                case round =>
                  obtain ⟨k, hk, rfl, rfl, HALL, HR1⟩ := hrel
                  have HB := Lib.hid (HBW.out.trans (HR1.out.mono HBW.out.size))
                  obtain ⟨c0, c1, c2, c3, c4, _, _⟩ := stp_cells (HGG.out _ HR1.out)
                  by_cases hlt : k < s.who.length
                  · have hki : (k : Int) < (s.who.length : Int) := by omega
                    have hkb : decide ((k : Int) < (s.who.length : Int)) = true := decide_eq_true hki
                    have hk0 : (0 : Int) ≤ (k : Int) := by omega
                    obtain ⟨bw, ow, hae, hblt, hcw⟩ := rdI_at HW.out (by omega)
                    obtain ⟨bs, os, hae2, hblt2, hcs⟩ := rdS_at' HS.out (by have := HLE.out; omega)
                    subst hae
                    subst hae2
                    have d0 := (HB.out.cell (p := ⟨bw, ow + k, none⟩) hblt).trans (hcw k hlt)
                    have d1 := (HB.out.cell (p := ⟨bs, os + k, none⟩) hblt2).trans (hcs k (by have := HLE.out; omega))
                    have hks : (k : Int) < (s.seals.length : Int) := by have := HLE.out; omega
                    obtain ⟨x, hx⟩ : ∃ x, x = s.who.getD k 0 := ⟨_, rfl⟩
                    obtain ⟨q, hq⟩ : ∃ q, q = s.seals.getD k noB := ⟨_, rfl⟩
                    rw [← hx] at d0
                    rw [← hq] at d1
                    have HX := Lib.hid hx
                    have HQ := Lib.hid hq
                    have HLT := Lib.hid hlt
                    have HCW := Lib.hid hcw
                    have HBL := Lib.hid hblt
                    clear hx hq hcw hcs hblt hblt2
                    by_cases x0 : x < 0
                    · have xb0 : decide (x < 0) = true := decide_eq_true x0
                      have HOK := Lib.hid (show rowS s k = 3 by unfold rowS; rw [← HX.out, if_pos (.inl x0)])
                      have hF := HFE.out.trans (firstE_at (by rw [HOK.out]; decide) (Nat.zero_le _) (by have := HLT.out; omega) (fun j _ hj => HALL.out j hj))
                      rw [HOK.out] at hF
                      subst hF
                      go_wp2_with fail
                      go_ret
                      exact ⟨rfl, HB.out⟩
                    · have xb0 : decide (x < 0) = false := decide_eq_false x0
                      by_cases x8 : 8 ≤ x
                      · have xb8 : decide (8 ≤ x) = true := decide_eq_true x8
                        have HOK := Lib.hid (show rowS s k = 3 by unfold rowS; rw [← HX.out, if_pos (.inr (.inl x8))])
                        have hF := HFE.out.trans (firstE_at (by rw [HOK.out]; decide) (Nat.zero_le _) (by have := HLT.out; omega) (fun j _ hj => HALL.out j hj))
                        rw [HOK.out] at hF
                        subst hF
                        go_wp2_with fail
                        go_ret
                        exact ⟨rfl, HB.out⟩
                      · have xb8 : decide (8 ≤ x) = false := decide_eq_false x8
                        rcases Nat.eq_zero_or_pos k with hk00 | hk00
                        · subst hk00
                          have hz0 : decide ((0 : Int) < (0 : Int)) = false := by simp
                          have HRW := Lib.hid (show ¬ (s.who.getD 0 0 < 0 ∨ 8 ≤ s.who.getD 0 0 ∨ (0 < 0 ∧ s.who.getD 0 0 ≤ s.who.getD (0 - 1) 0)) by have e := HX.out; omega)
                          have HCN := Lib.hid (show ((0 + 1 : Nat) : Int) = 1 from rfl)
                          have HMS := Lib.hid (show (1 : Int) = ((0 + 1 : Nat) : Int) from rfl)
                          simp only [Nat.add_zero] at d0 d1
                          by_cases hq : q.size = 32
                          · have hz : ((q.size : Int) == 32) = true := by rw [hq]; rfl
                            have hz2 : ((q.size : Int) != 32) = false := by rw [bne, hz]; rfl
                            have HOK := Lib.hid (show rowS s 0 = 0 from rowS_z HRW.out (by rw [← HQ.out]; exact hq))
                            clear hq
                            go_wp2_with fail
                            go_roundw
                            case rel => exact ⟨0 + 1, by have := HLT.out; omega, rfl, by (first | rfl | rw [HCN.out] | (rw [HCN.out, hw2])), Lib.hid fun j hj => by (by_cases hjk : j = 0; rw [hjk]; exact HOK.out; exact HALL.out j (by omega)), HR1⟩
                            case measure => exact meas_step _ (by first | exact HMS.out | exact hw2.symm.trans HMS.out) HLT.out
                          · have hz : ((q.size : Int) == 32) = false := beq_eq_false_iff_ne.2 (by omega)
                            have hz2 : ((q.size : Int) != 32) = true := by rw [bne, hz]; rfl
                            have HOK := Lib.hid (show rowS s 0 = 2 from rowS_t HRW.out (by rw [← HQ.out]; exact hq))
                            clear hq
                            have hF := HFE.out.trans (firstE_at (by rw [HOK.out]; decide) (Nat.zero_le _) (by have := HLT.out; omega) (fun j _ hj => HALL.out j hj))
                            rw [HOK.out] at hF
                            subst hF
                            go_wp2_with fail
                            go_ret
                            exact ⟨rfl, HB.out⟩
                        · obtain ⟨m, rfl⟩ : ∃ m, k = m + 1 := ⟨k - 1, by omega⟩
                          obtain ⟨y, hy⟩ : ∃ y, y = s.who.getD m 0 := ⟨_, rfl⟩
                          have dp := (HB.out.cell (p := ⟨bw, ow + m, none⟩) HBL.out).trans (HCW.out m (by omega))
                          rw [← hy] at dp
                          have HY := Lib.hid hy
                          have hmi : (m : Int) < (s.who.length : Int) := by omega
                          have hm0 : (0 : Int) ≤ (m : Int) := by omega
                          have hmn : m < s.who.length := by omega
                          have hmw : IntKind.i64.wrap (m : Int) = (m : Int) := by rw [IntKind.wrap_i64]; have := H8.out; omega
                          have hpos : decide ((0 : Int) < ((m + 1 : Nat) : Int)) = true := decide_eq_true (by omega)
                          clear hy
                          by_cases hxy : x ≤ y
                          · have xyb : decide (x ≤ y) = true := decide_eq_true hxy
                            have HOK := Lib.hid (show rowS s (m + 1) = 3 by unfold rowS; rw [← HX.out, Nat.add_sub_cancel, ← HY.out, if_pos (.inr (.inr ⟨by omega, hxy⟩))])
                            have hF := HFE.out.trans (firstE_at (by rw [HOK.out]; decide) (Nat.zero_le _) (by have := HLT.out; omega) (fun j _ hj => HALL.out j hj))
                            rw [HOK.out] at hF
                            subst hF
                            go_wp2_with fail
                            go_ret
                            exact ⟨rfl, HB.out⟩
                          · have xyb : decide (x ≤ y) = false := decide_eq_false hxy
                            have HRW := Lib.hid (show ¬ (s.who.getD (m + 1) 0 < 0 ∨ 8 ≤ s.who.getD (m + 1) 0 ∨ (0 < m + 1 ∧ s.who.getD (m + 1) 0 ≤ s.who.getD (m + 1 - 1) 0)) by rw [Nat.add_sub_cancel]; have e := HX.out; have e2 := HY.out; omega)
                            have hw2 : wrap64 ((m : Int) + 1 + 1) = (m : Int) + 1 + 1 := IntWalk.wrap64_in _ (by have := H8.out; omega)
                            have HCN := Lib.hid (show ((m + 1 + 1 : Nat) : Int) = wrap64 ((m : Int) + 1 + 1) by rw [hw2]; omega)
                            have HMS := Lib.hid (show wrap64 ((m : Int) + 1 + 1) = ((m + 1 + 1 : Nat) : Int) from HCN.out.symm)
                            by_cases hq : q.size = 32
                            · have hz : ((q.size : Int) == 32) = true := by rw [hq]; rfl
                              have hz2 : ((q.size : Int) != 32) = false := by rw [bne, hz]; rfl
                              have HOK := Lib.hid (show rowS s (m + 1) = 0 from rowS_z HRW.out (by rw [← HQ.out]; exact hq))
                              clear hq
                              go_wp2_with fail
                              go_roundw
                              case rel => exact ⟨m + 1 + 1, by have := HLT.out; omega, rfl, by (first | rfl | rw [HCN.out] | (rw [HCN.out, hw2])), Lib.hid fun j hj => by (by_cases hjk : j = m + 1; rw [hjk]; exact HOK.out; exact HALL.out j (by omega)), HR1⟩
                              case measure => exact meas_step _ (by first | exact HMS.out | exact hw2.symm.trans HMS.out) HLT.out
                            · have hz : ((q.size : Int) == 32) = false := beq_eq_false_iff_ne.2 (by omega)
                              have hz2 : ((q.size : Int) != 32) = true := by rw [bne, hz]; rfl
                              have HOK := Lib.hid (show rowS s (m + 1) = 2 from rowS_t HRW.out (by rw [← HQ.out]; exact hq))
                              clear hq
                              have hF := HFE.out.trans (firstE_at (by rw [HOK.out]; decide) (Nat.zero_le _) (by have := HLT.out; omega) (fun j _ hj => HALL.out j hj))
                              rw [HOK.out] at hF
                              subst hF
                              go_wp2_with fail
                              go_ret
                              exact ⟨rfl, HB.out⟩
                  · have hkn : k = s.who.length := by omega
                    have hkb : decide ((k : Int) < (s.who.length : Int)) = false := decide_eq_false (by omega)
                    have hF := HFE.out.trans (firstE_all (fun j _ hj => HALL.out j (by omega)))
                    subst hF
                    go_wp2_with fail
                    go_ret
                    exact ⟨rfl, HB.out⟩
          · have HH := Lib.hid (show headOk s = false by rw [headOk, idOk, idOk, decide_eq_false hne, decide_eq_false hnf]; simp)
            have hF := HF.out.trans (goodS_1 HH.out)
            subst hF
            have ne0 : ((s.new.size : Int) == 0) = false := beq_eq_false_iff_ne.2 (by omega)
            have nn0 : ((s.new.size : Int) != 0) = true := by rw [bne, ne0]; rfl
            have ne32 : ((s.new.size : Int) == 32) = false := beq_eq_false_iff_ne.2 (by omega)
            have nn32 : ((s.new.size : Int) != 32) = true := by rw [bne, ne32]; rfl
            clear hne hnf
            go_enter Tryd.func14, Tryd.ntmps14
            go_wp2_with fail
            (with_reducible refine HNM.out.mono ?_)
            rintro e w1 ⟨rfl, hb⟩
            have HB1 := Lib.hid hb
            have g1 := blk_below (HG.out) hb
            clear hb
            obtain ⟨c0, c1, c2, c3, c4, _, _⟩ := stp_cells g1
            go_wp2_with fail
            go_ret
            exact ⟨rfl, HBA.out.trans (HB1.out.mono HBA.out.size)⟩
      · have HH := Lib.hid (show headOk s = false by rw [headOk, idOk, decide_eq_false hoe, decide_eq_false hof]; simp)
        have hF := HF.out.trans (goodS_1 HH.out)
        subst hF
        have oe0 : ((s.old.size : Int) == 0) = false := beq_eq_false_iff_ne.2 (by omega)
        have on0 : ((s.old.size : Int) != 0) = true := by rw [bne, oe0]; rfl
        have oe32 : ((s.old.size : Int) == 32) = false := beq_eq_false_iff_ne.2 (by omega)
        have on32 : ((s.old.size : Int) != 32) = true := by rw [bne, oe32]; rfl
        clear hoe hof
        go_enter Tryd.func14, Tryd.ntmps14
        go_wp2_with fail
        (with_reducible refine HNM.out.mono ?_)
        rintro e w1 ⟨rfl, hb⟩
        have HB1 := Lib.hid hb
        have g1 := blk_below (HG.out) hb
        clear hb
        obtain ⟨c0, c1, c2, c3, c4, _, _⟩ := stp_cells g1
        go_wp2_with fail
        go_ret
        exact ⟨rfl, HBA.out.trans (HB1.out.mono HBA.out.size)⟩
end Go.Proofs.YtinhjnbgblieeaaDoor
/-! Step2 -/
namespace Go.Proofs.YtinhjnbgblieeaaDoor
open Go.RowKit
set_option linter.unusedVariables false
set_option linter.unusedSimpArgs false

theorem tl3 (a b c : ByteArray) (r : List UInt8) : [a, b, c].flatMap encT ++ r = encT a ++ (encT b ++ (encT c ++ r)) := by simp
theorem named_size {s : ByteArray} (h : namedR s = true) : s.size ≤ 60 := by
  unfold namedR at h
  rw [Bool.and_eq_true, decide_eq_true_eq] at h
  exact h.1
theorem idOk_size {s : ByteArray} (h : idOk s = true) : s.size ≤ 32 := by
  unfold idOk at h
  rw [Bool.or_eq_true, decide_eq_true_eq, decide_eq_true_eq] at h
  omega
theorem head_sizes {s : Stp} (h : headOk s = true) : s.ref.size ≤ 60 ∧ s.old.size ≤ 32 ∧ s.new.size ≤ 32 := by
  unfold headOk at h
  simp only [Bool.and_eq_true] at h
  exact ⟨named_size h.1, idOk_size h.2.1, idOk_size h.2.2.1⟩
theorem body_length {n : Nat} (hn : n < 200) {s : Stp} (h : headOk s = true) : (bodyL n s).length ≤ 200 := by
  obtain ⟨h1, h2, h3⟩ := head_sizes h
  have e1 := enc9 (n := n) (by omega)
  have e2 := enc9 (n := s.ref.size) (by omega)
  have e3 := enc9 (n := s.old.size) (by omega)
  have e4 := enc9 (n := s.new.size) (by omega)
  simp only [bodyL, encT, List.length_append, toList_length]
  omega
theorem bodyF_1 {at_ : Int} {s : Stp} (h : at_ < 0 ∨ 200 ≤ at_) : bodyF at_ s = (noB, 3) := by unfold bodyF; rw [if_pos h]
theorem bodyF_2 {at_ : Int} {s : Stp} (h : ¬ (at_ < 0 ∨ 200 ≤ at_)) : bodyF at_ s = (⟨(bodyL at_.toNat s).toArray⟩, 0) := by unfold bodyF; rw [if_neg h]; rfl
set_option maxRecDepth 100000 in
set_option maxHeartbeats 3200000 in
theorem bodyStp_any (at_ : Int) (s : Stp) (vw vs : Value) (w : World) (hh : headOk s = true) :
    Calls Tryd.prog 16 #[.int .i64 at_, .agg #[.string s.ref, .string s.old, .string s.new, vw, vs]] w fun e w' => e = .returned (.tuple #[.string (bodyF at_ s).1, .int .i64 (bodyF at_ s).2]) ∧ Below w.heap.size w w' := by
  obtain ⟨F, hF⟩ : ∃ F, F = bodyF at_ s := ⟨_, rfl⟩
  rw [← hF]
  have HF := Lib.hid hF
  obtain ⟨W, hW⟩ : ∃ W, w.alloc (.cells #[.string s.ref, .string s.old, .string s.new, vw, vs] 25) = W := ⟨_, rfl⟩
  have hg0 : W.heap[w.heap.size]? = some (.cells #[.string s.ref, .string s.old, .string s.new, vw, vs] 25 (0, 0)) := by rw [← hW]; exact heap_alloc_new _ _
  have HG := Lib.hid (fun wr (h : Below W.heap.size W wr) => blk_below hg0 h)
  have HW0 := Lib.hid (show Below w.heap.size w W by rw [← hW]; exact (Below.refl _ _).alloc (Nat.le_refl _) _)
  clear hF hg0
  by_cases hat : at_ < 0 ∨ 200 ≤ at_
  · have hF := HF.out.trans (bodyF_1 hat)
    subst hF
    by_cases h0 : at_ < 0
    · have f0 : decide (at_ < 0) = true := decide_eq_true h0
      go_enter Tryd.func16, Tryd.ntmps16
      go_wp2_with fail
      go_ret2
      exact ⟨rfl, HW0.out⟩
    · have f0 : decide (at_ < 0) = false := decide_eq_false h0
      have f1 : decide (200 ≤ at_) = true := decide_eq_true (by omega)
      go_enter Tryd.func16, Tryd.ntmps16
      go_wp2_with fail
      go_ret2
      exact ⟨rfl, HW0.out⟩
  · have hF := HF.out.trans (bodyF_2 hat)
    have f0 : decide (at_ < 0) = false := decide_eq_false (by omega)
    have f1 : decide (200 ≤ at_) = false := decide_eq_false (by omega)
    have ha0 : 0 ≤ at_ := by omega
    have ha1 : at_ < 200 := by omega
    obtain ⟨E, hE⟩ : ∃ E, E = bodyL at_.toNat s := ⟨_, rfl⟩
    rw [← hE] at hF
    have HBIG := Lib.hid (show E.length ≤ 4000 by rw [hE]; have := body_length (n := at_.toNat) (by omega) hh; omega)
    have HT60 := Lib.hid (show s.ref.size ≤ 4096 ∧ s.old.size ≤ 4096 ∧ s.new.size ≤ 4096 by have := head_sizes hh; omega)
    have HE2 := Lib.hid (show E = [] ++ (enc at_.toNat ++ (encT s.ref ++ (encT s.old ++ (encT s.new ++ [])))) by rw [List.append_nil]; exact hE)
    obtain ⟨w1, hw1⟩ : ∃ w1, w1 = W := ⟨_, rfl⟩
    obtain ⟨X, hX⟩ : ∃ X, w1.alloc (.cells #[.slice none 0 0, .int .i64 0] 76) = X := ⟨_, rfl⟩
    have hbx : Below W.heap.size W X := by rw [← hX, hw1]; exact (Below.refl _ _).alloc (Nat.le_refl _) _
    have HB2 := Lib.hid hbx
    have HBG := Lib.hid (show W.heap.size ≤ w1.heap.size by rw [hw1]; exact Nat.le_refl _)
    have HS2 := Lib.hid (show WrSt X W.heap.size w1.heap.size (.slice none 0 0) [] 0 from ⟨by rw [← hX]; exact heap_alloc_new _ _, World.ownsRow_nil _ _ _ _, by simp [Value.ownBlock], hbx.size⟩)
    obtain ⟨c0, c1, c2, c3, c4, _, _⟩ := stp_cells (HG.out _ hbx)
    have hX' : W.alloc (.cells #[.slice none 0 0, .int .i64 0] 76) = X := by rw [← hw1]; exact hX
    have hsz1 : W.heap.size = w1.heap.size := by rw [hw1]
    subst hF
    clear hE hat hh hbx hX hw1
    go_enter Tryd.func16, Tryd.ntmps16
    have HC3 := Lib.hid (wNumber_good HS2.out (at_) (by omega) (by omega) (by have h := HBIG.out; rw [HE2.out, List.length_append] at h; omega))
    go_wp2_with fail
    (with_reducible refine HC3.out.mono ?_)
    rintro e w3 hto
    obtain ⟨rfl, v3, hs3, hb3, hx3⟩ := hto.use HBG.out HS2.out
    have HB3 := Lib.hid (HB2.out.trans hb3)
    have HS3 := Lib.hid hs3
    have HX3 := Lib.hid hx3
    have HE3 := Lib.hid (HE2.out.trans (List.append_assoc _ _ _).symm)
    clear hs3 hb3 hx3 HC3 hto
    clear c0 c1 c2 c3 c4
    obtain ⟨c0, c1, c2, c3, c4, _, _⟩ := stp_cells (HG.out _ HB3.out)
    obtain ⟨Y, hY⟩ : ∃ Y, w3.alloc (.cells #[.string s.ref, .string s.old, .string s.new] 9) = Y := ⟨_, rfl⟩
    have hby : Below w3.heap.size w3 Y := by rw [← hY]; exact (Below.refl _ _).alloc (Nat.le_refl _) _
    have gy : Y.heap[w3.heap.size]? = some (.cells #[.string s.ref, .string s.old, .string s.new] 9 (0, 0)) := by rw [← hY]; exact heap_alloc_new _ _
    obtain ⟨e0, e1, e2⟩ := three_cells gy
    have HSy := Lib.hid (HS3.out.below hby)
    have HBy := Lib.hid (HB3.out.trans (hby.mono HB3.out.size))
    have HTX := Lib.hid (show w3.heap.size < Y.heap.size by rw [← hY]; simp)
    have HNG := Lib.hid (show w3.heap.size ≠ w1.heap.size from fun e => by have := lt_of_block HS3.out.blk; omega)
    have HNOy := Lib.hid (show v3.ownBlock ≠ some w3.heap.size from fun e => by obtain ⟨_, cs, f, hc⟩ := owns_elem HS3.out.own e; have := lt_of_block hc; omega)
    have HGY := Lib.hid gy
    obtain ⟨tx, htx⟩ : ∃ tx, tx = w3.heap.size := ⟨_, rfl⟩
    have HTX2 := Lib.hid htx
    rw [← htx] at HNG HNOy HGY HTX e0 e1 e2
    have hEy := HE3.out
    rw [← tl3 s.ref s.old s.new] at hEy
    have HEy := Lib.hid hEy
    clear hEy
    go_wp2_with fail
    try rw [hY]
    try rw [← htx]
    clear hY hby gy htx e0 e1 e2 c0 c1 c2 c3 c4
    go_loopw [28] (fun i wr => ∃ (k : Nat) (v : Value) (l : List UInt8), i = .int .i64 (k : Int) ∧ k ≤ 3 ∧ Hid (WrSt wr W.heap.size w1.heap.size v l 0) ∧ Hid (E = l ++ ((([s.ref, s.old, s.new].drop k).flatMap encT) ++ [])) ∧ Hid (Below W.heap.size W wr) ∧ Hid (wr.heap[tx]? = some (.cells #[.string s.ref, .string s.old, .string s.new] 9 (0, 0))) ∧ Hid (v.ownBlock ≠ some tx)) (fun i _ => 3 - (intOf i).toNat)
    case atStart => exact ⟨0, v3, _, rfl, by decide, HSy, HEy, HBy, HGY, HNOy⟩
    case round =>
      clear HS2 HS3 HE2 HE3 HX3 HB2 HB3 HSy HEy HBy HGY HNOy
      obtain ⟨k, v, l, rfl, hk, HSr, HEr, HBr, HGr, HNr⟩ := hrel
      obtain ⟨c0, c1, c2, c3, c4, _, _⟩ := stp_cells (HG.out _ HBr.out)
      obtain ⟨e0, e1, e2⟩ := three_cells HGr.out
      rcases (by omega : k = 0 ∨ k = 1 ∨ k = 2 ∨ k = 3) with rfl | rfl | rfl | rfl
      · have HCb := Lib.hid (wText_enc HSr.out s.ref HT60.out.1 (by have h := HBIG.out; rw [HEr.out, List.length_append] at h; omega))
        go_wp2_with fail
        (with_reducible refine HCb.out.mono ?_)
        rintro e wb hto
        obtain ⟨rfl, vb, hsb, hbb, hxb⟩ := hto.use HBG.out HSr.out
        have HBb := Lib.hid (HBr.out.trans hbb)
        have HSb := Lib.hid hsb
        have HXb := Lib.hid hxb
        have HEb := Lib.hid (HEr.out.trans (List.append_assoc _ _ _).symm)
        clear hsb hbb hxb HCb hto
        have hq := HXb.out tx (lt_of_block HGr.out) HNG.out HNr.out
        have HGb := Lib.hid (hq.1.trans HGr.out)
        have HNb := Lib.hid hq.2
        clear hq e0 e1 e2
        clear c0 c1 c2 c3 c4
        obtain ⟨c0, c1, c2, c3, c4, _, _⟩ := stp_cells (HG.out _ HBb.out)
        go_wp2_with fail
        exact ⟨⟨1, vb, _, rfl, by decide, HSb, Lib.hid (HEb.out.trans (by simp)), HBb, HGb, HNb⟩, by simp [intOf]⟩
      · have HCb := Lib.hid (wText_enc HSr.out s.old HT60.out.2.1 (by have h := HBIG.out; rw [HEr.out, List.length_append] at h; omega))
        go_wp2_with fail
        (with_reducible refine HCb.out.mono ?_)
        rintro e wb hto
        obtain ⟨rfl, vb, hsb, hbb, hxb⟩ := hto.use HBG.out HSr.out
        have HBb := Lib.hid (HBr.out.trans hbb)
        have HSb := Lib.hid hsb
        have HXb := Lib.hid hxb
        have HEb := Lib.hid (HEr.out.trans (List.append_assoc _ _ _).symm)
        clear hsb hbb hxb HCb hto
        have hq := HXb.out tx (lt_of_block HGr.out) HNG.out HNr.out
        have HGb := Lib.hid (hq.1.trans HGr.out)
        have HNb := Lib.hid hq.2
        clear hq e0 e1 e2
        clear c0 c1 c2 c3 c4
        obtain ⟨c0, c1, c2, c3, c4, _, _⟩ := stp_cells (HG.out _ HBb.out)
        go_wp2_with fail
        exact ⟨⟨2, vb, _, rfl, by decide, HSb, Lib.hid (HEb.out.trans (by simp)), HBb, HGb, HNb⟩, by simp [intOf]⟩
      · have HCb := Lib.hid (wText_enc HSr.out s.new HT60.out.2.2 (by have h := HBIG.out; rw [HEr.out, List.length_append] at h; omega))
        go_wp2_with fail
        (with_reducible refine HCb.out.mono ?_)
        rintro e wb hto
        obtain ⟨rfl, vb, hsb, hbb, hxb⟩ := hto.use HBG.out HSr.out
        have HBb := Lib.hid (HBr.out.trans hbb)
        have HSb := Lib.hid hsb
        have HXb := Lib.hid hxb
        have HEb := Lib.hid (HEr.out.trans (List.append_assoc _ _ _).symm)
        clear hsb hbb hxb HCb hto
        have hq := HXb.out tx (lt_of_block HGr.out) HNG.out HNr.out
        have HGb := Lib.hid (hq.1.trans HGr.out)
        have HNb := Lib.hid hq.2
        clear hq e0 e1 e2
        clear c0 c1 c2 c3 c4
        obtain ⟨c0, c1, c2, c3, c4, _, _⟩ := stp_cells (HG.out _ HBb.out)
        go_wp2_with fail
        exact ⟨⟨3, vb, _, rfl, by decide, HSb, Lib.hid (HEb.out.trans (by simp)), HBb, HGb, HNb⟩, by simp [intOf]⟩
      · have HEz := Lib.hid (show E = l ++ [] from HEr.out)
        have HSz := HSr
        have HBz := HBr
        have HEE := Lib.hid (HEz.out.trans (List.append_nil _))
        have hfin := HSz.out
        rw [← HEE.out] at hfin
        have HDN := Lib.hid (wDone_any (st := (E, 0)) hfin)
        rw [show doneV (E, (0 : Int)) = .tuple #[.string ⟨E.toArray⟩, .int .i64 0] from rfl] at HDN
        obtain ⟨z, hz⟩ : ∃ z : ByteArray, z = ⟨E.toArray⟩ := ⟨_, rfl⟩
        rw [← hz] at HDN
        have HZ := Lib.hid hz
        clear hfin hz
        go_wp2_with fail
        (with_reducible refine HDN.out.mono ?_)
        rintro e wd ⟨rfl, q, rfl⟩
        have HBD := Lib.hid (HW0.out.trans ((below_drewN HBz.out q).mono HW0.out.size))
        go_wp2_with fail
        go_ret2
        exact ⟨by rw [HZ.out]; rfl, HBD.out⟩
end Go.Proofs.YtinhjnbgblieeaaDoor
/-! Step3 -/
namespace Go.Proofs.YtinhjnbgblieeaaDoor
open Go.RowKit
set_option linter.unusedVariables false
set_option linter.unusedSimpArgs false

theorem rdI_to {w : World} {v : Value} {ss : List Int} (hr : rdI w v ss) (k : Nat) (hk : k ≤ ss.length) :
    ∃ v', (∀ w' : World, (Instr.sliceAt 22 v none (some (.int .i64 (k : Int))) none).run Tryd.prog w' = .ok v' w') ∧ rdI w v' (ss.take k) := by
  obtain ⟨v', h1, h2⟩ := slice_to Tryd.underlying22 size_int hr k hk
  refine ⟨v', h1, ?_⟩
  rw [ivs_take] at h2
  have : (ss.take k).length = k := by rw [List.length_take]; omega
  unfold rdI; rw [this]; exact h2
theorem rdI_from {w : World} {v : Value} {ss : List Int} (hr : rdI w v ss) (k : Nat) (hk : k ≤ ss.length) :
    ∃ v', (∀ w' : World, (Instr.sliceAt 22 v (some (.int .i64 (k : Int))) none none).run Tryd.prog w' = .ok v' w') ∧ rdI w v' (ss.drop k) := by
  obtain ⟨v', h1, h2⟩ := slice_from Tryd.underlying22 size_int hr k hk
  refine ⟨v', h1, ?_⟩
  rw [ivs_drop] at h2
  unfold rdI; rw [List.length_drop]; exact h2
theorem owns_updN {S : Nat → Prop} {w w' : World} {base : Nat} {e : TypeId} {size : Nat} {v : Value} {n : Nat} {xs : List Value} (h : w.ownsRow base e size v n xs) (hu : Upd S w w') (hS : ∀ k, S k → k < base) : w'.ownsRow base e size v n xs := by
  refine ⟨h.1, ?_⟩
  rcases h.2 with h | ⟨g, cap, cur, rfl, hbg, hg, r⟩
  · exact .inl h
  · refine .inr ⟨g, cap, cur, rfl, hbg, ?_, r⟩
    rw [hu.block g (Array.getElem?_eq_some_iff.1 hg).1 (fun k => by have := hS g k; omega)]
    exact hg
/-- A world whose step box has its row of signers set. -/
structure RowAt (w W Z : World) (s : Stp) (v3 v4 : Value) (N : List Int) : Prop where
  blk : Z.heap[w.heap.size]? = some (.cells #[.string s.ref, .string s.old, .string s.new, v3, v4] 25 (0, 0))
  out : Z.heap[w.heap.size + 1]? = some (.cells #[.string ⟨#[]⟩, .string ⟨#[]⟩, .string ⟨#[]⟩, .slice none 0 0, .slice none 0 0] 25 (0, 0))
  own : Z.ownsRow W.heap.size 3 1 v3 N.length (ivs N)
  bel : Below w.heap.size w Z
  size : W.heap.size ≤ Z.heap.size
  ge : w.heap.size + 2 ≤ W.heap.size
theorem rowAt_mk {w W Z : World} {s : Stp} {v0 v3 v4 : Value} {N : List Int}
    (h0 : Z.heap[w.heap.size]? = some (.cells #[.string s.ref, .string s.old, .string s.new, v0, v4] 25 (0, 0)))
    (h1 : Z.heap[w.heap.size + 1]? = some (.cells #[.string ⟨#[]⟩, .string ⟨#[]⟩, .string ⟨#[]⟩, .slice none 0 0, .slice none 0 0] 25 (0, 0)))
    (hw : Below w.heap.size w W) (hb : Below W.heap.size W Z) (ho : Z.ownsRow W.heap.size 3 1 v3 N.length (ivs N)) (hg : w.heap.size + 2 ≤ W.heap.size) :
    RowAt w W (Z.setCell ⟨w.heap.size, 3, none⟩ v3) s v3 v4 N := by
  refine ⟨?_, ?_, ?_, ?_, ?_, hg⟩
  · rw [heap_setCell_same _ _ _ _ _ _ h0]; rfl
  · rw [heap_setCell_other _ _ _ _ (by simp)]; exact h1
  · exact owns_setCell ho (fun k => by have := (ho.lt _ k).1; dsimp only at this; omega) _
  · exact (hw.trans (hb.mono hw.size)).setCell (Nat.le_refl _) _
  · simpa using hb.size
structure RowAt2 (w W Y : World) (s : Stp) (v3 v4 : Value) (N : List Int) (M : List ByteArray) : Prop where
  blk : Y.heap[w.heap.size]? = some (.cells #[.string s.ref, .string s.old, .string s.new, v3, v4] 25 (0, 0))
  out : Y.heap[w.heap.size + 1]? = some (.cells #[.string ⟨#[]⟩, .string ⟨#[]⟩, .string ⟨#[]⟩, .slice none 0 0, .slice none 0 0] 25 (0, 0))
  own : Y.ownsRow W.heap.size 3 1 v3 N.length (ivs N)
  own2 : Y.ownsRow W.heap.size 9 1 v4 M.length (svs M)
  bel : Below w.heap.size w Y
theorem rowAt_mk2 {w W Z Y : World} {s : Stp} {v0 v3 v4 : Value} {N : List Int} {M : List ByteArray}
    (h0 : Y.heap[w.heap.size]? = some (.cells #[.string s.ref, .string s.old, .string s.new, v3, v0] 25 (0, 0)))
    (h1 : Y.heap[w.heap.size + 1]? = some (.cells #[.string ⟨#[]⟩, .string ⟨#[]⟩, .string ⟨#[]⟩, .slice none 0 0, .slice none 0 0] 25 (0, 0)))
    (hw : Below w.heap.size w Z) (hz : W.heap.size ≤ Z.heap.size) (hb : Below Z.heap.size Z Y) (ho : Y.ownsRow W.heap.size 3 1 v3 N.length (ivs N)) (ho2 : Y.ownsRow Z.heap.size 9 1 v4 M.length (svs M)) (hg : w.heap.size + 2 ≤ W.heap.size) :
    RowAt2 w W (Y.setCell ⟨w.heap.size, 4, none⟩ v4) s v3 v4 N M := by
  refine ⟨?_, ?_, ?_, ?_, ?_⟩
  · rw [heap_setCell_same _ _ _ _ _ _ h0]; rfl
  · rw [heap_setCell_other _ _ _ _ (by simp)]; exact h1
  · exact owns_setCell ho (fun k => by have := (ho.lt _ k).1; dsimp only at this; omega) _
  · exact owns_setCell (owns_base ho2 hz) (fun k => by have := (ho2.lt _ k).1; dsimp only at this; omega) _
  · exact (hw.trans (hb.mono hw.size)).setCell (Nat.le_refl _) _
section
variable {sl : ByteArray → ByteArray → ByteArray} {s : Stp} {at_ who : Int} {key : ByteArray}
theorem signF_1 (h : goodS s ≠ 0) : signF sl s at_ who key = (zeroStp, goodS s) := by unfold signF; rw [if_pos h]
theorem signF_2 (h : goodS s = 0) (h2 : (bodyF at_ s).2 ≠ 0) : signF sl s at_ who key = (zeroStp, (bodyF at_ s).2) := by unfold signF; rw [if_neg (fun k => k h), if_pos h2]
theorem signF_3 (h : goodS s = 0) (h2 : (bodyF at_ s).2 = 0) (h3 : who < 0 ∨ 8 ≤ who) : signF sl s at_ who key = (zeroStp, 3) := by unfold signF; rw [if_neg (fun k => k h), if_neg (fun k => k h2), if_pos h3]
theorem signF_4 (h : goodS s = 0) (h2 : (bodyF at_ s).2 = 0) (h3 : ¬ (who < 0 ∨ 8 ≤ who)) (h4 : s.who[whoK who s.who]? = some who) : signF sl s at_ who key = (zeroStp, 8) := by
  unfold signF; rw [if_neg (fun k => k h), if_neg (fun k => k h2), if_neg h3, if_pos h4]
theorem signF_5 (h : goodS s = 0) (h2 : (bodyF at_ s).2 = 0) (h3 : ¬ (who < 0 ∨ 8 ≤ who)) (h4 : ¬ s.who[whoK who s.who]? = some who) :
    signF sl s at_ who key = (⟨s.ref, s.old, s.new, insW (whoK who s.who) who s.who, insW (whoK who s.who) (sl key (bodyF at_ s).1) s.seals⟩, 0) := by
  unfold signF; rw [if_neg (fun k => k h), if_neg (fun k => k h2), if_neg h3, if_neg h4]
end
theorem getD_some {l : List Int} {k : Nat} {x : Int} (h : k < l.length) (e : l.getD k 0 = x) : l[k]? = some x := by
  rw [List.getD, List.getElem?_eq_getElem h] at e
  rw [List.getElem?_eq_getElem h, ← e]; rfl
theorem some_getD {l : List Int} {k : Nat} {x : Int} (h : k < l.length) (e : l[k]? = some x) : l.getD k 0 = x := by
  rw [List.getD, e]; rfl
def RetStp (w : World) (r : Stp × Int) (e : Ending) (w' : World) : Prop :=
  ∃ vw vs, e = .returned (.tuple #[.agg #[.string r.1.ref, .string r.1.old, .string r.1.new, vw, vs], .int .i64 r.2]) ∧ w'.ownsRow w.heap.size 3 1 vw r.1.who.length (ivs r.1.who) ∧ w'.ownsRow w.heap.size 9 1 vs r.1.seals.length (svs r.1.seals) ∧ Below w.heap.size w w'
theorem whoK_lt : ∀ {l : List Int} {x : Int} {j : Nat}, j < whoK x l → l.getD j 0 < x
  | [], x, j, h => by simp [whoK] at h
  | y :: l, x, j, h => by
    by_cases e : y < x
    · have hk : whoK x (y :: l) = whoK x l + 1 := by simp [whoK, e]
      cases j with
      | zero => simpa using e
      | succ j => simpa using whoK_lt (l := l) (x := x) (j := j) (by omega)
    · have hk : whoK x (y :: l) = 0 := by simp [whoK, e]
      omega
theorem whoK_stop : ∀ {l : List Int} {x : Int}, whoK x l < l.length → ¬ l.getD (whoK x l) 0 < x
  | [], x, h => by simp at h
  | y :: l, x, h => by
    by_cases e : y < x
    · have hk : whoK x (y :: l) = whoK x l + 1 := by simp [whoK, e]
      rw [hk] at h ⊢
      simpa using whoK_stop (l := l) (x := x) (by simpa using h)
    · have hk : whoK x (y :: l) = 0 := by simp [whoK, e]
      rw [hk]
      simpa using e
set_option maxRecDepth 100000 in
set_option maxHeartbeats 3200000 in
theorem signStp_any (s : Stp) (at_ who : Int) (key : ByteArray) (vw vs : Value) (w : World) (hw : rdI w vw s.who) (hs : rdS w vs s.seals) (hk : key.size ≤ 140737488355328) (ht : Tab w) :
    Calls Tryd.prog 11 #[.agg #[.string s.ref, .string s.old, .string s.new, vw, vs], .int .i64 at_, .int .i64 who, .string key] w (RetStp w (signF sealF s at_ who key)) := by
  obtain ⟨F, hF⟩ : ∃ F, F = signF sealF s at_ who key := ⟨_, rfl⟩
  rw [← hF]
  have HF := Lib.hid hF
  have HW := Lib.hid hw
  have HS := Lib.hid hs
  have HT := Lib.hid ht
  have HKS := Lib.hid hk
  obtain ⟨ae, ce, rfl⟩ := rd_form hw
  obtain ⟨af, cf, rfl⟩ := rd_form hs
  clear hF hw hs ht hk
  obtain ⟨W, hW⟩ : ∃ W, (w.alloc (.cells #[.string s.ref, .string s.old, .string s.new, .slice ae s.who.length ce, .slice af s.seals.length cf] 25)).alloc (.cells #[.string ⟨#[]⟩, .string ⟨#[]⟩, .string ⟨#[]⟩, .slice none 0 0, .slice none 0 0] 25) = W := ⟨_, rfl⟩
  have hbW : Below w.heap.size w W := by rw [← hW]; exact ((Below.refl _ _).alloc (Nat.le_refl _) _).alloc (by simp) _
  have g0 : W.heap[w.heap.size]? = some (.cells #[.string s.ref, .string s.old, .string s.new, .slice ae s.who.length ce, .slice af s.seals.length cf] 25 (0, 0)) := by rw [← hW]; exact (Below.heap_alloc _ _ _ (by simp)).trans (heap_alloc_new _ _)
  have g1 : W.heap[w.heap.size + 1]? = some (.cells #[.string ⟨#[]⟩, .string ⟨#[]⟩, .string ⟨#[]⟩, .slice none 0 0, .slice none 0 0] 25 (0, 0)) := by rw [← hW]; have := heap_alloc_new (w.alloc (.cells #[.string s.ref, .string s.old, .string s.new, .slice ae s.who.length ce, .slice af s.seals.length cf] 25)) (.cells #[.string ⟨#[]⟩, .string ⟨#[]⟩, .string ⟨#[]⟩, .slice none 0 0, .slice none 0 0] 25); simpa using this
  have HBW := Lib.hid hbW
  have HGE := Lib.hid (show w.heap.size + 2 ≤ W.heap.size by rw [← hW]; simp)
  have HG0 := Lib.hid (fun w' (h : Below W.heap.size W w') => blk_below g0 h)
  have HG1 := Lib.hid (fun w' (h : Below W.heap.size W w') => blk_below g1 h)
  have HGD := Lib.hid (goodStp_any s (.slice ae s.who.length ce) (.slice af s.seals.length cf) W (HW.out.below HBW.out) (HS.out.below HBW.out))
  obtain ⟨c0, c1, c2, c3, c4, z3, z4⟩ := stp_cells g0
  clear hbW g0 g1
  obtain ⟨eg, heg⟩ : ∃ eg, eg = goodS s := ⟨_, rfl⟩
  rw [← heg] at HGD
  by_cases hgz : eg = 0
  · subst hgz
    have HG0S := Lib.hid heg.symm
    have hh := (goodS_inv heg.symm).1
    have HHD := Lib.hid hh
    have HBD := Lib.hid (fun wr => bodyStp_any at_ s (.slice ae s.who.length ce) (.slice af s.seals.length cf) wr hh)
    have HLE := Lib.hid (show s.who.length ≤ 8 ∧ s.seals.length = s.who.length by have hb : ¬ (8 < s.who.length ∨ s.who.length ≠ s.seals.length) := fun hb => absurd (goodS_2 hh hb) (by rw [← heg]; decide); omega)
    have HBZ := Lib.hid (show (bodyF at_ s).1.size ≤ 140737488355328 by
      by_cases hat : at_ < 0 ∨ 200 ≤ at_
      · rw [bodyF_1 hat]; decide
      · rw [bodyF_2 hat]
        show (bodyL at_.toNat s).toArray.size ≤ _
        have := body_length (n := at_.toNat) (by omega) hh
        simp only [List.size_toArray]; omega)
    obtain ⟨bd, hbd⟩ : ∃ bd, bd = (bodyF at_ s).1 := ⟨_, rfl⟩
    obtain ⟨eb, heb⟩ : ∃ eb, eb = (bodyF at_ s).2 := ⟨_, rfl⟩
    rw [← hbd] at HBZ
    rw [← hbd, ← heb] at HBD
    have HBS := HBZ
    have HBDD := Lib.hid hbd
    clear heg hh hbd
    by_cases hbz : eb = 0
    · subst hbz
      have HBDS := Lib.hid heb.symm
      clear heb
      by_cases hr : who < 0 ∨ 8 ≤ who
      · have hF := HF.out.trans (signF_3 HG0S.out HBDS.out hr)
        subst hF
        by_cases h0 : who < 0
        · have r0 : decide (who < 0) = true := decide_eq_true h0
          go_enter Tryd.func11, Tryd.ntmps11
          go_wp2_with fail
          (with_reducible refine HGD.out.mono ?_)
          rintro e w1 ⟨rfl, hb⟩
          have HB1 := Lib.hid hb
          clear hb c0 c1 c2 c3 c4 z3 z4
          obtain ⟨c0, c1, c2, c3, c4, z3, z4⟩ := stp_cells (HG0.out _ HB1.out)
          go_wp2_with fail
          (with_reducible refine (HBD.out w1).mono ?_)
          rintro e w2 ⟨rfl, hb⟩
          have HB2 := Lib.hid (HB1.out.trans (hb.mono HB1.out.size))
          clear hb c0 c1 c2 c3 c4 z3 z4
          obtain ⟨c0, c1, c2, c3, c4, z3, z4⟩ := stp_cells (HG0.out _ HB2.out)
          go_wp2_with (refine wpList_store_blk (by rfl) 25 (.tmp 8) (.tmp 36) rfl (w.heap.size + 1) #[.string ⟨#[]⟩, .string ⟨#[]⟩, .string ⟨#[]⟩, .slice none 0 0, .slice none 0 0] rfl rfl (HG1.out _ HB2.out) (by kernel_rfl) rfl (by simp [Value.oneCell']) ?_; intro wz hgz huz)
          obtain ⟨e0, e1, e2, e3, e4, _, _⟩ := stp_cells hgz
          refine bodyPost_ret (v := .tuple #[.agg #[.string ⟨#[]⟩, .string ⟨#[]⟩, .string ⟨#[]⟩, .slice none 0 0, .slice none 0 0], .int .i64 (3)]) ?_ rfl ⟨.slice none 0 0, .slice none 0 0, rfl, World.ownsRow_nil _ _ _ _, World.ownsRow_nil _ _ _ _, below_upd (HBW.out.trans (HB2.out.mono HBW.out.size)) huz (Nat.le_succ _) (Nat.le_trans HBW.out.size HB2.out.size)⟩
          simp [results, Tryd.f11, go_sem, e0, e1, e2, e3, e4]
        · have r0 : decide (who < 0) = false := decide_eq_false h0
          have r8 : decide (8 ≤ who) = true := decide_eq_true (by omega)
          go_enter Tryd.func11, Tryd.ntmps11
          go_wp2_with fail
          (with_reducible refine HGD.out.mono ?_)
          rintro e w1 ⟨rfl, hb⟩
          have HB1 := Lib.hid hb
          clear hb c0 c1 c2 c3 c4 z3 z4
          obtain ⟨c0, c1, c2, c3, c4, z3, z4⟩ := stp_cells (HG0.out _ HB1.out)
          go_wp2_with fail
          (with_reducible refine (HBD.out w1).mono ?_)
          rintro e w2 ⟨rfl, hb⟩
          have HB2 := Lib.hid (HB1.out.trans (hb.mono HB1.out.size))
          clear hb c0 c1 c2 c3 c4 z3 z4
          obtain ⟨c0, c1, c2, c3, c4, z3, z4⟩ := stp_cells (HG0.out _ HB2.out)
          go_wp2_with (refine wpList_store_blk (by rfl) 25 (.tmp 8) (.tmp 36) rfl (w.heap.size + 1) #[.string ⟨#[]⟩, .string ⟨#[]⟩, .string ⟨#[]⟩, .slice none 0 0, .slice none 0 0] rfl rfl (HG1.out _ HB2.out) (by kernel_rfl) rfl (by simp [Value.oneCell']) ?_; intro wz hgz huz)
          obtain ⟨e0, e1, e2, e3, e4, _, _⟩ := stp_cells hgz
          refine bodyPost_ret (v := .tuple #[.agg #[.string ⟨#[]⟩, .string ⟨#[]⟩, .string ⟨#[]⟩, .slice none 0 0, .slice none 0 0], .int .i64 (3)]) ?_ rfl ⟨.slice none 0 0, .slice none 0 0, rfl, World.ownsRow_nil _ _ _ _, World.ownsRow_nil _ _ _ _, below_upd (HBW.out.trans (HB2.out.mono HBW.out.size)) huz (Nat.le_succ _) (Nat.le_trans HBW.out.size HB2.out.size)⟩
          simp [results, Tryd.f11, go_sem, e0, e1, e2, e3, e4]
      · have r0 : decide (who < 0) = false := decide_eq_false (by omega)
        have r8 : decide (8 ≤ who) = false := decide_eq_false (by omega)
        have HRG := Lib.hid hr
        clear hr
        go_enter Tryd.func11, Tryd.ntmps11
        go_wp2_with fail
        (with_reducible refine HGD.out.mono ?_)
        rintro e w1 ⟨rfl, hb⟩
        have HB1 := Lib.hid hb
        clear hb c0 c1 c2 c3 c4 z3 z4
        obtain ⟨c0, c1, c2, c3, c4, z3, z4⟩ := stp_cells (HG0.out _ HB1.out)
        go_wp2_with fail
        (with_reducible refine (HBD.out w1).mono ?_)
        rintro e w2 ⟨rfl, hb⟩
        have HB2 := Lib.hid (HB1.out.trans (hb.mono HB1.out.size))
        clear hb c0 c1 c2 c3 c4 z3 z4
        obtain ⟨c0, c1, c2, c3, c4, z3, z4⟩ := stp_cells (HG0.out _ HB2.out)
        have HKL := Lib.hid (whoK_le who s.who)
        have HLT := Lib.hid (fun j (h : j < whoK who s.who) => whoK_lt h)
        have HST := Lib.hid (fun h : whoK who s.who < s.who.length => whoK_stop h)
        obtain ⟨N, hN⟩ : ∃ N, N = insW (whoK who s.who) who s.who := ⟨_, rfl⟩
        obtain ⟨M, hM⟩ : ∃ M, M = insW (whoK who s.who) (sealF key bd) s.seals := ⟨_, rfl⟩
        have HNM := Lib.hid (And.intro hN hM)
        clear hN hM
        obtain ⟨kk, hkk⟩ : ∃ kk, kk = whoK who s.who := ⟨_, rfl⟩
        rw [← hkk] at HKL HLT HST HNM
        have HKK := Lib.hid hkk
        have HWR := Lib.hid (fun wr (h : Below W.heap.size W wr) => HW.out.below (HBW.out.trans (h.mono HBW.out.size)))
        go_wp2_with fail
        clear hkk c0 c1 c2 c3 c4 z3 z4
        go_loopw [13] (fun j wr => ∃ k : Nat, k ≤ kk ∧ j = .int .i64 (k : Int) ∧ Hid (Below W.heap.size W wr)) (fun j _ => kk - (intOf j).toNat)
        case atStart => exact ⟨0, Nat.zero_le _, rfl, HB2⟩
        case round =>
          clear HB1 HB2
          obtain ⟨k, hk, rfl, HB9⟩ := hrel
          have HK8 := Lib.hid (show kk ≤ 8 by have h1 := HKL.out; have h2 := HLE.out; omega)
          obtain ⟨c0, c1, c2, c3, c4, z3, z4⟩ := stp_cells (HG0.out _ HB9.out)
          by_cases hl : k < s.who.length
          · have hkl : decide ((k : Int) < (s.who.length : Int)) = true := decide_eq_true (by omega)
            have hki : (k : Int) < (s.who.length : Int) := by omega
            have hk0 : (0 : Int) ≤ (k : Int) := by omega
            obtain ⟨b, off, hae, hbl, hcw⟩ := rdI_at (HWR.out _ HB9.out) (by omega)
            subst hae
            have d0 := hcw k hl
            obtain ⟨x, hx⟩ : ∃ x, x = s.who.getD k 0 := ⟨_, rfl⟩
            rw [← hx] at d0
            have HX := Lib.hid hx
            clear hbl hcw hx
            by_cases hlt : k < kk
            · have xb : decide (x < who) = true := decide_eq_true (by rw [HX.out]; exact HLT.out k hlt)
              have HKLT := Lib.hid hlt
              clear hlt hl
              have hw1 : wrap64 ((k : Int) + 1) = (k : Int) + 1 := IntWalk.wrap64_in _ (by have := HK8.out; omega)
              go_wp2_with fail
              go_roundw
              case rel => exact ⟨k + 1, by have := HKLT.out; omega, by first | rfl | (rw [hw1]; rfl), HB9⟩
              case measure => exact meas_step _ (by first | rfl | exact hw1) HKLT.out
            · have hkk : kk = k := by omega
              subst hkk
              have HNX := Lib.hid (show ¬ x < who by rw [HX.out]; exact Int.not_lt.2 (HST.out hl))
              have xb : decide (x < who) = false := decide_eq_false HNX.out
              by_cases he : x = who
              · have hF := HF.out.trans (signF_4 HG0S.out HBDS.out HRG.out (by rw [← HKK.out]; exact getD_some hl (HX.out.symm.trans he)))
                subst hF
                have xe : (x == who) = true := beq_iff_eq.2 he
                clear he hl hlt
                go_wp2_with (refine wpList_store_blk (by rfl) 25 (.tmp 8) (.tmp 67) rfl (w.heap.size + 1) #[.string ⟨#[]⟩, .string ⟨#[]⟩, .string ⟨#[]⟩, .slice none 0 0, .slice none 0 0] rfl rfl (HG1.out _ HB9.out) (by kernel_rfl) rfl (by simp [Value.oneCell']) ?_; intro wz hgz huz)
                obtain ⟨e0, e1, e2, e3, e4, _, _⟩ := stp_cells hgz
                refine bodyPost_ret (v := .tuple #[.agg #[.string ⟨#[]⟩, .string ⟨#[]⟩, .string ⟨#[]⟩, .slice none 0 0, .slice none 0 0], .int .i64 (8)]) ?_ rfl ⟨.slice none 0 0, .slice none 0 0, rfl, World.ownsRow_nil _ _ _ _, World.ownsRow_nil _ _ _ _, below_upd (HBW.out.trans (HB9.out.mono HBW.out.size)) huz (Nat.le_succ _) (Nat.le_trans HBW.out.size HB9.out.size)⟩
                simp [results, Tryd.f11, go_sem, e0, e1, e2, e3, e4]
              · have HTW := Lib.hid (show ¬ s.who[whoK who s.who]? = some who by rw [← HKK.out]; exact fun e => he (HX.out.trans (some_getD hl e)))
                have xe : (x == who) = false := beq_eq_false_iff_ne.2 he
                clear he hlt
                have hF := HF.out.trans (signF_5 HG0S.out HBDS.out HRG.out HTW.out)
                rw [← HBDD.out, ← HKK.out, ← HNM.out.1, ← HNM.out.2] at hF
                subst hF
                have HK2 := Lib.hid (show kk ≤ s.who.length ∧ kk ≤ s.seals.length by have h1 := HKL.out; have h2 := HLE.out; omega)
                obtain ⟨v1, hv1, r1⟩ := rdI_to (HWR.out W (Below.refl _ _)) kk HK2.out.1
                obtain ⟨v2, hv2, r2⟩ := rdI_from (HWR.out W (Below.refl _ _)) kk HK2.out.1
                have E1 := Lib.hid hv1
                have E2 := Lib.hid hv2
                have R1 := Lib.hid (fun w' (h : Below W.heap.size W w') => r1.below h)
                have R2 := Lib.hid (fun w' (h : Below W.heap.size W w') => r2.below h)
                have HL1 := Lib.hid (show (s.who.take kk).length ≤ 8 ∧ (s.seals.take kk).length ≤ 8 by have h1 := HLE.out; rw [List.length_take, List.length_take]; omega)
                have HL2 := Lib.hid (show (s.who.drop kk).length ≤ 8 ∧ (s.seals.drop kk).length ≤ 8 by have h1 := HLE.out; rw [List.length_drop, List.length_drop]; omega)
                have HLEN := Lib.hid (show 0 + (s.who.take kk).length + 1 + (s.who.drop kk).length = N.length by rw [HNM.out.1]; simp [insW]; omega)
                have HIV := Lib.hid (show [] ++ ivs (s.who.take kk) ++ [Value.int .i64 who] ++ ivs (s.who.drop kk) = ivs N by rw [HNM.out.1]; simp [insW, ivs])
                have HLEN2 := Lib.hid (show 0 + (s.seals.take kk).length + 1 + (s.seals.drop kk).length = M.length by rw [HNM.out.2]; simp [insW]; omega)
                have HSV := Lib.hid (show [] ++ svs (s.seals.take kk) ++ [Value.string (sealF key bd)] ++ svs (s.seals.drop kk) = svs M by rw [HNM.out.2]; simp [insW, svs])
                clear hv1 hv2 r1 r2
                go_wp2_with fail
                refine Twin.wp_region_order (.q 0 (.q 1 (.q 2 (.q 3 (.q 5 (.q 8 (.q 9 (.q 10 (.q 11 (.l2 4 6 (.l 6 (.l 7 (.l 12 (.q 13 (.l 14 .nil))))) (.l 4 (.l 7 (.l 12 (.q 13 (.l 14 .nil))))))))))))))) (fun w' => w'.cell? ⟨w.heap.size, 3, none⟩ = some (.slice (some ⟨b, off, none⟩) s.who.length ce)) (by kernel_rfl) (by kernel_rfl) rfl (by kernel_rfl) (by intro _ _ d _ _ h; cases d <;> exact h) (c3) ?_; simp only [Twin.Ord.opers, List.getElem?_toArray, List.getElem?_cons_zero, List.getElem?_cons_succ, Option.getD_some]
                repeat (first | (refine Twin.ro_q (by rfl) (v := ?_) ?_ ?_; rotate_left; (focus (intro w' hSw; (try dsimp only at hSw); go_simp; try with_reducible rfl)); simp only [Act.put, List.setIfInBounds_toArray, List.set_cons_zero, List.set_cons_succ]) | (refine Twin.ro_skip (by rfl) ?_; simp only [Act.put, List.setIfInBounds_toArray, List.set_cons_zero, List.set_cons_succ]))
                refine Twin.ro_q (by rfl) (v := v1) (fun w' hSw => by simp only [execOp, Act.eval, List.getElem?_toArray, List.getElem?_cons_zero, List.getElem?_cons_succ, Array.getD_eq_getD_getElem?, Option.getD_some, Option.map_some, Option.map_none, Sem.run_bind, E1.out, Result.andThen, Sem.run_pure]) ?_; simp only [Act.put, List.setIfInBounds_toArray, List.set_cons_zero, List.set_cons_succ]
                repeat (first | (refine Twin.ro_q (by rfl) (v := ?_) ?_ ?_; rotate_left; (focus (intro w' hSw; (try dsimp only at hSw); go_simp; try with_reducible rfl)); simp only [Act.put, List.setIfInBounds_toArray, List.set_cons_zero, List.set_cons_succ]) | (refine Twin.ro_skip (by rfl) ?_; simp only [Act.put, List.setIfInBounds_toArray, List.set_cons_zero, List.set_cons_succ]))
                refine Twin.ro_q (by rfl) (v := v2) (fun w' hSw => by simp only [execOp, Act.eval, List.getElem?_toArray, List.getElem?_cons_zero, List.getElem?_cons_succ, Array.getD_eq_getD_getElem?, Option.getD_some, Option.map_some, Option.map_none, Sem.run_bind, E2.out, Result.andThen, Sem.run_pure]) ?_; simp only [Act.put, List.setIfInBounds_toArray, List.set_cons_zero, List.set_cons_succ]
                repeat (first | (refine Twin.ro_q (by rfl) (v := ?_) ?_ ?_; rotate_left; (focus (intro w' hSw; (try dsimp only at hSw); go_simp; try with_reducible rfl)); simp only [Act.put, List.setIfInBounds_toArray, List.set_cons_zero, List.set_cons_succ]) | (refine Twin.ro_skip (by rfl) ?_; simp only [Act.put, List.setIfInBounds_toArray, List.set_cons_zero, List.set_cons_succ]))
                clear c0 c1 c2 c3 c4 z3 z4
                refine Twin.ro_two ?_ ?_
                focus (
                  skip
                  (refine Twin.ro_loud (by rfl) (fun K hK => ?_))
                  refine wp_append_rd ((.const (.slice none 0 0))) ((.tmp 71)) 22 rfl info_int Tryd.underlying22 rfl (by decide) (by decide) (World.ownsRow_nil _ _ _ _) (HB9.out.drew) (Nat.le_refl _) (HB9.out.drew).size (R1.out _ HB9.out.drew) (ivs_one _) (by have := HL1.out; have := HL2.out; omega) rfl rfl ?_
                  intro v4 w4 ow4 b4
                  have q3 := (stp_cells (HG0.out _ b4)).2.2.2.1
                  (refine hK.out _ _ (fun w' => w'.cell? ⟨w.heap.size, 3, none⟩ = some (.slice (some ⟨b, off, none⟩) s.who.length ce)) (.inl fun _ h => h) (q3) ?_; clear hK K; try simp only [Act.put, List.setIfInBounds_toArray, List.set_cons_zero, List.set_cons_succ])
                  (refine Twin.ro_loud (by rfl) (fun K hK => ?_); go_simp)
                  have ow6 := ow4.alloc (.cells #[.int .i64 who] 3)
                  have r6 := rdI_one (heap_alloc_new w4 (.cells #[.int .i64 who] 3))
                  have b6 := b4.alloc b4.size (.cells #[.int .i64 who] 3)
                  have q3 := (stp_cells (HG0.out _ b6)).2.2.2.1
                  (refine hK.out _ _ (fun w' => w'.cell? ⟨w.heap.size, 3, none⟩ = some (.slice (some ⟨b, off, none⟩) s.who.length ce)) (.inl fun _ h => h) (q3) ?_; clear hK K; try simp only [Act.put, List.setIfInBounds_toArray, List.set_cons_zero, List.set_cons_succ])
                  clear ow4 b4
                  (refine Twin.ro_loud (by rfl) (fun K hK => ?_))
                  refine wp_append_rd (.tmp 72) (.tmp 74) 22 rfl info_int Tryd.underlying22 rfl (by decide) (by decide) (ow6) (b6) (Nat.le_refl _) (b6).size (r6) ((fun y hy => by obtain rfl := List.mem_singleton.1 hy; rfl)) (by have := HL1.out; have := HL2.out; omega) rfl rfl ?_
                  intro v7 w7 ow7 b7
                  have q3 := (stp_cells (HG0.out _ b7)).2.2.2.1
                  (refine hK.out _ _ (fun w' => w'.cell? ⟨w.heap.size, 3, none⟩ = some (.slice (some ⟨b, off, none⟩) s.who.length ce)) (.inl fun _ h => h) (q3) ?_; clear hK K; try simp only [Act.put, List.setIfInBounds_toArray, List.set_cons_zero, List.set_cons_succ])
                  clear ow6 b6 r6
                  (refine Twin.ro_loud (by rfl) (fun K hK => ?_))
                  refine wp_append_rd (.tmp 75) (.tmp 79) 22 rfl info_int Tryd.underlying22 rfl (by decide) (by decide) (ow7) (b7) (Nat.le_refl _) (b7).size (R2.out _ b7) (ivs_one _) (by have := HL1.out; have := HL2.out; omega) rfl rfl ?_
                  intro v8 w8 ow8 b8
                  obtain ⟨q0, q1, q2, q3, q4, y3, y4⟩ := stp_cells (HG0.out _ b8)
                  (refine hK.out _ _ (fun w' => w'.cell? ⟨w.heap.size, 3, none⟩ = some (.slice (some ⟨b, off, none⟩) s.who.length ce)) (.inl fun _ h => h) (q3) ?_; clear hK K; try simp only [Act.put, List.setIfInBounds_toArray, List.set_cons_zero, List.set_cons_succ])
                  rw [HLEN.out, HIV.out] at ow8
                  obtain ⟨a8, k8, rfl⟩ := rd_form (rdI_owns ow8)
                  repeat (first | (refine Twin.ro_q (by rfl) (v := ?_) ?_ ?_; rotate_left; (focus (intro w' hSw; (try dsimp only at hSw); go_simp; try with_reducible rfl)); simp only [Act.put, List.setIfInBounds_toArray, List.set_cons_zero, List.set_cons_succ]) | (refine Twin.ro_skip (by rfl) ?_; simp only [Act.put, List.setIfInBounds_toArray, List.set_cons_zero, List.set_cons_succ]))
                  (refine Twin.ro_loud (by rfl) (fun K hK => ?_); go_simp)
                  (refine hK.out _ _ (fun _ => True) (.inr (by kernel_rfl)) trivial ?_; clear hK K; try simp only [Act.put, List.setIfInBounds_toArray, List.set_cons_zero, List.set_cons_succ])
                  refine Twin.ro_nil ?_
                  have H8 := Lib.hid (rowAt_mk (s := s) (HG0.out _ b8) (HG1.out _ b8) HBW.out b8 ow8 HGE.out)
                  obtain ⟨Z, hZ⟩ : ∃ Z, w8.setCell ⟨w.heap.size, 3, none⟩ (.slice a8 N.length k8) = Z := ⟨_, rfl⟩
                  rw [hZ] at H8
                  try rw [hZ]
                  clear hZ b8 ow8 ow7 b7 q0 q1 q2 q3 q4 y3 y4)
                rotate_left
                focus (
                  skip
                  (refine Twin.ro_loud (by rfl) (fun K hK => ?_); go_simp)
                  have b5 := HB9.out.drew.alloc HB9.out.drew.size (.cells #[.int .i64 who] 3)
                  have g5 := rdI_one (heap_alloc_new wr.drew (.cells #[.int .i64 who] 3))
                  have q3 := (stp_cells (HG0.out _ b5)).2.2.2.1
                  (refine hK.out _ _ (fun w' => w'.cell? ⟨w.heap.size, 3, none⟩ = some (.slice (some ⟨b, off, none⟩) s.who.length ce)) (.inl fun _ h => h) (q3) ?_; clear hK K; try simp only [Act.put, List.setIfInBounds_toArray, List.set_cons_zero, List.set_cons_succ])
                  (refine Twin.ro_loud (by rfl) (fun K hK => ?_))
                  refine wp_append_rd ((.const (.slice none 0 0))) ((.tmp 71)) 22 rfl info_int Tryd.underlying22 rfl (by decide) (by decide) (World.ownsRow_nil _ _ _ _) (Below.refl ((wr.drew.alloc (.cells #[.int .i64 who] 3))).heap.size (wr.drew.alloc (.cells #[.int .i64 who] 3))) (Nat.le_refl _) (Below.refl ((wr.drew.alloc (.cells #[.int .i64 who] 3))).heap.size (wr.drew.alloc (.cells #[.int .i64 who] 3))).size (R1.out _ b5) (ivs_one _) (by have := HL1.out; have := HL2.out; omega) rfl rfl ?_
                  intro v4 w6 ow4 b4
                  have b6 := b5.trans (b4.mono b5.size)
                  have ow6 := owns_base ow4 b5.size
                  have r6 := rdRow.below g5 b4
                  have q3 := (stp_cells (HG0.out _ b6)).2.2.2.1
                  (refine hK.out _ _ (fun w' => w'.cell? ⟨w.heap.size, 3, none⟩ = some (.slice (some ⟨b, off, none⟩) s.who.length ce)) (.inl fun _ h => h) (q3) ?_; clear hK K; try simp only [Act.put, List.setIfInBounds_toArray, List.set_cons_zero, List.set_cons_succ])
                  clear ow4 b4 b5 g5
                  (refine Twin.ro_loud (by rfl) (fun K hK => ?_))
                  refine wp_append_rd (.tmp 72) (.tmp 74) 22 rfl info_int Tryd.underlying22 rfl (by decide) (by decide) (ow6) (b6) (Nat.le_refl _) (b6).size (r6) ((fun y hy => by obtain rfl := List.mem_singleton.1 hy; rfl)) (by have := HL1.out; have := HL2.out; omega) rfl rfl ?_
                  intro v7 w7 ow7 b7
                  have q3 := (stp_cells (HG0.out _ b7)).2.2.2.1
                  (refine hK.out _ _ (fun w' => w'.cell? ⟨w.heap.size, 3, none⟩ = some (.slice (some ⟨b, off, none⟩) s.who.length ce)) (.inl fun _ h => h) (q3) ?_; clear hK K; try simp only [Act.put, List.setIfInBounds_toArray, List.set_cons_zero, List.set_cons_succ])
                  clear ow6 b6 r6
                  (refine Twin.ro_loud (by rfl) (fun K hK => ?_))
                  refine wp_append_rd (.tmp 75) (.tmp 79) 22 rfl info_int Tryd.underlying22 rfl (by decide) (by decide) (ow7) (b7) (Nat.le_refl _) (b7).size (R2.out _ b7) (ivs_one _) (by have := HL1.out; have := HL2.out; omega) rfl rfl ?_
                  intro v8 w8 ow8 b8
                  obtain ⟨q0, q1, q2, q3, q4, y3, y4⟩ := stp_cells (HG0.out _ b8)
                  (refine hK.out _ _ (fun w' => w'.cell? ⟨w.heap.size, 3, none⟩ = some (.slice (some ⟨b, off, none⟩) s.who.length ce)) (.inl fun _ h => h) (q3) ?_; clear hK K; try simp only [Act.put, List.setIfInBounds_toArray, List.set_cons_zero, List.set_cons_succ])
                  rw [HLEN.out, HIV.out] at ow8
                  obtain ⟨a8, k8, rfl⟩ := rd_form (rdI_owns ow8)
                  repeat (first | (refine Twin.ro_q (by rfl) (v := ?_) ?_ ?_; rotate_left; (focus (intro w' hSw; (try dsimp only at hSw); go_simp; try with_reducible rfl)); simp only [Act.put, List.setIfInBounds_toArray, List.set_cons_zero, List.set_cons_succ]) | (refine Twin.ro_skip (by rfl) ?_; simp only [Act.put, List.setIfInBounds_toArray, List.set_cons_zero, List.set_cons_succ]))
                  (refine Twin.ro_loud (by rfl) (fun K hK => ?_); go_simp)
                  (refine hK.out _ _ (fun _ => True) (.inr (by kernel_rfl)) trivial ?_; clear hK K; try simp only [Act.put, List.setIfInBounds_toArray, List.set_cons_zero, List.set_cons_succ])
                  refine Twin.ro_nil ?_
                  have H8 := Lib.hid (rowAt_mk (s := s) (HG0.out _ b8) (HG1.out _ b8) HBW.out b8 ow8 HGE.out)
                  obtain ⟨Z, hZ⟩ : ∃ Z, w8.setCell ⟨w.heap.size, 3, none⟩ (.slice a8 N.length k8) = Z := ⟨_, rfl⟩
                  rw [hZ] at H8
                  try rw [hZ]
                  clear hZ b8 ow8 ow7 b7 q0 q1 q2 q3 q4 y3 y4)
                all_goals (
                  obtain ⟨HN8, HO8, HOW8, HBE8, HSZ8, HGL8⟩ := H8.out
                  have HG2 := Lib.hid (fun wr (h : Below Z.heap.size Z wr) => blk_below HN8 h)
                  have HG3 := Lib.hid (fun wr (h : Below Z.heap.size Z wr) => blk_below HO8 h)
                  have HT8 := Lib.hid (fun wr (h : Below Z.heap.size Z wr) => HT.out.below (HBE8.trans (h.mono HBE8.size)))
                  have RS := Lib.hid (fun wr (h : Below Z.heap.size Z wr) => HS.out.below (HBE8.trans (h.mono HBE8.size)))
                  obtain ⟨v1, hv1, r1⟩ := rdS_to (RS.out Z (Below.refl _ _)) kk (by have := HK2.out; omega)
                  obtain ⟨v2, hv2, r2⟩ := rdS_from (RS.out Z (Below.refl _ _)) kk (by have := HK2.out; omega)
                  have F1 := Lib.hid hv1
                  have F2 := Lib.hid hv2
                  have T1 := Lib.hid (fun wr (h : Below Z.heap.size Z wr) => rdS.below r1 h)
                  have T2 := Lib.hid (fun wr (h : Below Z.heap.size Z wr) => rdS.below r2 h)
                  have HW8 := Lib.hid HOW8
                  have HE8 := Lib.hid HBE8
                  have HZ8 := Lib.hid HSZ8
                  clear hv1 hv2 r1 r2 HOW8 HBE8 HSZ8
                  obtain ⟨c0, c1, c2, c3, c4, z3, z4⟩ := stp_cells (HG2.out _ (Below.refl _ _).drew)
                  clear HN8 HO8
                  go_wp2_with fail
                  refine Lone.wp_region_order [(0, false), (1, false), (2, false), (3, false), (5, false), (6, false), (10, false), (11, false), (12, false), (13, false), (4, true), (7, true), (8, true), (9, true), (14, true), (15, false), (16, true)] (fun w' => w'.cell? ⟨w.heap.size, 4, none⟩ = some (.slice af s.seals.length cf)) (by kernel_rfl) (by kernel_rfl) rfl (by kernel_rfl) (by intro _ _ d _ _ h; cases d <;> exact h) (c4) ?_; simp only [List.map_cons, List.map_nil, List.getElem?_toArray, List.getElem?_cons_zero, List.getElem?_cons_succ, Option.getD_some]
                  repeat (first | (refine Lone.ro_q (by rfl) (v := ?_) ?_ ?_; rotate_left; (focus (intro w' hSw; (try dsimp only at hSw); go_simp; try with_reducible rfl)); simp only [Act.put, List.setIfInBounds_toArray, List.set_cons_zero, List.set_cons_succ]) | (refine Lone.ro_skip (by rfl) ?_; simp only [Act.put, List.setIfInBounds_toArray, List.set_cons_zero, List.set_cons_succ]))
                  refine Lone.ro_q (by rfl) (v := v1) (fun w' hSw => by simp only [execOp, Act.eval, List.getElem?_toArray, List.getElem?_cons_zero, List.getElem?_cons_succ, Array.getD_eq_getD_getElem?, Option.getD_some, Option.map_some, Option.map_none, Sem.run_bind, F1.out, Result.andThen, Sem.run_pure]) ?_; simp only [Act.put, List.setIfInBounds_toArray, List.set_cons_zero, List.set_cons_succ]
                  repeat (first | (refine Lone.ro_q (by rfl) (v := ?_) ?_ ?_; rotate_left; (focus (intro w' hSw; (try dsimp only at hSw); go_simp; try with_reducible rfl)); simp only [Act.put, List.setIfInBounds_toArray, List.set_cons_zero, List.set_cons_succ]) | (refine Lone.ro_skip (by rfl) ?_; simp only [Act.put, List.setIfInBounds_toArray, List.set_cons_zero, List.set_cons_succ]))
                  refine Lone.ro_q (by rfl) (v := v2) (fun w' hSw => by simp only [execOp, Act.eval, List.getElem?_toArray, List.getElem?_cons_zero, List.getElem?_cons_succ, Array.getD_eq_getD_getElem?, Option.getD_some, Option.map_some, Option.map_none, Sem.run_bind, F2.out, Result.andThen, Sem.run_pure]) ?_; simp only [Act.put, List.setIfInBounds_toArray, List.set_cons_zero, List.set_cons_succ]
                  clear c0 c1 c2 c3 c4 z3 z4
                  (refine Lone.ro_loud (by rfl) (fun K hK => ?_))
                  refine wp_append_rd ((.const (.slice none 0 0))) ((.tmp 85)) 23 rfl info_string Tryd.underlying23 rfl (by decide) (by decide) (World.ownsRow_nil _ _ _ _) ((Below.refl Z.heap.size Z).drew) (Nat.le_refl _) ((Below.refl Z.heap.size Z).drew).size (T1.out _ ((Below.refl Z.heap.size Z).drew)) (svs_one _) (by have := HL1.out; have := HL2.out; omega) rfl rfl ?_
                  intro u4 w4 ow4 b4
                  have q4 := (stp_cells (HG2.out _ b4)).2.2.2.2.1
                  (refine hK.out _ _ (fun w' => w'.cell? ⟨w.heap.size, 4, none⟩ = some (.slice af s.seals.length cf)) (.inl fun _ h => h) (q4) ?_; clear hK K; try simp only [Act.put, List.setIfInBounds_toArray, List.set_cons_zero, List.set_cons_succ])
                  (refine Lone.ro_loud (by rfl) (fun K hK => ?_); go_simp)
                  (with_reducible refine (seal_any key bd _ HBS.out HKS.out (HT8.out _ b4)).mono ?_)
                  rintro e w5 ⟨rfl, hb⟩
                  have b5 := b4.trans (hb.mono b4.size)
                  have ow5 := owns_below ow4 hb
                  have q4 := (stp_cells (HG2.out _ b5)).2.2.2.2.1
                  (refine hK.out _ _ (fun w' => w'.cell? ⟨w.heap.size, 4, none⟩ = some (.slice af s.seals.length cf)) (.inl fun _ h => h) (q4) ?_; clear hK K; try simp only [Act.put, List.setIfInBounds_toArray, List.set_cons_zero, List.set_cons_succ])
                  clear ow4 hb b4
                  (refine Lone.ro_loud (by rfl) (fun K hK => ?_); go_simp)
                  have ow6 := ow5.alloc (.cells #[.string (sealF key bd)] 9)
                  have r6 := rdS_one (heap_alloc_new w5 (.cells #[.string (sealF key bd)] 9))
                  have b6 := b5.alloc b5.size (.cells #[.string (sealF key bd)] 9)
                  have q4 := (stp_cells (HG2.out _ b6)).2.2.2.2.1
                  (refine hK.out _ _ (fun w' => w'.cell? ⟨w.heap.size, 4, none⟩ = some (.slice af s.seals.length cf)) (.inl fun _ h => h) (q4) ?_; clear hK K; try simp only [Act.put, List.setIfInBounds_toArray, List.set_cons_zero, List.set_cons_succ])
                  clear ow5 b5
                  (refine Lone.ro_loud (by rfl) (fun K hK => ?_))
                  refine wp_append_rd (.tmp 86) (.tmp 90) 23 rfl info_string Tryd.underlying23 rfl (by decide) (by decide) (ow6) (b6) (Nat.le_refl _) (b6).size (r6) ((fun y hy => by obtain rfl := List.mem_singleton.1 hy; rfl)) (by have := HL1.out; have := HL2.out; omega) rfl rfl ?_
                  intro v7 w7 ow7 b7
                  have q4 := (stp_cells (HG2.out _ b7)).2.2.2.2.1
                  (refine hK.out _ _ (fun w' => w'.cell? ⟨w.heap.size, 4, none⟩ = some (.slice af s.seals.length cf)) (.inl fun _ h => h) (q4) ?_; clear hK K; try simp only [Act.put, List.setIfInBounds_toArray, List.set_cons_zero, List.set_cons_succ])
                  clear ow6 b6 r6
                  (refine Lone.ro_loud (by rfl) (fun K hK => ?_))
                  refine wp_append_rd (.tmp 91) (.tmp 95) 23 rfl info_string Tryd.underlying23 rfl (by decide) (by decide) (ow7) (b7) (Nat.le_refl _) (b7).size (T2.out _ b7) (svs_one _) (by have := HL1.out; have := HL2.out; omega) rfl rfl ?_
                  intro v9 w9 ow9 b9
                  obtain ⟨q0, q1, q2, q3, q4, y3, y4⟩ := stp_cells (HG2.out _ b9)
                  (refine hK.out _ _ (fun w' => w'.cell? ⟨w.heap.size, 4, none⟩ = some (.slice af s.seals.length cf)) (.inl fun _ h => h) (q4) ?_; clear hK K; try simp only [Act.put, List.setIfInBounds_toArray, List.set_cons_zero, List.set_cons_succ])
                  rw [HLEN2.out, HSV.out] at ow9
                  obtain ⟨a9, k9, rfl⟩ := rd_form (rdS_owns ow9)
                  repeat (first | (refine Lone.ro_q (by rfl) (v := ?_) ?_ ?_; rotate_left; (focus (intro w' hSw; (try dsimp only at hSw); go_simp; try with_reducible rfl)); simp only [Act.put, List.setIfInBounds_toArray, List.set_cons_zero, List.set_cons_succ]) | (refine Lone.ro_skip (by rfl) ?_; simp only [Act.put, List.setIfInBounds_toArray, List.set_cons_zero, List.set_cons_succ]))
                  (refine Lone.ro_loud (by rfl) (fun K hK => ?_); go_simp)
                  (refine hK.out _ _ (fun _ => True) (.inr (by kernel_rfl)) trivial ?_; clear hK K; try simp only [Act.put, List.setIfInBounds_toArray, List.set_cons_zero, List.set_cons_succ])
                  refine Lone.ro_nil ?_
                  have H9 := Lib.hid (rowAt_mk2 (s := s) (HG2.out _ b9) (HG3.out _ b9) HE8.out HZ8.out b9 (owns_below HW8.out b9) ow9 HGL8)
                  obtain ⟨Y, hY⟩ : ∃ Y, w9.setCell ⟨w.heap.size, 4, none⟩ (.slice a9 M.length k9) = Y := ⟨_, rfl⟩
                  rw [hY] at H9
                  try rw [hY]
                  clear hY b9 ow9 ow7 b7 q0 q1 q2 q3 q4 y3 y4
                  obtain ⟨HN9, HO9, HI9, HS9, HE9⟩ := H9.out
                  obtain ⟨c0, c1, c2, c3, c4, z3, z4⟩ := stp_cells HN9
                  have HIH := Lib.hid HI9
                  have HSH := Lib.hid HS9
                  have HEH := Lib.hid HE9
                  clear HN9 HI9 HS9 HE9
                  go_wp2_with (refine wpList_store_blk (by rfl) 25 (.tmp 8) (.tmp 98) rfl (w.heap.size + 1) #[.string s.ref, .string s.old, .string s.new, .slice a8 N.length k8, .slice a9 M.length k9] rfl rfl HO9 (by kernel_rfl) rfl (by simp [Value.oneCell']) ?_; intro wz hgz huz)
                  obtain ⟨e0, e1, e2, e3, e4, _, _⟩ := stp_cells hgz
                  refine bodyPost_ret (v := .tuple #[.agg #[.string s.ref, .string s.old, .string s.new, .slice a8 N.length k8, .slice a9 M.length k9], .int .i64 0]) ?_ rfl ⟨.slice a8 N.length k8, .slice a9 M.length k9, rfl, owns_base (owns_updN HIH.out huz (fun k hk => by subst hk; have := HGE.out; omega)) HBW.out.size, owns_base (owns_updN HSH.out huz (fun k hk => by subst hk; have := HGE.out; omega)) HBW.out.size, below_upd HEH.out huz (Nat.le_succ _) HEH.out.size⟩
                  simp [results, Tryd.f11, go_sem, e0, e1, e2, e3, e4])
          · have hkk : kk = k := by have := HKL.out; omega
            subst hkk
            have hkl : decide ((kk : Int) < (s.who.length : Int)) = false := decide_eq_false (by omega)
            have HTW := Lib.hid (show ¬ s.who[whoK who s.who]? = some who by rw [← HKK.out, List.getElem?_eq_none (by omega)]; simp)
            have hF := HF.out.trans (signF_5 HG0S.out HBDS.out HRG.out HTW.out)
            rw [← HBDD.out, ← HKK.out, ← HNM.out.1, ← HNM.out.2] at hF
            subst hF
            have HK2 := Lib.hid (show kk ≤ s.who.length ∧ kk ≤ s.seals.length by have h1 := HKL.out; have h2 := HLE.out; omega)
            obtain ⟨v1, hv1, r1⟩ := rdI_to (HWR.out W (Below.refl _ _)) kk HK2.out.1
            obtain ⟨v2, hv2, r2⟩ := rdI_from (HWR.out W (Below.refl _ _)) kk HK2.out.1
            have E1 := Lib.hid hv1
            have E2 := Lib.hid hv2
            have R1 := Lib.hid (fun w' (h : Below W.heap.size W w') => r1.below h)
            have R2 := Lib.hid (fun w' (h : Below W.heap.size W w') => r2.below h)
            have HL1 := Lib.hid (show (s.who.take kk).length ≤ 8 ∧ (s.seals.take kk).length ≤ 8 by have h1 := HLE.out; rw [List.length_take, List.length_take]; omega)
            have HL2 := Lib.hid (show (s.who.drop kk).length ≤ 8 ∧ (s.seals.drop kk).length ≤ 8 by have h1 := HLE.out; rw [List.length_drop, List.length_drop]; omega)
            have HLEN := Lib.hid (show 0 + (s.who.take kk).length + 1 + (s.who.drop kk).length = N.length by rw [HNM.out.1]; simp [insW]; omega)
            have HIV := Lib.hid (show [] ++ ivs (s.who.take kk) ++ [Value.int .i64 who] ++ ivs (s.who.drop kk) = ivs N by rw [HNM.out.1]; simp [insW, ivs])
            have HLEN2 := Lib.hid (show 0 + (s.seals.take kk).length + 1 + (s.seals.drop kk).length = M.length by rw [HNM.out.2]; simp [insW]; omega)
            have HSV := Lib.hid (show [] ++ svs (s.seals.take kk) ++ [Value.string (sealF key bd)] ++ svs (s.seals.drop kk) = svs M by rw [HNM.out.2]; simp [insW, svs])
            clear hv1 hv2 r1 r2
            go_wp2_with fail
            refine Twin.wp_region_order (.q 0 (.q 1 (.q 2 (.q 3 (.q 5 (.q 8 (.q 9 (.q 10 (.q 11 (.l2 4 6 (.l 6 (.l 7 (.l 12 (.q 13 (.l 14 .nil))))) (.l 4 (.l 7 (.l 12 (.q 13 (.l 14 .nil))))))))))))))) (fun w' => w'.cell? ⟨w.heap.size, 3, none⟩ = some (.slice ae s.who.length ce)) (by kernel_rfl) (by kernel_rfl) rfl (by kernel_rfl) (by intro _ _ d _ _ h; cases d <;> exact h) (c3) ?_; simp only [Twin.Ord.opers, List.getElem?_toArray, List.getElem?_cons_zero, List.getElem?_cons_succ, Option.getD_some]
            repeat (first | (refine Twin.ro_q (by rfl) (v := ?_) ?_ ?_; rotate_left; (focus (intro w' hSw; (try dsimp only at hSw); go_simp; try with_reducible rfl)); simp only [Act.put, List.setIfInBounds_toArray, List.set_cons_zero, List.set_cons_succ]) | (refine Twin.ro_skip (by rfl) ?_; simp only [Act.put, List.setIfInBounds_toArray, List.set_cons_zero, List.set_cons_succ]))
            refine Twin.ro_q (by rfl) (v := v1) (fun w' hSw => by simp only [execOp, Act.eval, List.getElem?_toArray, List.getElem?_cons_zero, List.getElem?_cons_succ, Array.getD_eq_getD_getElem?, Option.getD_some, Option.map_some, Option.map_none, Sem.run_bind, E1.out, Result.andThen, Sem.run_pure]) ?_; simp only [Act.put, List.setIfInBounds_toArray, List.set_cons_zero, List.set_cons_succ]
            repeat (first | (refine Twin.ro_q (by rfl) (v := ?_) ?_ ?_; rotate_left; (focus (intro w' hSw; (try dsimp only at hSw); go_simp; try with_reducible rfl)); simp only [Act.put, List.setIfInBounds_toArray, List.set_cons_zero, List.set_cons_succ]) | (refine Twin.ro_skip (by rfl) ?_; simp only [Act.put, List.setIfInBounds_toArray, List.set_cons_zero, List.set_cons_succ]))
            refine Twin.ro_q (by rfl) (v := v2) (fun w' hSw => by simp only [execOp, Act.eval, List.getElem?_toArray, List.getElem?_cons_zero, List.getElem?_cons_succ, Array.getD_eq_getD_getElem?, Option.getD_some, Option.map_some, Option.map_none, Sem.run_bind, E2.out, Result.andThen, Sem.run_pure]) ?_; simp only [Act.put, List.setIfInBounds_toArray, List.set_cons_zero, List.set_cons_succ]
            repeat (first | (refine Twin.ro_q (by rfl) (v := ?_) ?_ ?_; rotate_left; (focus (intro w' hSw; (try dsimp only at hSw); go_simp; try with_reducible rfl)); simp only [Act.put, List.setIfInBounds_toArray, List.set_cons_zero, List.set_cons_succ]) | (refine Twin.ro_skip (by rfl) ?_; simp only [Act.put, List.setIfInBounds_toArray, List.set_cons_zero, List.set_cons_succ]))
            clear c0 c1 c2 c3 c4 z3 z4
            refine Twin.ro_two ?_ ?_
            focus (
              skip
              (refine Twin.ro_loud (by rfl) (fun K hK => ?_))
              refine wp_append_rd ((.const (.slice none 0 0))) ((.tmp 71)) 22 rfl info_int Tryd.underlying22 rfl (by decide) (by decide) (World.ownsRow_nil _ _ _ _) (HB9.out.drew) (Nat.le_refl _) (HB9.out.drew).size (R1.out _ HB9.out.drew) (ivs_one _) (by have := HL1.out; have := HL2.out; omega) rfl rfl ?_
              intro v4 w4 ow4 b4
              have q3 := (stp_cells (HG0.out _ b4)).2.2.2.1
              (refine hK.out _ _ (fun w' => w'.cell? ⟨w.heap.size, 3, none⟩ = some (.slice ae s.who.length ce)) (.inl fun _ h => h) (q3) ?_; clear hK K; try simp only [Act.put, List.setIfInBounds_toArray, List.set_cons_zero, List.set_cons_succ])
              (refine Twin.ro_loud (by rfl) (fun K hK => ?_); go_simp)
              have ow6 := ow4.alloc (.cells #[.int .i64 who] 3)
              have r6 := rdI_one (heap_alloc_new w4 (.cells #[.int .i64 who] 3))
              have b6 := b4.alloc b4.size (.cells #[.int .i64 who] 3)
              have q3 := (stp_cells (HG0.out _ b6)).2.2.2.1
              (refine hK.out _ _ (fun w' => w'.cell? ⟨w.heap.size, 3, none⟩ = some (.slice ae s.who.length ce)) (.inl fun _ h => h) (q3) ?_; clear hK K; try simp only [Act.put, List.setIfInBounds_toArray, List.set_cons_zero, List.set_cons_succ])
              clear ow4 b4
              (refine Twin.ro_loud (by rfl) (fun K hK => ?_))
              refine wp_append_rd (.tmp 72) (.tmp 74) 22 rfl info_int Tryd.underlying22 rfl (by decide) (by decide) (ow6) (b6) (Nat.le_refl _) (b6).size (r6) ((fun y hy => by obtain rfl := List.mem_singleton.1 hy; rfl)) (by have := HL1.out; have := HL2.out; omega) rfl rfl ?_
              intro v7 w7 ow7 b7
              have q3 := (stp_cells (HG0.out _ b7)).2.2.2.1
              (refine hK.out _ _ (fun w' => w'.cell? ⟨w.heap.size, 3, none⟩ = some (.slice ae s.who.length ce)) (.inl fun _ h => h) (q3) ?_; clear hK K; try simp only [Act.put, List.setIfInBounds_toArray, List.set_cons_zero, List.set_cons_succ])
              clear ow6 b6 r6
              (refine Twin.ro_loud (by rfl) (fun K hK => ?_))
              refine wp_append_rd (.tmp 75) (.tmp 79) 22 rfl info_int Tryd.underlying22 rfl (by decide) (by decide) (ow7) (b7) (Nat.le_refl _) (b7).size (R2.out _ b7) (ivs_one _) (by have := HL1.out; have := HL2.out; omega) rfl rfl ?_
              intro v8 w8 ow8 b8
              obtain ⟨q0, q1, q2, q3, q4, y3, y4⟩ := stp_cells (HG0.out _ b8)
              (refine hK.out _ _ (fun w' => w'.cell? ⟨w.heap.size, 3, none⟩ = some (.slice ae s.who.length ce)) (.inl fun _ h => h) (q3) ?_; clear hK K; try simp only [Act.put, List.setIfInBounds_toArray, List.set_cons_zero, List.set_cons_succ])
              rw [HLEN.out, HIV.out] at ow8
              obtain ⟨a8, k8, rfl⟩ := rd_form (rdI_owns ow8)
              repeat (first | (refine Twin.ro_q (by rfl) (v := ?_) ?_ ?_; rotate_left; (focus (intro w' hSw; (try dsimp only at hSw); go_simp; try with_reducible rfl)); simp only [Act.put, List.setIfInBounds_toArray, List.set_cons_zero, List.set_cons_succ]) | (refine Twin.ro_skip (by rfl) ?_; simp only [Act.put, List.setIfInBounds_toArray, List.set_cons_zero, List.set_cons_succ]))
              (refine Twin.ro_loud (by rfl) (fun K hK => ?_); go_simp)
              (refine hK.out _ _ (fun _ => True) (.inr (by kernel_rfl)) trivial ?_; clear hK K; try simp only [Act.put, List.setIfInBounds_toArray, List.set_cons_zero, List.set_cons_succ])
              refine Twin.ro_nil ?_
              have H8 := Lib.hid (rowAt_mk (s := s) (HG0.out _ b8) (HG1.out _ b8) HBW.out b8 ow8 HGE.out)
              obtain ⟨Z, hZ⟩ : ∃ Z, w8.setCell ⟨w.heap.size, 3, none⟩ (.slice a8 N.length k8) = Z := ⟨_, rfl⟩
              rw [hZ] at H8
              try rw [hZ]
              clear hZ b8 ow8 ow7 b7 q0 q1 q2 q3 q4 y3 y4)
            rotate_left
            focus (
              skip
              (refine Twin.ro_loud (by rfl) (fun K hK => ?_); go_simp)
              have b5 := HB9.out.drew.alloc HB9.out.drew.size (.cells #[.int .i64 who] 3)
              have g5 := rdI_one (heap_alloc_new wr.drew (.cells #[.int .i64 who] 3))
              have q3 := (stp_cells (HG0.out _ b5)).2.2.2.1
              (refine hK.out _ _ (fun w' => w'.cell? ⟨w.heap.size, 3, none⟩ = some (.slice ae s.who.length ce)) (.inl fun _ h => h) (q3) ?_; clear hK K; try simp only [Act.put, List.setIfInBounds_toArray, List.set_cons_zero, List.set_cons_succ])
              (refine Twin.ro_loud (by rfl) (fun K hK => ?_))
              refine wp_append_rd ((.const (.slice none 0 0))) ((.tmp 71)) 22 rfl info_int Tryd.underlying22 rfl (by decide) (by decide) (World.ownsRow_nil _ _ _ _) (Below.refl ((wr.drew.alloc (.cells #[.int .i64 who] 3))).heap.size (wr.drew.alloc (.cells #[.int .i64 who] 3))) (Nat.le_refl _) (Below.refl ((wr.drew.alloc (.cells #[.int .i64 who] 3))).heap.size (wr.drew.alloc (.cells #[.int .i64 who] 3))).size (R1.out _ b5) (ivs_one _) (by have := HL1.out; have := HL2.out; omega) rfl rfl ?_
              intro v4 w6 ow4 b4
              have b6 := b5.trans (b4.mono b5.size)
              have ow6 := owns_base ow4 b5.size
              have r6 := rdRow.below g5 b4
              have q3 := (stp_cells (HG0.out _ b6)).2.2.2.1
              (refine hK.out _ _ (fun w' => w'.cell? ⟨w.heap.size, 3, none⟩ = some (.slice ae s.who.length ce)) (.inl fun _ h => h) (q3) ?_; clear hK K; try simp only [Act.put, List.setIfInBounds_toArray, List.set_cons_zero, List.set_cons_succ])
              clear ow4 b4 b5 g5
              (refine Twin.ro_loud (by rfl) (fun K hK => ?_))
              refine wp_append_rd (.tmp 72) (.tmp 74) 22 rfl info_int Tryd.underlying22 rfl (by decide) (by decide) (ow6) (b6) (Nat.le_refl _) (b6).size (r6) ((fun y hy => by obtain rfl := List.mem_singleton.1 hy; rfl)) (by have := HL1.out; have := HL2.out; omega) rfl rfl ?_
              intro v7 w7 ow7 b7
              have q3 := (stp_cells (HG0.out _ b7)).2.2.2.1
              (refine hK.out _ _ (fun w' => w'.cell? ⟨w.heap.size, 3, none⟩ = some (.slice ae s.who.length ce)) (.inl fun _ h => h) (q3) ?_; clear hK K; try simp only [Act.put, List.setIfInBounds_toArray, List.set_cons_zero, List.set_cons_succ])
              clear ow6 b6 r6
              (refine Twin.ro_loud (by rfl) (fun K hK => ?_))
              refine wp_append_rd (.tmp 75) (.tmp 79) 22 rfl info_int Tryd.underlying22 rfl (by decide) (by decide) (ow7) (b7) (Nat.le_refl _) (b7).size (R2.out _ b7) (ivs_one _) (by have := HL1.out; have := HL2.out; omega) rfl rfl ?_
              intro v8 w8 ow8 b8
              obtain ⟨q0, q1, q2, q3, q4, y3, y4⟩ := stp_cells (HG0.out _ b8)
              (refine hK.out _ _ (fun w' => w'.cell? ⟨w.heap.size, 3, none⟩ = some (.slice ae s.who.length ce)) (.inl fun _ h => h) (q3) ?_; clear hK K; try simp only [Act.put, List.setIfInBounds_toArray, List.set_cons_zero, List.set_cons_succ])
              rw [HLEN.out, HIV.out] at ow8
              obtain ⟨a8, k8, rfl⟩ := rd_form (rdI_owns ow8)
              repeat (first | (refine Twin.ro_q (by rfl) (v := ?_) ?_ ?_; rotate_left; (focus (intro w' hSw; (try dsimp only at hSw); go_simp; try with_reducible rfl)); simp only [Act.put, List.setIfInBounds_toArray, List.set_cons_zero, List.set_cons_succ]) | (refine Twin.ro_skip (by rfl) ?_; simp only [Act.put, List.setIfInBounds_toArray, List.set_cons_zero, List.set_cons_succ]))
              (refine Twin.ro_loud (by rfl) (fun K hK => ?_); go_simp)
              (refine hK.out _ _ (fun _ => True) (.inr (by kernel_rfl)) trivial ?_; clear hK K; try simp only [Act.put, List.setIfInBounds_toArray, List.set_cons_zero, List.set_cons_succ])
              refine Twin.ro_nil ?_
              have H8 := Lib.hid (rowAt_mk (s := s) (HG0.out _ b8) (HG1.out _ b8) HBW.out b8 ow8 HGE.out)
              obtain ⟨Z, hZ⟩ : ∃ Z, w8.setCell ⟨w.heap.size, 3, none⟩ (.slice a8 N.length k8) = Z := ⟨_, rfl⟩
              rw [hZ] at H8
              try rw [hZ]
              clear hZ b8 ow8 ow7 b7 q0 q1 q2 q3 q4 y3 y4)
            all_goals (
              obtain ⟨HN8, HO8, HOW8, HBE8, HSZ8, HGL8⟩ := H8.out
              have HG2 := Lib.hid (fun wr (h : Below Z.heap.size Z wr) => blk_below HN8 h)
              have HG3 := Lib.hid (fun wr (h : Below Z.heap.size Z wr) => blk_below HO8 h)
              have HT8 := Lib.hid (fun wr (h : Below Z.heap.size Z wr) => HT.out.below (HBE8.trans (h.mono HBE8.size)))
              have RS := Lib.hid (fun wr (h : Below Z.heap.size Z wr) => HS.out.below (HBE8.trans (h.mono HBE8.size)))
              obtain ⟨v1, hv1, r1⟩ := rdS_to (RS.out Z (Below.refl _ _)) kk (by have := HK2.out; omega)
              obtain ⟨v2, hv2, r2⟩ := rdS_from (RS.out Z (Below.refl _ _)) kk (by have := HK2.out; omega)
              have F1 := Lib.hid hv1
              have F2 := Lib.hid hv2
              have T1 := Lib.hid (fun wr (h : Below Z.heap.size Z wr) => rdS.below r1 h)
              have T2 := Lib.hid (fun wr (h : Below Z.heap.size Z wr) => rdS.below r2 h)
              have HW8 := Lib.hid HOW8
              have HE8 := Lib.hid HBE8
              have HZ8 := Lib.hid HSZ8
              clear hv1 hv2 r1 r2 HOW8 HBE8 HSZ8
              obtain ⟨c0, c1, c2, c3, c4, z3, z4⟩ := stp_cells (HG2.out _ (Below.refl _ _).drew)
              clear HN8 HO8
              go_wp2_with fail
              refine Lone.wp_region_order [(0, false), (1, false), (2, false), (3, false), (5, false), (6, false), (10, false), (11, false), (12, false), (13, false), (4, true), (7, true), (8, true), (9, true), (14, true), (15, false), (16, true)] (fun w' => w'.cell? ⟨w.heap.size, 4, none⟩ = some (.slice af s.seals.length cf)) (by kernel_rfl) (by kernel_rfl) rfl (by kernel_rfl) (by intro _ _ d _ _ h; cases d <;> exact h) (c4) ?_; simp only [List.map_cons, List.map_nil, List.getElem?_toArray, List.getElem?_cons_zero, List.getElem?_cons_succ, Option.getD_some]
              repeat (first | (refine Lone.ro_q (by rfl) (v := ?_) ?_ ?_; rotate_left; (focus (intro w' hSw; (try dsimp only at hSw); go_simp; try with_reducible rfl)); simp only [Act.put, List.setIfInBounds_toArray, List.set_cons_zero, List.set_cons_succ]) | (refine Lone.ro_skip (by rfl) ?_; simp only [Act.put, List.setIfInBounds_toArray, List.set_cons_zero, List.set_cons_succ]))
              refine Lone.ro_q (by rfl) (v := v1) (fun w' hSw => by simp only [execOp, Act.eval, List.getElem?_toArray, List.getElem?_cons_zero, List.getElem?_cons_succ, Array.getD_eq_getD_getElem?, Option.getD_some, Option.map_some, Option.map_none, Sem.run_bind, F1.out, Result.andThen, Sem.run_pure]) ?_; simp only [Act.put, List.setIfInBounds_toArray, List.set_cons_zero, List.set_cons_succ]
              repeat (first | (refine Lone.ro_q (by rfl) (v := ?_) ?_ ?_; rotate_left; (focus (intro w' hSw; (try dsimp only at hSw); go_simp; try with_reducible rfl)); simp only [Act.put, List.setIfInBounds_toArray, List.set_cons_zero, List.set_cons_succ]) | (refine Lone.ro_skip (by rfl) ?_; simp only [Act.put, List.setIfInBounds_toArray, List.set_cons_zero, List.set_cons_succ]))
              refine Lone.ro_q (by rfl) (v := v2) (fun w' hSw => by simp only [execOp, Act.eval, List.getElem?_toArray, List.getElem?_cons_zero, List.getElem?_cons_succ, Array.getD_eq_getD_getElem?, Option.getD_some, Option.map_some, Option.map_none, Sem.run_bind, F2.out, Result.andThen, Sem.run_pure]) ?_; simp only [Act.put, List.setIfInBounds_toArray, List.set_cons_zero, List.set_cons_succ]
              clear c0 c1 c2 c3 c4 z3 z4
              (refine Lone.ro_loud (by rfl) (fun K hK => ?_))
              refine wp_append_rd ((.const (.slice none 0 0))) ((.tmp 85)) 23 rfl info_string Tryd.underlying23 rfl (by decide) (by decide) (World.ownsRow_nil _ _ _ _) ((Below.refl Z.heap.size Z).drew) (Nat.le_refl _) ((Below.refl Z.heap.size Z).drew).size (T1.out _ ((Below.refl Z.heap.size Z).drew)) (svs_one _) (by have := HL1.out; have := HL2.out; omega) rfl rfl ?_
              intro u4 w4 ow4 b4
              have q4 := (stp_cells (HG2.out _ b4)).2.2.2.2.1
              (refine hK.out _ _ (fun w' => w'.cell? ⟨w.heap.size, 4, none⟩ = some (.slice af s.seals.length cf)) (.inl fun _ h => h) (q4) ?_; clear hK K; try simp only [Act.put, List.setIfInBounds_toArray, List.set_cons_zero, List.set_cons_succ])
              (refine Lone.ro_loud (by rfl) (fun K hK => ?_); go_simp)
              (with_reducible refine (seal_any key bd _ HBS.out HKS.out (HT8.out _ b4)).mono ?_)
              rintro e w5 ⟨rfl, hb⟩
              have b5 := b4.trans (hb.mono b4.size)
              have ow5 := owns_below ow4 hb
              have q4 := (stp_cells (HG2.out _ b5)).2.2.2.2.1
              (refine hK.out _ _ (fun w' => w'.cell? ⟨w.heap.size, 4, none⟩ = some (.slice af s.seals.length cf)) (.inl fun _ h => h) (q4) ?_; clear hK K; try simp only [Act.put, List.setIfInBounds_toArray, List.set_cons_zero, List.set_cons_succ])
              clear ow4 hb b4
              (refine Lone.ro_loud (by rfl) (fun K hK => ?_); go_simp)
              have ow6 := ow5.alloc (.cells #[.string (sealF key bd)] 9)
              have r6 := rdS_one (heap_alloc_new w5 (.cells #[.string (sealF key bd)] 9))
              have b6 := b5.alloc b5.size (.cells #[.string (sealF key bd)] 9)
              have q4 := (stp_cells (HG2.out _ b6)).2.2.2.2.1
              (refine hK.out _ _ (fun w' => w'.cell? ⟨w.heap.size, 4, none⟩ = some (.slice af s.seals.length cf)) (.inl fun _ h => h) (q4) ?_; clear hK K; try simp only [Act.put, List.setIfInBounds_toArray, List.set_cons_zero, List.set_cons_succ])
              clear ow5 b5
              (refine Lone.ro_loud (by rfl) (fun K hK => ?_))
              refine wp_append_rd (.tmp 86) (.tmp 90) 23 rfl info_string Tryd.underlying23 rfl (by decide) (by decide) (ow6) (b6) (Nat.le_refl _) (b6).size (r6) ((fun y hy => by obtain rfl := List.mem_singleton.1 hy; rfl)) (by have := HL1.out; have := HL2.out; omega) rfl rfl ?_
              intro v7 w7 ow7 b7
              have q4 := (stp_cells (HG2.out _ b7)).2.2.2.2.1
              (refine hK.out _ _ (fun w' => w'.cell? ⟨w.heap.size, 4, none⟩ = some (.slice af s.seals.length cf)) (.inl fun _ h => h) (q4) ?_; clear hK K; try simp only [Act.put, List.setIfInBounds_toArray, List.set_cons_zero, List.set_cons_succ])
              clear ow6 b6 r6
              (refine Lone.ro_loud (by rfl) (fun K hK => ?_))
              refine wp_append_rd (.tmp 91) (.tmp 95) 23 rfl info_string Tryd.underlying23 rfl (by decide) (by decide) (ow7) (b7) (Nat.le_refl _) (b7).size (T2.out _ b7) (svs_one _) (by have := HL1.out; have := HL2.out; omega) rfl rfl ?_
              intro v9 w9 ow9 b9
              obtain ⟨q0, q1, q2, q3, q4, y3, y4⟩ := stp_cells (HG2.out _ b9)
              (refine hK.out _ _ (fun w' => w'.cell? ⟨w.heap.size, 4, none⟩ = some (.slice af s.seals.length cf)) (.inl fun _ h => h) (q4) ?_; clear hK K; try simp only [Act.put, List.setIfInBounds_toArray, List.set_cons_zero, List.set_cons_succ])
              rw [HLEN2.out, HSV.out] at ow9
              obtain ⟨a9, k9, rfl⟩ := rd_form (rdS_owns ow9)
              repeat (first | (refine Lone.ro_q (by rfl) (v := ?_) ?_ ?_; rotate_left; (focus (intro w' hSw; (try dsimp only at hSw); go_simp; try with_reducible rfl)); simp only [Act.put, List.setIfInBounds_toArray, List.set_cons_zero, List.set_cons_succ]) | (refine Lone.ro_skip (by rfl) ?_; simp only [Act.put, List.setIfInBounds_toArray, List.set_cons_zero, List.set_cons_succ]))
              (refine Lone.ro_loud (by rfl) (fun K hK => ?_); go_simp)
              (refine hK.out _ _ (fun _ => True) (.inr (by kernel_rfl)) trivial ?_; clear hK K; try simp only [Act.put, List.setIfInBounds_toArray, List.set_cons_zero, List.set_cons_succ])
              refine Lone.ro_nil ?_
              have H9 := Lib.hid (rowAt_mk2 (s := s) (HG2.out _ b9) (HG3.out _ b9) HE8.out HZ8.out b9 (owns_below HW8.out b9) ow9 HGL8)
              obtain ⟨Y, hY⟩ : ∃ Y, w9.setCell ⟨w.heap.size, 4, none⟩ (.slice a9 M.length k9) = Y := ⟨_, rfl⟩
              rw [hY] at H9
              try rw [hY]
              clear hY b9 ow9 ow7 b7 q0 q1 q2 q3 q4 y3 y4
              obtain ⟨HN9, HO9, HI9, HS9, HE9⟩ := H9.out
              obtain ⟨c0, c1, c2, c3, c4, z3, z4⟩ := stp_cells HN9
              have HIH := Lib.hid HI9
              have HSH := Lib.hid HS9
              have HEH := Lib.hid HE9
              clear HN9 HI9 HS9 HE9
              go_wp2_with (refine wpList_store_blk (by rfl) 25 (.tmp 8) (.tmp 98) rfl (w.heap.size + 1) #[.string s.ref, .string s.old, .string s.new, .slice a8 N.length k8, .slice a9 M.length k9] rfl rfl HO9 (by kernel_rfl) rfl (by simp [Value.oneCell']) ?_; intro wz hgz huz)
              obtain ⟨e0, e1, e2, e3, e4, _, _⟩ := stp_cells hgz
              refine bodyPost_ret (v := .tuple #[.agg #[.string s.ref, .string s.old, .string s.new, .slice a8 N.length k8, .slice a9 M.length k9], .int .i64 0]) ?_ rfl ⟨.slice a8 N.length k8, .slice a9 M.length k9, rfl, owns_base (owns_updN HIH.out huz (fun k hk => by subst hk; have := HGE.out; omega)) HBW.out.size, owns_base (owns_updN HSH.out huz (fun k hk => by subst hk; have := HGE.out; omega)) HBW.out.size, below_upd HEH.out huz (Nat.le_succ _) HEH.out.size⟩
              simp [results, Tryd.f11, go_sem, e0, e1, e2, e3, e4])
    · have hF := HF.out.trans (signF_2 HG0S.out (fun e => hbz (heb.trans e)))
      rw [← heb] at hF
      subst hF
      have n1 : (eb == 0) = false := beq_eq_false_iff_ne.2 hbz
      have n2 : (eb != 0) = true := by rw [bne, n1]; rfl
      clear heb hbz
      go_enter Tryd.func11, Tryd.ntmps11
      go_wp2_with fail
      (with_reducible refine HGD.out.mono ?_)
      rintro e w1 ⟨rfl, hb⟩
      have HB1 := Lib.hid hb
      clear hb c0 c1 c2 c3 c4 z3 z4
      obtain ⟨c0, c1, c2, c3, c4, z3, z4⟩ := stp_cells (HG0.out _ HB1.out)
      go_wp2_with fail
      (with_reducible refine (HBD.out w1).mono ?_)
      rintro e w2 ⟨rfl, hb⟩
      have HB2 := Lib.hid (HB1.out.trans (hb.mono HB1.out.size))
      clear hb c0 c1 c2 c3 c4 z3 z4
      obtain ⟨c0, c1, c2, c3, c4, z3, z4⟩ := stp_cells (HG0.out _ HB2.out)
      go_wp2_with (refine wpList_store_blk (by rfl) 25 (.tmp 8) (.tmp 28) rfl (w.heap.size + 1) #[.string ⟨#[]⟩, .string ⟨#[]⟩, .string ⟨#[]⟩, .slice none 0 0, .slice none 0 0] rfl rfl (HG1.out _ HB2.out) (by kernel_rfl) rfl (by simp [Value.oneCell']) ?_; intro wz hgz huz)
      obtain ⟨e0, e1, e2, e3, e4, _, _⟩ := stp_cells hgz
      refine bodyPost_ret (v := .tuple #[.agg #[.string ⟨#[]⟩, .string ⟨#[]⟩, .string ⟨#[]⟩, .slice none 0 0, .slice none 0 0], .int .i64 (eb)]) ?_ rfl ⟨.slice none 0 0, .slice none 0 0, rfl, World.ownsRow_nil _ _ _ _, World.ownsRow_nil _ _ _ _, below_upd (HBW.out.trans (HB2.out.mono HBW.out.size)) huz (Nat.le_succ _) (Nat.le_trans HBW.out.size HB2.out.size)⟩
      simp [results, Tryd.f11, go_sem, e0, e1, e2, e3, e4]
  · have hF := HF.out.trans (signF_1 (fun e => hgz (heg.trans e)))
    rw [← heg] at hF
    subst hF
    have n1 : (eg == 0) = false := beq_eq_false_iff_ne.2 hgz
    have n2 : (eg != 0) = true := by rw [bne, n1]; rfl
    clear heg hgz
    go_enter Tryd.func11, Tryd.ntmps11
    go_wp2_with fail
    (with_reducible refine HGD.out.mono ?_)
    rintro e w1 ⟨rfl, hb⟩
    have HB1 := Lib.hid hb
    clear hb c0 c1 c2 c3 c4 z3 z4
    obtain ⟨c0, c1, c2, c3, c4, z3, z4⟩ := stp_cells (HG0.out _ HB1.out)
    go_wp2_with (refine wpList_store_blk (by rfl) 25 (.tmp 8) (.tmp 18) rfl (w.heap.size + 1) #[.string ⟨#[]⟩, .string ⟨#[]⟩, .string ⟨#[]⟩, .slice none 0 0, .slice none 0 0] rfl rfl (HG1.out _ HB1.out) (by kernel_rfl) rfl (by simp [Value.oneCell']) ?_; intro wz hgz huz)
    obtain ⟨e0, e1, e2, e3, e4, _, _⟩ := stp_cells hgz
    refine bodyPost_ret (v := .tuple #[.agg #[.string ⟨#[]⟩, .string ⟨#[]⟩, .string ⟨#[]⟩, .slice none 0 0, .slice none 0 0], .int .i64 (eg)]) ?_ rfl ⟨.slice none 0 0, .slice none 0 0, rfl, World.ownsRow_nil _ _ _ _, World.ownsRow_nil _ _ _ _, below_upd (HBW.out.trans (HB1.out.mono HBW.out.size)) huz (Nat.le_succ _) (Nat.le_trans HBW.out.size HB1.out.size)⟩
    simp [results, Tryd.f11, go_sem, e0, e1, e2, e3, e4]
end Go.Proofs.YtinhjnbgblieeaaDoor
