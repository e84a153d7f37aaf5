/- Texts put together: StepLaw Stp Step1 Step2 Step3. -/
import Derived.Test.YtmacceamebdelaaDoorBas
import Derived.Test.YtmacceamebdelaaDoorNam
import Derived.Test.YtmacceamebdelaaDoorInts
import Derived.Test.YtmacceamebdelaaDoorSha
import Derived.Test.YtmacceamebdelaaDoorRegion3
/-! StepLaw -/
namespace Go.Proofs.YtmacceamebdelaaDoor
set_option linter.unusedVariables false
set_option linter.unusedSimpArgs false

structure Stp where
  ref : ByteArray
  old : ByteArray
  new : ByteArray
  who : List Int
  seals : List ByteArray
def zeroStp : Stp := ⟨noB, noB, noB, [], []⟩
def idOk (s : ByteArray) : Bool := decide (s.size = 0) || decide (s.size = 32)
def headOk (s : Stp) : Bool := namedR s.ref && (idOk s.old && (idOk s.new && decide (s.old ≠ s.new)))
def rowS (s : Stp) (k : Nat) : Int :=
  if s.who.getD k 0 < 0 ∨ 8 ≤ s.who.getD k 0 ∨ (0 < k ∧ s.who.getD k 0 ≤ s.who.getD (k - 1) 0) then 3 else if (s.seals.getD k noB).size ≠ 32 then 2 else 0
def goodS (s : Stp) : Int := if headOk s = false then 2 else if 8 < s.who.length ∨ s.who.length ≠ s.seals.length then 6 else firstE (rowS s) 0 s.who.length
/-- The rows of a good step, as pairs. -/
structure GoodP (P : List (Int × ByteArray)) : Prop where
  srt : (P.map Prod.fst).Pairwise (· < ·)
  rng : ∀ p ∈ P, 0 ≤ p.1 ∧ p.1 < 8
  siz : ∀ p ∈ P, p.2.size = 32
def stpOf (s : Stp) (P : List (Int × ByteArray)) : Stp := ⟨s.ref, s.old, s.new, P.map Prod.fst, P.map Prod.snd⟩
theorem len_range : ∀ (l : List Int) (a b : Int), l.Pairwise (· < ·) → (∀ x ∈ l, a ≤ x ∧ x < b) → l.length ≤ (b - a).toNat
  | [], _, _, _, _ => Nat.zero_le _
  | x :: l, a, b, h, g => by
    have h1 := List.pairwise_cons.1 h
    have hx := g x (by simp)
    have := len_range l (x + 1) b h1.2 (fun y hy => ⟨by have := h1.1 y hy; omega, (g y (by simp [hy])).2⟩)
    simp only [List.length_cons]
    omega
theorem GoodP.len {P : List (Int × ByteArray)} (h : GoodP P) : P.length ≤ 8 := by
  have := len_range (P.map Prod.fst) 0 8 h.srt (fun x hx => by obtain ⟨p, hp, rfl⟩ := List.mem_map.1 hx; exact h.rng p hp)
  simpa using this
theorem getD_map {α β : Type} (f : α → β) (l : List α) (k : Nat) (d : β) (h : k < l.length) : (l.map f).getD k d = f l[k] := by
  rw [List.getD, List.getElem?_map, List.getElem?_eq_getElem h]; rfl
theorem adj_lt : ∀ (l : List Int), (∀ k, 0 < k → k < l.length → l.getD (k - 1) 0 < l.getD k 0) → l.Pairwise (· < ·)
  | [], _ => List.Pairwise.nil
  | x :: l, h => by
    have ih := adj_lt l (fun k hk hl => by
      have := h (k + 1) (by omega) (by simpa using hl)
      obtain ⟨j, rfl⟩ : ∃ j, k = j + 1 := ⟨k - 1, by omega⟩
      simpa using this)
    refine List.pairwise_cons.2 ⟨fun y hy => ?_, ih⟩
    cases l with
    | nil => cases hy
    | cons z l =>
      have h1 : x < z := by simpa using h 1 (by omega) (by simp)
      rcases List.mem_cons.1 hy with rfl | hy
      · exact h1
      · exact Int.lt_trans h1 ((List.pairwise_cons.1 ih).1 y hy)
theorem goodS_of {s : Stp} (hh : headOk s = true) {P : List (Int × ByteArray)} (h : GoodP P) : goodS (stpOf s P) = 0 := by
  have hl := h.len
  unfold goodS
  rw [if_neg (by show ¬ headOk s = false; rw [hh]; decide), if_neg (by simp [stpOf]; omega)]
  refine firstE_all fun j _ hj => ?_
  have hj' : j < P.length := by simpa [stpOf] using hj
  unfold rowS
  have e1 : (stpOf s P).who.getD j 0 = P[j].1 := getD_map _ _ _ _ hj'
  have e2 : (stpOf s P).seals.getD j noB = P[j].2 := getD_map _ _ _ _ hj'
  have hr := h.rng P[j] (List.getElem_mem hj')
  have hs := h.siz P[j] (List.getElem_mem hj')
  rw [e1, e2]
  rw [if_neg, if_neg (fun k => k hs)]
  rintro (k | k | ⟨k0, k⟩)
  · omega
  · omega
  · have e3 : (stpOf s P).who.getD (j - 1) 0 = P[j - 1].1 := getD_map _ _ _ _ (by omega)
    rw [e3] at k
    have := List.pairwise_iff_getElem.1 h.srt (j - 1) j (by simp; omega) (by simpa using hj') (by omega)
    simp only [List.getElem_map] at this
    omega
theorem goodS_inv {s : Stp} (h : goodS s = 0) : headOk s = true ∧ ∃ P, GoodP P ∧ s = stpOf s P := by
  unfold goodS at h
  cases hh : headOk s with
  | false => rw [if_pos hh] at h; exact absurd h (by decide)
  | true =>
    rw [if_neg (by rw [hh]; decide)] at h
    by_cases hl : 8 < s.who.length ∨ s.who.length ≠ s.seals.length
    · rw [if_pos hl] at h; exact absurd h (by decide)
    · rw [if_neg hl] at h
      have hrow := firstE_zero h
      have hlen : s.who.length = s.seals.length := by omega
      have m1 : (s.who.zip s.seals).map Prod.fst = s.who := List.map_fst_zip (by omega)
      have m2 : (s.who.zip s.seals).map Prod.snd = s.seals := List.map_snd_zip (by omega)
      refine ⟨rfl, s.who.zip s.seals, ?_, ?_⟩
      · have key : ∀ j, j < s.who.length → 0 ≤ s.who.getD j 0 ∧ s.who.getD j 0 < 8 ∧ (0 < j → s.who.getD (j - 1) 0 < s.who.getD j 0) ∧ (s.seals.getD j noB).size = 32 := by
          intro j hj
          have hj2 := hrow j (Nat.zero_le _) (by omega)
          unfold rowS at hj2
          by_cases c : s.who.getD j 0 < 0 ∨ 8 ≤ s.who.getD j 0 ∨ (0 < j ∧ s.who.getD j 0 ≤ s.who.getD (j - 1) 0)
          · rw [if_pos c] at hj2; exact absurd hj2 (by decide)
          · rw [if_neg c] at hj2
            by_cases c2 : (s.seals.getD j noB).size ≠ 32
            · rw [if_pos c2] at hj2; exact absurd hj2 (by decide)
            · exact ⟨by omega, by omega, by omega, by omega⟩
        refine ⟨?_, fun p hp => ?_, fun p hp => ?_⟩
        · rw [m1]; exact adj_lt _ (fun k hk hl => (key k hl).2.2.1 hk)
        · obtain ⟨j, hj, rfl⟩ := List.mem_iff_getElem.1 hp
          have hj' : j < s.who.length := by have := hj; rw [List.length_zip] at this; omega
          have := key j hj'
          rw [List.getD, List.getElem?_eq_getElem hj'] at this
          simp only [List.getElem_zip]
          exact ⟨this.1, this.2.1⟩
        · obtain ⟨j, hj, rfl⟩ := List.mem_iff_getElem.1 hp
          have hj' : j < s.who.length := by have := hj; rw [List.length_zip] at this; omega
          have := (key j hj').2.2.2
          rw [List.getD, List.getElem?_eq_getElem (show j < s.seals.length by omega)] at this
          simp only [List.getElem_zip]
          exact this
      · unfold stpOf
        rw [m1, m2]

/-! Body. -/
def bodyL (n : Nat) (s : Stp) : List UInt8 := enc n ++ (encT s.ref ++ (encT s.old ++ encT s.new))
def bodyB (n : Nat) (s : Stp) : ByteArray := ⟨(bodyL n s).toArray⟩
def bodyF (at_ : Int) (s : Stp) : ByteArray × Int := if at_ < 0 ∨ 200 ≤ at_ then (noB, 3) else (bodyB at_.toNat s, 0)
theorem enc_ne {m n : Nat} (hm : m < 4611686018427387904) (hn : n < 4611686018427387904) {a b : List UInt8} (h : enc m ++ a = enc n ++ b) : m = n := by
  have h1 := get_enc m a hm
  have h2 := get_enc n b hn
  rw [h, h2] at h1
  have := congrArg (Option.map Prod.fst) h1
  simpa using this.symm
theorem body_ne {m n : Nat} (hm : m < 200) (hn : n < 200) (s : Stp) (h : bodyB m s = bodyB n s) : m = n := by
  have e : bodyL m s = bodyL n s := by
    have := congrArg (fun b : ByteArray => b.data.toList) h
    simpa [bodyB] using this
  exact enc_ne (by omega) (by omega) e

/-! Sign. -/
section
variable (sl : ByteArray → ByteArray → ByteArray)
def insW {α : Type} (k : Nat) (x : α) (l : List α) : List α := l.take k ++ x :: l.drop k
def whoK (who : Int) (l : List Int) : Nat := (l.takeWhile (fun x => decide (x < who))).length
def signF (s : Stp) (at_ who : Int) (key : ByteArray) : Stp × Int :=
  if goodS s ≠ 0 then (zeroStp, goodS s) else if (bodyF at_ s).2 ≠ 0 then (zeroStp, (bodyF at_ s).2) else if who < 0 ∨ 8 ≤ who then (zeroStp, 3) else
  if s.who[whoK who s.who]? = some who then (zeroStp, 8) else
  (⟨s.ref, s.old, s.new, insW (whoK who s.who) who s.who, insW (whoK who s.who) (sl key (bodyF at_ s).1) s.seals⟩, 0)
def insP (p : Int × ByteArray) : List (Int × ByteArray) → List (Int × ByteArray)
  | [] => [p]
  | q :: P => if q.1 < p.1 then q :: insP p P else p :: q :: P
theorem insP_eq (p : Int × ByteArray) : ∀ P : List (Int × ByteArray), insP p P = insW (whoK p.1 (P.map Prod.fst)) p P
  | [] => rfl
  | q :: P => by
    have ih := insP_eq p P
    unfold insP
    by_cases h : q.1 < p.1
    · rw [if_pos h, ih]
      simp [insW, whoK, h]
    · rw [if_neg h]
      simp [insW, whoK, h]
theorem map_insW {α β : Type} (f : α → β) (k : Nat) (x : α) (l : List α) : (insW k x l).map f = insW k (f x) (l.map f) := by simp [insW, List.map_take, List.map_drop]
theorem insP_comm {p q : Int × ByteArray} (h : p.1 ≠ q.1) : ∀ P : List (Int × ByteArray), insP p (insP q P) = insP q (insP p P)
  | [] => by
    simp only [insP]
    by_cases a : q.1 < p.1
    · rw [if_pos a, if_neg (show ¬ p.1 < q.1 by omega)]
    · rw [if_neg a, if_pos (show p.1 < q.1 by omega)]
  | x :: P => by
    have ih := insP_comm h P
    by_cases a : x.1 < p.1
    · by_cases b : x.1 < q.1
      · simp only [insP, a, b, if_true, ih]
      · have c : q.1 < p.1 := by omega
        have d : ¬ p.1 < q.1 := by omega
        simp only [insP, a, b, c, if_true, if_false]
    · by_cases b : x.1 < q.1
      · have c : p.1 < q.1 := by omega
        simp only [insP, a, b, c, if_true, if_false]
      · rcases Int.lt_or_gt_of_ne h with c | c
        · have d : ¬ q.1 < p.1 := by omega
          simp only [insP, a, b, c, d, if_true, if_false]
        · have d : ¬ p.1 < q.1 := by omega
          simp only [insP, a, b, d, if_true, if_false]
          rw [if_pos (show q.1 < p.1 from c)]
theorem insP_len (p : Int × ByteArray) : ∀ P : List (Int × ByteArray), (insP p P).length = P.length + 1
  | [] => rfl
  | q :: P => by
    unfold insP
    split
    · simp [insP_len p P]
    · simp
theorem insP_mem {p x : Int × ByteArray} : ∀ {P : List (Int × ByteArray)}, x ∈ insP p P ↔ x = p ∨ x ∈ P
  | [] => by simp [insP]
  | q :: P => by
    unfold insP
    split
    · simp only [List.mem_cons, insP_mem (P := P)]
      constructor
      · rintro (h | h | h) <;> simp [h]
      · rintro (h | h | h) <;> simp [h]
    · simp only [List.mem_cons]
theorem GoodP.ins {P : List (Int × ByteArray)} (h : GoodP P) {p : Int × ByteArray} (h1 : 0 ≤ p.1 ∧ p.1 < 8) (h2 : p.2.size = 32) (h3 : ∀ q ∈ P, q.1 ≠ p.1) : GoodP (insP p P) := by
  refine ⟨?_, fun x hx => ?_, fun x hx => ?_⟩
  · have key : ∀ P : List (Int × ByteArray), (P.map Prod.fst).Pairwise (· < ·) → (∀ q ∈ P, q.1 ≠ p.1) → ((insP p P).map Prod.fst).Pairwise (· < ·) := by
      intro P
      induction P with
      | nil => intro _ _; simp [insP]
      | cons q P ih =>
        intro hs hn
        have hc := List.pairwise_cons.1 (by simpa using hs : List.Pairwise (· < ·) (q.1 :: P.map Prod.fst))
        have hq := hn q (by simp)
        unfold insP
        split
        · rename_i hlt
          rw [List.map_cons]
          refine List.pairwise_cons.2 ⟨fun y hy => ?_, ih hc.2 (fun r hr => hn r (by simp [hr]))⟩
          obtain ⟨r, hr, rfl⟩ := List.mem_map.1 hy
          rcases insP_mem.1 hr with rfl | hr
          · exact hlt
          · exact hc.1 _ (List.mem_map_of_mem hr)
        · rename_i hlt
          have hpq : p.1 < q.1 := by omega
          rw [List.map_cons, List.map_cons]
          refine List.pairwise_cons.2 ⟨fun y hy => ?_, List.pairwise_cons.2 hc⟩
          rcases List.mem_cons.1 hy with rfl | hy
          · exact hpq
          · exact Int.lt_trans hpq (hc.1 y hy)
    exact key P h.srt h3
  · rcases insP_mem.1 hx with rfl | hx
    · exact h1
    · exact h.rng x hx
  · rcases insP_mem.1 hx with rfl | hx
    · exact h2
    · exact h.siz x hx
theorem whoK_le (x : Int) (l : List Int) : whoK x l ≤ l.length := by
  unfold whoK
  exact (List.takeWhile_sublist _).length_le
theorem whoK_mem : ∀ {l : List Int} {x : Int}, l.Pairwise (· < ·) → (l[whoK x l]? = some x ↔ x ∈ l)
  | [], x, _ => by simp [whoK]
  | y :: l, x, h => by
    have hc := List.pairwise_cons.1 h
    have ih := whoK_mem (x := x) hc.2
    by_cases e : y < x
    · have : whoK x (y :: l) = whoK x l + 1 := by simp [whoK, e]
      rw [this, List.getElem?_cons_succ, ih]
      simp only [List.mem_cons]
      constructor
      · exact .inr
      · rintro (rfl | h2)
        · omega
        · exact h2
    · have : whoK x (y :: l) = 0 := by simp [whoK, e]
      rw [this, List.getElem?_cons_zero]
      simp only [Option.some.injEq, List.mem_cons]
      constructor
      · exact fun h => .inl h.symm
      · rintro (rfl | h2)
        · rfl
        · have := hc.1 x h2; omega
/-- A signing of a good step, by its rows. -/
theorem sign_good {s : Stp} (hh : headOk s = true) {P : List (Int × ByteArray)} (h : GoodP P) {at_ who : Int} (key : ByteArray) (ha : 0 ≤ at_ ∧ at_ < 200) (hw : 0 ≤ who ∧ who < 8) :
    signF sl (stpOf s P) at_ who key = if who ∈ P.map Prod.fst then (zeroStp, 8) else (stpOf s (insP (who, sl key (bodyB at_.toNat s)) P), 0) := by
  unfold signF
  have hb : bodyF at_ (stpOf s P) = (bodyB at_.toNat s, 0) := by unfold bodyF; rw [if_neg (by omega)]; rfl
  rw [if_neg (fun k => k (goodS_of hh h)), hb, if_neg (fun k => k rfl), if_neg (by omega), show (stpOf s P).who = P.map Prod.fst from rfl]
  by_cases hm : who ∈ P.map Prod.fst
  · rw [if_pos ((whoK_mem h.srt).2 hm), if_pos hm]
  · rw [if_neg (fun k => hm ((whoK_mem h.srt).1 k)), if_neg hm, insP_eq]
    unfold stpOf
    rw [map_insW, map_insW]
theorem sign_inv {s : Stp} {at_ who : Int} {key : ByteArray} (h : (signF sl s at_ who key).2 = 0) : headOk s = true ∧ (0 ≤ at_ ∧ at_ < 200) ∧ (0 ≤ who ∧ who < 8) ∧ ∃ P, GoodP P ∧ s = stpOf s P ∧ who ∉ P.map Prod.fst := by
  have hg : goodS s = 0 := by
    unfold signF at h
    by_cases g : goodS s = 0
    · exact g
    · rw [if_pos g] at h; exact absurd h g
  obtain ⟨hh, P, hP, hs⟩ := goodS_inv hg
  unfold signF at h
  rw [if_neg (fun k => k hg)] at h
  by_cases ha : at_ < 0 ∨ 200 ≤ at_
  · have hb : (bodyF at_ s).2 = 3 := by unfold bodyF; rw [if_pos ha]
    rw [if_pos (by rw [hb]; decide), hb] at h; exact absurd h (by decide)
  · have hb : (bodyF at_ s).2 = 0 := by unfold bodyF; rw [if_neg ha]
    rw [if_neg (fun k => k hb)] at h
    by_cases hw : who < 0 ∨ 8 ≤ who
    · rw [if_pos hw] at h; exact absurd h (by decide)
    · rw [if_neg hw] at h
      refine ⟨hh, by omega, by omega, P, hP, hs, fun hm => ?_⟩
      have e : s.who = P.map Prod.fst := congrArg Stp.who hs
      rw [if_pos (by rw [e]; exact (whoK_mem hP.srt).2 hm)] at h
      exact absurd h (by decide)
theorem sign_bad {s : Stp} {at_ who : Int} {key : ByteArray} (h : (signF sl s at_ who key).2 ≠ 0) : (signF sl s at_ who key).1 = zeroStp := by
  unfold signF at h ⊢
  repeat' split
  all_goals first | rfl | skip
  all_goals simp_all
/-- In whichever order two sign, the step is the same; and nobody signs twice. -/
theorem sign_order (h32 : ∀ k b, (sl k b).size = 32) {s : Stp} {at_ a b : Int} {k l : ByteArray} (ha : (signF sl s at_ a k).2 = 0) (hb : (signF sl s at_ b l).2 = 0) (hne : a ≠ b) :
    (signF sl (signF sl s at_ a k).1 at_ b l).2 = 0 ∧ signF sl (signF sl s at_ b l).1 at_ a k = signF sl (signF sl s at_ a k).1 at_ b l ∧
      (signF sl (signF sl (signF sl s at_ a k).1 at_ b l).1 at_ a k).2 = 8 ∧ (signF sl (signF sl s at_ a k).1 at_ b l).1.who.length = s.who.length + 2 := by
  obtain ⟨hh, hat, har, P, hP, hs, hna⟩ := sign_inv sl ha
  obtain ⟨_, _, hbr, P', hP', hs', hnb'⟩ := sign_inv sl hb
  have hnb : b ∉ P.map Prod.fst := by
    have e1 : s.who = P.map Prod.fst := congrArg Stp.who hs
    have e2 : s.who = P'.map Prod.fst := congrArg Stp.who hs'
    rw [← e1, e2]; exact hnb'
  have nm : ∀ {c : Int} {Q : List (Int × ByteArray)}, c ∉ Q.map Prod.fst → ∀ q ∈ Q, q.1 ≠ c := fun hc q hq e => hc (e ▸ List.mem_map_of_mem hq)
  have nmi : ∀ {c d : Int} {x : ByteArray} {Q : List (Int × ByteArray)}, c ∉ Q.map Prod.fst → c ≠ d → c ∉ (insP (d, x) Q).map Prod.fst := by
    intro c d x Q hc hcd hm
    obtain ⟨q, hq, rfl⟩ := List.mem_map.1 hm
    rcases insP_mem.1 hq with rfl | hq
    · exact hcd rfl
    · exact hc (List.mem_map_of_mem hq)
  obtain ⟨sa, hsa⟩ : ∃ x, x = sl k (bodyB at_.toNat s) := ⟨_, rfl⟩
  obtain ⟨sb, hsb⟩ : ∃ x, x = sl l (bodyB at_.toNat s) := ⟨_, rfl⟩
  have s32a : sa.size = 32 := hsa ▸ h32 _ _
  have s32b : sb.size = 32 := hsb ▸ h32 _ _
  have e1 : signF sl s at_ a k = (stpOf s (insP (a, sa) P), 0) := by
    rw [hs, sign_good sl hh hP k hat har, if_neg hna, hsa]; rfl
  have e2 : signF sl s at_ b l = (stpOf s (insP (b, sb) P), 0) := by
    rw [hs, sign_good sl hh hP l hat hbr, if_neg hnb, hsb]; rfl
  have ga := hP.ins (p := (a, sa)) har s32a (nm hna)
  have gb := hP.ins (p := (b, sb)) hbr s32b (nm hnb)
  have e3 : signF sl (stpOf s (insP (a, sa) P)) at_ b l = (stpOf s (insP (b, sb) (insP (a, sa) P)), 0) := by
    rw [sign_good sl hh ga l hat hbr, if_neg (nmi hnb (fun e => hne e.symm)), hsb]
  have e4 : signF sl (stpOf s (insP (b, sb) P)) at_ a k = (stpOf s (insP (a, sa) (insP (b, sb) P)), 0) := by
    rw [sign_good sl hh gb k hat har, if_neg (nmi hna hne), hsa]
  have gab := ga.ins (p := (b, sb)) hbr s32b (nm (nmi hnb (fun e => hne e.symm)))
  rw [e1, e2]
  simp only
  rw [e3, e4]
  refine ⟨rfl, by rw [insP_comm (p := (a, sa)) (q := (b, sb)) hne], ?_, ?_⟩
  · rw [sign_good sl hh gab k hat har, if_pos]
    exact List.mem_map.2 ⟨(a, sa), insP_mem.2 (.inr (insP_mem.2 (.inl rfl))), rfl⟩
  · have e5 : s.who.length = P.length := by
      have := congrArg (fun x : Stp => x.who.length) hs
      simpa [stpOf] using this
    simp [stpOf, insP_len, e5]

/-! Check. -/
def rowC (signers : List ByteArray) (b : ByteArray) (s : Stp) (k : Nat) : Int :=
  if (signers.length : Int) ≤ s.who.getD k 0 ∨ sl (signers.getD (s.who.getD k 0).toNat noB) b ≠ s.seals.getD k noB then 13 else 0
def checkF (signers : List ByteArray) (need at_ : Int) (s : Stp) : Int :=
  if goodS s ≠ 0 then goodS s else if (bodyF at_ s).2 ≠ 0 then (bodyF at_ s).2 else
  if firstE (rowC sl signers (bodyF at_ s).1 s) 0 s.who.length ≠ 0 then firstE (rowC sl signers (bodyF at_ s).1 s) 0 s.who.length else
  if (s.who.length : Int) < need then 13 else 0
theorem firstE_13 {f : Nat → Int} (h : ∀ j, f j = 13 ∨ f j = 0) : ∀ c k0, firstE f k0 c = 13 ∨ firstE f k0 c = 0
  | 0, _ => .inr rfl
  | c + 1, k0 => by
    unfold firstE
    split
    · exact h k0
    · exact firstE_13 h c (k0 + 1)
theorem rowC_13 (signers : List ByteArray) (b : ByteArray) (s : Stp) (k : Nat) : rowC sl signers b s k = 13 ∨ rowC sl signers b s k = 0 := by
  unfold rowC; split
  · exact .inl rfl
  · exact .inr rfl
/-- Signed rows: each by its own key. -/
def RowsBy (signers : List ByteArray) (b : ByteArray) (P : List (Int × ByteArray)) : Prop := ∀ p ∈ P, p.1 < signers.length ∧ p.2 = sl (signers.getD p.1.toNat noB) b
theorem check_rows {signers : List ByteArray} {need at_ : Int} {s : Stp} (hh : headOk s = true) {P : List (Int × ByteArray)} (h : GoodP P) (ha : 0 ≤ at_ ∧ at_ < 200) (hr : RowsBy sl signers (bodyB at_.toNat s) P) :
    checkF sl signers need at_ (stpOf s P) = if (P.length : Int) < need then 13 else 0 := by
  unfold checkF
  have hb : bodyF at_ (stpOf s P) = (bodyB at_.toNat s, 0) := by unfold bodyF; rw [if_neg (by omega)]; rfl
  rw [if_neg (fun k => k (goodS_of hh h)), hb, if_neg (fun k => k rfl)]
  have hz : firstE (rowC sl signers (bodyB at_.toNat s) (stpOf s P)) 0 (stpOf s P).who.length = 0 := by
    refine firstE_all fun j _ hj => ?_
    have hj' : j < P.length := by simpa [stpOf] using hj
    have e1 : (stpOf s P).who.getD j 0 = P[j].1 := getD_map _ _ _ _ hj'
    have e2 : (stpOf s P).seals.getD j noB = P[j].2 := getD_map _ _ _ _ hj'
    have := hr P[j] (List.getElem_mem hj')
    unfold rowC
    rw [e1, e2, if_neg]
    rintro (k | k)
    · omega
    · exact k this.2.symm
  rw [if_neg (fun k => k hz)]
  simp [stpOf]
theorem check_other {signers : List ByteArray} {at_ other : Int} {s : Stp} (hh : headOk s = true) {P : List (Int × ByteArray)} (h : GoodP P) (hne : P ≠ []) (ha : 0 ≤ at_ ∧ at_ < 200) (ho : 0 ≤ other ∧ other < 200) (hr : RowsBy sl signers (bodyB at_.toNat s) P) :
    checkF sl signers 0 other (stpOf s P) = 13 ∨ (sl (signers.getD ((stpOf s P).who.getD 0 0).toNat noB) (bodyB at_.toNat s) = sl (signers.getD ((stpOf s P).who.getD 0 0).toNat noB) (bodyB other.toNat s)) := by
  unfold checkF
  have hb : bodyF other (stpOf s P) = (bodyB other.toNat s, 0) := by unfold bodyF; rw [if_neg (by omega)]; rfl
  rw [if_neg (fun k => k (goodS_of hh h)), hb, if_neg (fun k => k rfl)]
  rcases firstE_13 (rowC_13 sl signers (bodyB other.toNat s) (stpOf s P)) (stpOf s P).who.length 0 with e | e
  · left; rw [if_pos (by rw [e]; decide), e]
  · right
    have hl : 0 < P.length := List.length_pos_iff.2 hne
    have h0 := firstE_zero e 0 (Nat.le_refl _) (by simpa [stpOf] using hl)
    have e1 : (stpOf s P).who.getD 0 0 = P[0].1 := getD_map _ _ _ _ hl
    have e2 : (stpOf s P).seals.getD 0 noB = P[0].2 := getD_map _ _ _ _ hl
    unfold rowC at h0
    by_cases c : (signers.length : Int) ≤ (stpOf s P).who.getD 0 0 ∨ sl (signers.getD ((stpOf s P).who.getD 0 0).toNat noB) (bodyB other.toNat s) ≠ (stpOf s P).seals.getD 0 noB
    · rw [if_pos c] at h0; exact absurd h0 (by decide)
    · have c2 : sl (signers.getD ((stpOf s P).who.getD 0 0).toNat noB) (bodyB other.toNat s) = (stpOf s P).seals.getD 0 noB := Classical.not_not.1 (fun k => c (.inr k))
      rw [c2, e2, (hr P[0] (List.getElem_mem hl)).2, e1]
end
end Go.Proofs.YtmacceamebdelaaDoor
/-! Stp -/
namespace Go.Proofs.YtmacceamebdelaaDoor
open Go.RowKit
set_option linter.unusedVariables false
set_option linter.unusedSimpArgs false

/-- A step as a value. -/
def stpC (s : Stp) (vw vs : Value) : List Value := [.string s.ref, .string s.old, .string s.new, vw, vs]
theorem stp_cells {w : World} {n : Nat} {a b c d e : Value} (h : w.heap[n]? = some (.cells #[a, b, c, d, e] 141 (0, 0))) :
    w.cell? ⟨n, 0, none⟩ = some a ∧ w.cell? ⟨n, 1, none⟩ = some b ∧ w.cell? ⟨n, 2, none⟩ = some c ∧ w.cell? ⟨n, 3, none⟩ = some d ∧ w.cell? ⟨n, 4, none⟩ = some e ∧ w.frozen? ⟨n, 3, none⟩ = false ∧ w.frozen? ⟨n, 4, none⟩ = false := by
  refine ⟨?_, ?_, ?_, ?_, ?_, ?_, ?_⟩ <;> simp [World.cell?, World.frozen?, h]
section
variable {P : Program} {w w0 : World} {B : Nat}
end
end Go.Proofs.YtmacceamebdelaaDoor
/-! Step1 -/
namespace Go.Proofs.YtmacceamebdelaaDoor
open Go.RowKit
set_option linter.unusedVariables false
set_option linter.unusedSimpArgs false

theorem goodS_1 {s : Stp} (h : headOk s = false) : goodS s = 2 := by unfold goodS; rw [if_pos h]
theorem goodS_2 {s : Stp} (h : headOk s = true) (h2 : 8 < s.who.length ∨ s.who.length ≠ s.seals.length) : goodS s = 6 := by unfold goodS; rw [if_neg (by rw [h]; decide), if_pos h2]
theorem goodS_3 {s : Stp} (h : headOk s = true) (h2 : ¬ (8 < s.who.length ∨ s.who.length ≠ s.seals.length)) : goodS s = firstE (rowS s) 0 s.who.length := by unfold goodS; rw [if_neg (by rw [h]; decide), if_neg h2]
theorem rowS_z {s : Stp} {k : Nat} (h : ¬ (s.who.getD k 0 < 0 ∨ 8 ≤ s.who.getD k 0 ∨ (0 < k ∧ s.who.getD k 0 ≤ s.who.getD (k - 1) 0))) (h2 : (s.seals.getD k noB).size = 32) : rowS s k = 0 := by
  unfold rowS; rw [if_neg h, if_neg (fun e => e h2)]
theorem rowS_t {s : Stp} {k : Nat} (h : ¬ (s.who.getD k 0 < 0 ∨ 8 ≤ s.who.getD k 0 ∨ (0 < k ∧ s.who.getD k 0 ≤ s.who.getD (k - 1) 0))) (h2 : (s.seals.getD k noB).size ≠ 32) : rowS s k = 2 := by
  unfold rowS; rw [if_neg h, if_pos h2]
end Go.Proofs.YtmacceamebdelaaDoor
/-! Step2 -/
namespace Go.Proofs.YtmacceamebdelaaDoor
open Go.RowKit
set_option linter.unusedVariables false
set_option linter.unusedSimpArgs false

theorem tl3 (a b c : ByteArray) (r : List UInt8) : [a, b, c].flatMap encT ++ r = encT a ++ (encT b ++ (encT c ++ r)) := by simp
theorem named_size {s : ByteArray} (h : namedR s = true) : s.size ≤ 60 := by
  unfold namedR at h
  rw [Bool.and_eq_true, decide_eq_true_eq] at h
  exact h.1
theorem idOk_size {s : ByteArray} (h : idOk s = true) : s.size ≤ 32 := by
  unfold idOk at h
  rw [Bool.or_eq_true, decide_eq_true_eq, decide_eq_true_eq] at h
  omega
theorem head_sizes {s : Stp} (h : headOk s = true) : s.ref.size ≤ 60 ∧ s.old.size ≤ 32 ∧ s.new.size ≤ 32 := by
  unfold headOk at h
  simp only [Bool.and_eq_true] at h
  exact ⟨named_size h.1, idOk_size h.2.1, idOk_size h.2.2.1⟩
theorem body_length {n : Nat} (hn : n < 200) {s : Stp} (h : headOk s = true) : (bodyL n s).length ≤ 200 := by
  obtain ⟨h1, h2, h3⟩ := head_sizes h
  have e1 := enc9 (n := n) (by omega)
  have e2 := enc9 (n := s.ref.size) (by omega)
  have e3 := enc9 (n := s.old.size) (by omega)
  have e4 := enc9 (n := s.new.size) (by omega)
  simp only [bodyL, encT, List.length_append, toList_length]
  omega
theorem bodyF_1 {at_ : Int} {s : Stp} (h : at_ < 0 ∨ 200 ≤ at_) : bodyF at_ s = (noB, 3) := by unfold bodyF; rw [if_pos h]
theorem bodyF_2 {at_ : Int} {s : Stp} (h : ¬ (at_ < 0 ∨ 200 ≤ at_)) : bodyF at_ s = (⟨(bodyL at_.toNat s).toArray⟩, 0) := by unfold bodyF; rw [if_neg h]; rfl
end Go.Proofs.YtmacceamebdelaaDoor
/-! Step3 -/
namespace Go.Proofs.YtmacceamebdelaaDoor
open Go.RowKit
set_option linter.unusedVariables false
set_option linter.unusedSimpArgs false

theorem rdI_to {w : World} {v : Value} {ss : List Int} (hr : rdI w v ss) (k : Nat) (hk : k ≤ ss.length) :
    ∃ v', (∀ w' : World, (Instr.sliceAt 139 v none (some (.int .i64 (k : Int))) none).run Tryd.prog w' = .ok v' w') ∧ rdI w v' (ss.take k) := by
  obtain ⟨v', h1, h2⟩ := slice_to Tryd.underlying139 size_int hr k hk
  refine ⟨v', h1, ?_⟩
  rw [ivs_take] at h2
  have : (ss.take k).length = k := by rw [List.length_take]; omega
  unfold rdI; rw [this]; exact h2
theorem rdI_from {w : World} {v : Value} {ss : List Int} (hr : rdI w v ss) (k : Nat) (hk : k ≤ ss.length) :
    ∃ v', (∀ w' : World, (Instr.sliceAt 139 v (some (.int .i64 (k : Int))) none none).run Tryd.prog w' = .ok v' w') ∧ rdI w v' (ss.drop k) := by
  obtain ⟨v', h1, h2⟩ := slice_from Tryd.underlying139 size_int hr k hk
  refine ⟨v', h1, ?_⟩
  rw [ivs_drop] at h2
  unfold rdI; rw [List.length_drop]; exact h2
theorem owns_updN {S : Nat → Prop} {w w' : World} {base : Nat} {e : TypeId} {size : Nat} {v : Value} {n : Nat} {xs : List Value} (h : w.ownsRow base e size v n xs) (hu : Upd S w w') (hS : ∀ k, S k → k < base) : w'.ownsRow base e size v n xs := by
  refine ⟨h.1, ?_⟩
  rcases h.2 with h | ⟨g, cap, cur, rfl, hbg, hg, r⟩
  · exact .inl h
  · refine .inr ⟨g, cap, cur, rfl, hbg, ?_, r⟩
    rw [hu.block g (Array.getElem?_eq_some_iff.1 hg).1 (fun k => by have := hS g k; omega)]
    exact hg
/-- A world whose step box has its row of signers set. -/
structure RowAt (w W Z : World) (s : Stp) (v3 v4 : Value) (N : List Int) : Prop where
  blk : Z.heap[w.heap.size]? = some (.cells #[.string s.ref, .string s.old, .string s.new, v3, v4] 141 (0, 0))
  out : Z.heap[w.heap.size + 1]? = some (.cells #[.string ⟨#[]⟩, .string ⟨#[]⟩, .string ⟨#[]⟩, .slice none 0 0, .slice none 0 0] 141 (0, 0))
  own : Z.ownsRow W.heap.size 3 1 v3 N.length (ivs N)
  bel : Below w.heap.size w Z
  size : W.heap.size ≤ Z.heap.size
  ge : w.heap.size + 2 ≤ W.heap.size
theorem rowAt_mk {w W Z : World} {s : Stp} {v0 v3 v4 : Value} {N : List Int}
    (h0 : Z.heap[w.heap.size]? = some (.cells #[.string s.ref, .string s.old, .string s.new, v0, v4] 141 (0, 0)))
    (h1 : Z.heap[w.heap.size + 1]? = some (.cells #[.string ⟨#[]⟩, .string ⟨#[]⟩, .string ⟨#[]⟩, .slice none 0 0, .slice none 0 0] 141 (0, 0)))
    (hw : Below w.heap.size w W) (hb : Below W.heap.size W Z) (ho : Z.ownsRow W.heap.size 3 1 v3 N.length (ivs N)) (hg : w.heap.size + 2 ≤ W.heap.size) :
    RowAt w W (Z.setCell ⟨w.heap.size, 3, none⟩ v3) s v3 v4 N := by
  refine ⟨?_, ?_, ?_, ?_, ?_, hg⟩
  · rw [heap_setCell_same _ _ _ _ _ _ h0]; rfl
  · rw [heap_setCell_other _ _ _ _ (by simp)]; exact h1
  · exact owns_setCell ho (fun k => by have := (ho.lt _ k).1; dsimp only at this; omega) _
  · exact (hw.trans (hb.mono hw.size)).setCell (Nat.le_refl _) _
  · simpa using hb.size
structure RowAt2 (w W Y : World) (s : Stp) (v3 v4 : Value) (N : List Int) (M : List ByteArray) : Prop where
  blk : Y.heap[w.heap.size]? = some (.cells #[.string s.ref, .string s.old, .string s.new, v3, v4] 141 (0, 0))
  out : Y.heap[w.heap.size + 1]? = some (.cells #[.string ⟨#[]⟩, .string ⟨#[]⟩, .string ⟨#[]⟩, .slice none 0 0, .slice none 0 0] 141 (0, 0))
  own : Y.ownsRow W.heap.size 3 1 v3 N.length (ivs N)
  own2 : Y.ownsRow W.heap.size 9 1 v4 M.length (svs M)
  bel : Below w.heap.size w Y
theorem rowAt_mk2 {w W Z Y : World} {s : Stp} {v0 v3 v4 : Value} {N : List Int} {M : List ByteArray}
    (h0 : Y.heap[w.heap.size]? = some (.cells #[.string s.ref, .string s.old, .string s.new, v3, v0] 141 (0, 0)))
    (h1 : Y.heap[w.heap.size + 1]? = some (.cells #[.string ⟨#[]⟩, .string ⟨#[]⟩, .string ⟨#[]⟩, .slice none 0 0, .slice none 0 0] 141 (0, 0)))
    (hw : Below w.heap.size w Z) (hz : W.heap.size ≤ Z.heap.size) (hb : Below Z.heap.size Z Y) (ho : Y.ownsRow W.heap.size 3 1 v3 N.length (ivs N)) (ho2 : Y.ownsRow Z.heap.size 9 1 v4 M.length (svs M)) (hg : w.heap.size + 2 ≤ W.heap.size) :
    RowAt2 w W (Y.setCell ⟨w.heap.size, 4, none⟩ v4) s v3 v4 N M := by
  refine ⟨?_, ?_, ?_, ?_, ?_⟩
  · rw [heap_setCell_same _ _ _ _ _ _ h0]; rfl
  · rw [heap_setCell_other _ _ _ _ (by simp)]; exact h1
  · exact owns_setCell ho (fun k => by have := (ho.lt _ k).1; dsimp only at this; omega) _
  · exact owns_setCell (owns_base ho2 hz) (fun k => by have := (ho2.lt _ k).1; dsimp only at this; omega) _
  · exact (hw.trans (hb.mono hw.size)).setCell (Nat.le_refl _) _
section
variable {sl : ByteArray → ByteArray → ByteArray} {s : Stp} {at_ who : Int} {key : ByteArray}
theorem signF_1 (h : goodS s ≠ 0) : signF sl s at_ who key = (zeroStp, goodS s) := by unfold signF; rw [if_pos h]
theorem signF_2 (h : goodS s = 0) (h2 : (bodyF at_ s).2 ≠ 0) : signF sl s at_ who key = (zeroStp, (bodyF at_ s).2) := by unfold signF; rw [if_neg (fun k => k h), if_pos h2]
theorem signF_3 (h : goodS s = 0) (h2 : (bodyF at_ s).2 = 0) (h3 : who < 0 ∨ 8 ≤ who) : signF sl s at_ who key = (zeroStp, 3) := by unfold signF; rw [if_neg (fun k => k h), if_neg (fun k => k h2), if_pos h3]
theorem signF_4 (h : goodS s = 0) (h2 : (bodyF at_ s).2 = 0) (h3 : ¬ (who < 0 ∨ 8 ≤ who)) (h4 : s.who[whoK who s.who]? = some who) : signF sl s at_ who key = (zeroStp, 8) := by
  unfold signF; rw [if_neg (fun k => k h), if_neg (fun k => k h2), if_neg h3, if_pos h4]
theorem signF_5 (h : goodS s = 0) (h2 : (bodyF at_ s).2 = 0) (h3 : ¬ (who < 0 ∨ 8 ≤ who)) (h4 : ¬ s.who[whoK who s.who]? = some who) :
    signF sl s at_ who key = (⟨s.ref, s.old, s.new, insW (whoK who s.who) who s.who, insW (whoK who s.who) (sl key (bodyF at_ s).1) s.seals⟩, 0) := by
  unfold signF; rw [if_neg (fun k => k h), if_neg (fun k => k h2), if_neg h3, if_neg h4]
end
theorem getD_some {l : List Int} {k : Nat} {x : Int} (h : k < l.length) (e : l.getD k 0 = x) : l[k]? = some x := by
  rw [List.getD, List.getElem?_eq_getElem h] at e
  rw [List.getElem?_eq_getElem h, ← e]; rfl
theorem some_getD {l : List Int} {k : Nat} {x : Int} (h : k < l.length) (e : l[k]? = some x) : l.getD k 0 = x := by
  rw [List.getD, e]; rfl
def RetStp (w : World) (r : Stp × Int) (e : Ending) (w' : World) : Prop :=
  ∃ vw vs, e = .returned (.tuple #[.agg #[.string r.1.ref, .string r.1.old, .string r.1.new, vw, vs], .int .i64 r.2]) ∧ w'.ownsRow w.heap.size 3 1 vw r.1.who.length (ivs r.1.who) ∧ w'.ownsRow w.heap.size 9 1 vs r.1.seals.length (svs r.1.seals) ∧ Below w.heap.size w w'
theorem whoK_lt : ∀ {l : List Int} {x : Int} {j : Nat}, j < whoK x l → l.getD j 0 < x
  | [], x, j, h => by simp [whoK] at h
  | y :: l, x, j, h => by
    by_cases e : y < x
    · have hk : whoK x (y :: l) = whoK x l + 1 := by simp [whoK, e]
      cases j with
      | zero => simpa using e
      | succ j => simpa using whoK_lt (l := l) (x := x) (j := j) (by omega)
    · have hk : whoK x (y :: l) = 0 := by simp [whoK, e]
      omega
theorem whoK_stop : ∀ {l : List Int} {x : Int}, whoK x l < l.length → ¬ l.getD (whoK x l) 0 < x
  | [], x, h => by simp at h
  | y :: l, x, h => by
    by_cases e : y < x
    · have hk : whoK x (y :: l) = whoK x l + 1 := by simp [whoK, e]
      rw [hk] at h ⊢
      simpa using whoK_stop (l := l) (x := x) (by simpa using h)
    · have hk : whoK x (y :: l) = 0 := by simp [whoK, e]
      rw [hk]
      simpa using e
end Go.Proofs.YtmacceamebdelaaDoor
