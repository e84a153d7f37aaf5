/- A region that draws its order, walked in ONE order: whatever may come up and yields one value in all worlds that meet S is taken first; behind what does more, S may say more. -/
import Derived.OrdersHeld
import Derived.Deep.RegionHeld
namespace Go.Proofs.YtmacceamebdelaaDoor.Sole
section
variable {P : Program} {ops : Array Oper} {Q : Exit → Act → World → Prop} {md : Region.Mode}

def aft (md : Region.Mode) (o : Oper) (k : Nat) : Prop := ∃ e ∈ o.after, Region.binds md e = true ∧ e.on = k
/-- An operation that waits for each other, or is waited for by it. -/
def Free (o : Oper) : Prop := ∀ (P : Program) ρ v w w', (execOp ρ o).run P w = .ok (.value v) w → (execOp ρ o).run P w' = .ok (.value v) w'
def freeB (o : Oper) : Bool := match o.op with
  | .move _ | .assign _ | .extract _ _ => true
  | _ => false
theorem free_of {o : Oper} (h : freeB o = true) : Free o := by
  intro P ρ v w w' hr
  unfold freeB at h
  unfold execOp at hr ⊢
  split at h
  · next x e => simp only [e, Sem.run_pure] at hr ⊢; injection hr with hr; rw [hr]
  · next x e => simp only [e, Sem.run_pure] at hr ⊢; injection hr with hr; rw [hr]
  · next t i e =>
    simp only [e, Sem.run_bind] at hr ⊢
    unfold Instr.extract at hr ⊢
    split at hr
    · next vs =>
      split at hr
      · next y => simp only [Sem.run_pure, Result.andThen] at hr ⊢; injection hr with hr; rw [hr]
      · simp [stuck, Result.andThen] at hr
    · simp [stuck, Result.andThen] at hr
  · cases h
def LoneO (md : Region.Mode) (ops : Array Oper) (o : Oper) : Prop := ∃ j, freeB o = false ∧ ¬ aft md o j ∧ (∀ k p, ops[k]? = some p → k ≠ j → aft md o k ∨ aft md p j ∨ freeB p = true) ∧ ∀ k p, ops[k]? = some p → ¬ aft md p k
theorem LoneO.at {md : Region.Mode} {ops : Array Oper} {o : Oper} (h : LoneO md ops o) {i : Nat} (hi : ops[i]? = some o) : ∀ k p, ops[k]? = some p → k ≠ i → aft md o k ∨ aft md p i ∨ freeB p = true := by
  obtain ⟨j, h0, h1, h2, h3⟩ := h
  have e : i = j := Classical.byContradiction fun hne => by
    rcases h2 i o hi hne with h | h | h
    · exact h3 i o hi h
    · exact h1 h
    · rw [h0] at h; cases h
  subst e
  exact h2
def Subs (md : Region.Mode) (ops : Array Oper) (S S' : World → Prop) (i : Nat) : Prop := (∀ x, S' x → S x) ∨ ∃ o, ops[i]? = some o ∧ LoneO md ops o
def SubsO (md : Region.Mode) (ops : Array Oper) (S S' : World → Prop) (o : Oper) : Prop := (∀ x, S' x → S x) ∨ LoneO md ops o
def aftB (o : Oper) (k : Nat) : Bool := o.after.any fun e => Region.binds .any e && e.on == k
theorem aftB_iff (o : Oper) (k : Nat) : aftB o k = true ↔ aft .any o k := by
  simp only [aftB, aft, Array.any_eq_true, Bool.and_eq_true, beq_iff_eq]
  constructor
  · rintro ⟨i, hi, h1, h2⟩; exact ⟨_, Array.getElem_mem hi, h1, h2⟩
  · rintro ⟨e, he, h1, h2⟩
    obtain ⟨i, hi, rfl⟩ := Array.getElem_of_mem he
    exact ⟨i, hi, h1, h2⟩
def loneB (ops : Array Oper) (o : Oper) : Bool := (List.range ops.size).any fun j => !freeB o && (!aftB o j && ((List.range ops.size).all fun k => (k == j || aftB o k || aftB ((ops[k]?).getD default) j || freeB ((ops[k]?).getD default)) && !aftB ((ops[k]?).getD default) k))
theorem loneO_of {o : Oper} (h : loneB ops o = true) : LoneO .any ops o := by
  simp only [loneB, List.any_eq_true, List.mem_range, Bool.and_eq_true, List.all_eq_true, Bool.not_eq_true', Bool.or_eq_true, beq_iff_eq] at h
  obtain ⟨j, _, h0, h1, h2⟩ := h
  have hn : ∀ o k, aftB o k = false → ¬ aft .any o k := fun o k h c => by rw [(aftB_iff o k).2 c] at h; cases h
  refine ⟨j, h0, hn _ _ h1, fun k p hk hne => ?_, fun k p hk => ?_⟩
  · have hl : k < ops.size := (Array.getElem?_eq_some_iff.1 hk).1
    have := (h2 k hl).1
    rw [hk, Option.getD_some] at this
    rcases this with ((h | h) | h) | h
    · exact absurd h hne
    · exact .inl ((aftB_iff _ _).1 h)
    · exact .inr (.inl ((aftB_iff _ _).1 h))
    · exact .inr (.inr h)
  · have hl : k < ops.size := (Array.getElem?_eq_some_iff.1 hk).1
    have := (h2 k hl).2
    rw [hk, Option.getD_some] at this
    exact hn _ _ this

def wpAnyG (P : Program) (md : Region.Mode) (ops : Array Oper) (Q : Exit → Act → World → Prop) : Nat → (World → Prop) → Array Bool → Act → World → Prop
  | 0, _, listed, a, w => Region.ready md ops listed = [] ∧ Q .normal a w
  | fuel + 1, S, listed, a, w =>
    (Region.ready md ops listed = [] → Q .normal a w) ∧
    ∀ i ∈ Region.ready md ops listed, wpOp P ops Q i (fun a' w' => ∃ S' : World → Prop, Subs md ops S S' i ∧ S' w' ∧ wpAnyG P md ops Q fuel S' (listed.setIfInBounds i true) a' w') a w

theorem wpAny_of_G : ∀ (fuel : Nat) (S : World → Prop) (listed : Array Bool) (a : Act) (w : World), wpAnyG P md ops Q fuel S listed a w → wpAny P md ops Q fuel listed a w
  | 0, _, _, _, _, h => h
  | fuel + 1, _, _, _, _, h => ⟨h.1, fun i hi => wpOp_mono (fun a' w' ⟨S', _, _, h'⟩ => wpAny_of_G fuel S' _ a' w' h') (h.2 i hi)⟩

theorem YieldsIf_mono {S S' : World → Prop} {o : Oper} {v : Value} {a : Act} (h : YieldsIf P ops S o v a) (hs : ∀ x, S' x → S x) : YieldsIf P ops S' o v a :=
  h.imp (fun ⟨hw, hv⟩ => ⟨hw, fun w hw' => hv w (hs w hw')⟩) id

theorem wpAnyG_first {i : Nat} {oi : Oper} {v : Value} (hi : ops[i]? = some oi) (hsel : ∀ (j : Nat) (o : Oper) cs b, ops[j]? = some o → o.op ≠ .select cs b)
    (hQ : ∀ c a w, Q (.panic c) (a.put oi.dst v) w → Q (.panic c) a w) :
    ∀ (fuel : Nat) (S : World → Prop) (listed : Array Bool) (a : Act) (w : World),
      (∀ j oj, ops[j]? = some oj → j ≠ i → listed.getD j true = false → (∀ e ∈ oj.after, Region.binds md e = true → e.on ≠ i) → oi.apart ops oj = true) →
      i ∈ Region.ready md ops listed → YieldsIf P ops S oi v a → S w →
      wpAnyG P md ops Q fuel S (listed.setIfInBounds i true) (a.put oi.dst v) w → wpAnyG P md ops Q (fuel + 1) S listed a w := by
  intro fuel
  induction fuel with
  | zero =>
    intro S listed a w _ hr hy hS H
    refine ⟨fun h => (by rw [h] at hr; cases hr), fun j hj => ?_⟩
    by_cases hji : j = i
    · subst hji; exact hy.wpOp hi hS ⟨S, .inl fun _ h => h, hS, H⟩
    · have := ready_mono hj hji
      rw [H.1] at this
      cases this
  | succ fuel ih =>
    intro S listed a w hfree hr hy hS H
    refine ⟨fun h => (by rw [h] at hr; cases hr), fun j hj => ?_⟩
    by_cases hji : j = i
    · subst hji; exact hy.wpOp hi hS ⟨S, .inl fun _ h => h, hS, H⟩
    · have h1 := H.2 j (ready_mono hj hji)
      obtain ⟨hjun, oj, hoj, hall⟩ := mem_ready.1 hj
      have hnot : ∀ e ∈ oj.after, Region.binds md e = true → e.on ≠ i := fun e he hb heq => by
        have h1 := hall e he hb
        have h0 := (mem_ready.1 hr).1
        rw [heq] at h1
        rcases Nat.lt_or_ge i listed.size with h' | h'
        · simp [h'] at h0 h1; rw [h0] at h1; cases h1
        · simp [Array.getElem?_eq_none h'] at h1
      have h2 := wpOp_putIf hoj (hfree j oj hoj hji hjun hnot) (fun cs b => hsel i oi cs b hi) (fun cs b => hsel j oj cs b hoj) hQ hy h1
      have hfree' : ∀ k ok, ops[k]? = some ok → k ≠ i → (listed.setIfInBounds j true).getD k true = false →
          (∀ e ∈ ok.after, Region.binds md e = true → e.on ≠ i) → oi.apart ops ok = true := fun k ok hk hki hun hno => by
        refine hfree k ok hk hki ?_ hno
        by_cases hjk : j = k
        · subst hjk; exact hjun
        · rw [getD_set_ne true hjk] at hun; exact hun
      refine wpOp_mono (fun a' w' h3 => ?_) h2
      obtain ⟨hy', S', hsub, hS', h4⟩ := h3
      have hyy : YieldsIf P ops S' oi v a' := by
        rcases hsub with h | ⟨o, ho, hl⟩
        · exact YieldsIf_mono hy' h
        · rw [hoj] at ho
          injection ho with ho
          subst ho
          rcases hl.at hoj i oi hi (Ne.symm hji) with ⟨e, he, hb, hk⟩ | ⟨e, he, hb, hk⟩ | hf
          · exact absurd hk (hnot e he hb)
          · exfalso
            obtain ⟨_, oi', hoi, hall2⟩ := mem_ready.1 hr
            rw [hi] at hoi
            injection hoi with hoi
            subst hoi
            have h1 := hall2 e he hb
            rw [hk] at h1
            rcases Nat.lt_or_ge j listed.size with h' | h'
            · simp [h'] at hjun h1; rw [hjun] at h1; cases h1
            · simp [Array.getElem?_eq_none h'] at h1
          · rcases hy' with ⟨hw, hv⟩ | hy'
            · exact .inl ⟨hw, fun x _ => free_of hf P _ _ w x (hv w hS)⟩
            · exact .inr hy'
      refine ⟨S', hsub, hS', ih S' (listed.setIfInBounds j true) a' w' hfree' (ready_mono hr (Ne.symm hji)) hyy hS' ?_⟩
      rw [Array.setIfInBounds_comm _ _ hji]
      exact h4

/-- The one order: a number, and whether it does more than yield a value. -/
def RunOrder (P : Program) (md : Region.Mode) (ops : Array Oper) (Q : Exit → Act → World → Prop) : List (Nat × Bool) → (World → Prop) → Act → World → Prop
  | [], _, a, w => Q .normal a w
  | (i, false) :: r, S, a, w => ∃ o v, ops[i]? = some o ∧ YieldsIf P ops S o v a ∧ RunOrder P md ops Q r S (a.put o.dst v) w
  | (i, true) :: r, S, a, w => wpOp P ops Q i (fun a' w' => ∃ S' : World → Prop, Subs md ops S S' i ∧ S' w' ∧ RunOrder P md ops Q r S' a' w') a w

def orderOk (md : Region.Mode) (ops : Array Oper) : List (Nat × Bool) → Array Bool → Bool
  | [], listed => (Region.ready md ops listed).isEmpty
  | (i, false) :: r, listed => (Region.ready md ops listed).contains i && Region.free md ops listed i && orderOk md ops r (listed.setIfInBounds i true)
  | (i, true) :: r, listed => Region.ready md ops listed == [i] && orderOk md ops r (listed.setIfInBounds i true)

theorem wpAnyG_order (hs : Region.noSelect ops = true) (hQ : ∀ c a d v w, Q (.panic c) (Act.put a d v) w → Q (.panic c) a w) : ∀ (π : List (Nat × Bool)) (S : World → Prop) (listed : Array Bool) (a : Act) (w : World),
    S w → orderOk md ops π listed = true → RunOrder P md ops Q π S a w → wpAnyG P md ops Q π.length S listed a w := by
  intro π
  induction π with
  | nil =>
    intro S listed a w hS ho h
    simp only [orderOk, List.isEmpty_iff] at ho
    exact ⟨ho, h⟩
  | cons x r ih =>
    obtain ⟨i, b⟩ := x
    intro S listed a w hS ho h
    cases b with
    | false =>
      simp only [orderOk, Bool.and_eq_true] at ho
      obtain ⟨o, v, hi, hy, hrest⟩ := h
      exact wpAnyG_first hi (Region.noSelect_spec hs) (fun c a w => hQ c a o.dst v w) r.length S listed a w (Region.free_spec hi ho.1.2) (by simpa using ho.1.1) hy hS (ih S _ _ w hS ho.2 hrest)
    | true =>
      simp only [orderOk, Bool.and_eq_true, beq_iff_eq] at ho
      refine ⟨fun h0 => (by rw [ho.1] at h0; cases h0), fun j hj => ?_⟩
      rw [ho.1] at hj
      obtain rfl : j = i := by simpa using hj
      exact wpOp_mono (fun a' w' ⟨S', hsub, hS', h'⟩ => ⟨S', hsub, hS', ih S' _ a' w' hS' ho.2 h'⟩) h

/-- The same with the operations themselves in a row. -/
def RunL (P : Program) (ops : Array Oper) (Q : Exit → Act → World → Prop) : List (Oper × Bool) → (World → Prop) → Act → World → Prop
  | [], _, a, w => Q .normal a w
  | (o, false) :: r, S, a, w => ∃ v, YieldsIf P ops S o v a ∧ RunL P ops Q r S (a.put o.dst v) w
  | (o, true) :: r, S, a, w =>
    if Region.wanted o (yielded ops a.tmps) = true then o.wp P a w (fun a' w' => ∃ S' : World → Prop, SubsO .any ops S S' o ∧ S' w' ∧ RunL P ops Q r S' a' w') Q
    else ∃ S' : World → Prop, (∀ x, S' x → S x) ∧ S' w ∧ RunL P ops Q r S' (a.put o.dst undef) w

theorem run_of_L : ∀ (π : List (Nat × Bool)) (S : World → Prop) (listed : Array Bool) (a : Act) (w : World), orderOk .any ops π listed = true →
    RunL P ops Q (π.map fun p => ((ops[p.1]?).getD default, p.2)) S a w → RunOrder P Region.Mode.any ops Q π S a w := by
  intro π
  induction π with
  | nil => intro S listed a w _ h; exact h
  | cons x r ih =>
    obtain ⟨i, b⟩ := x
    intro S listed a w ho h
    cases b with
    | false =>
      simp only [orderOk, Bool.and_eq_true] at ho
      obtain ⟨_, o, hi, _⟩ := mem_ready.1 (show i ∈ Region.ready Region.Mode.any ops listed by simpa using ho.1.1)
      simp only [List.map_cons, hi, Option.getD_some] at h
      obtain ⟨v, hy, hr⟩ := h
      exact ⟨o, v, hi, hy, ih S _ _ w ho.2 hr⟩
    | true =>
      simp only [orderOk, Bool.and_eq_true, beq_iff_eq] at ho
      obtain ⟨_, o, hi, _⟩ := mem_ready.1 (show i ∈ Region.ready Region.Mode.any ops listed by rw [ho.1]; simp)
      simp only [List.map_cons, hi, Option.getD_some, RunL] at h
      show wpOp P ops Q i _ a w
      unfold wpOp
      rw [hi]
      show if Region.wanted o (yielded ops a.tmps) = true then _ else _
      split at h
      · rename_i hw
        rw [if_pos hw]
        exact .inl (Oper.wp_mono (fun a' w' ⟨S', h1, h2, h3⟩ => ⟨S', h1.imp id (fun h => ⟨o, hi, h⟩), h2, ih S' _ a' w' ho.2 h3⟩) h)
      · rename_i hw
        rw [if_neg hw]
        obtain ⟨S', h1, h2, h3⟩ := h
        exact ⟨S', .inl h1, h2, ih S' _ _ w ho.2 h3⟩

/-- THE REGION, in one order. -/
theorem wp_region_order {id : Nat} {a : Act} {w : World} (π : List (Nat × Bool)) (S : World → Prop) (hm : P.follows .mixedOrders = true) (hs : Region.noSelect ops = true)
    (hl : π.length = ops.size) (hok : orderOk .any ops π (Array.replicate ops.size false) = true) (hQ : ∀ c a d v w, Q (.panic c) (Act.put a d v) w → Q (.panic c) a w) (hS : S w.drew)
    (h : RunL P ops Q (π.map fun p => ((ops[p.1]?).getD default, p.2)) S a w.drew) : (Code.region id ops true).wp P Q a w := by
  have h' := wpAnyG_order hs hQ π S _ a w.drew hS hok (run_of_L π S _ a w.drew hok h)
  rw [hl] at h'
  exact wp_region_any hm (wpAny_of_G _ S _ _ _ h')

theorem ro_nil {S : World → Prop} {a : Act} {w : World} (h : Q .normal a w) : RunL P ops Q [] S a w := h
theorem ro_q {S : World → Prop} {a : Act} {w : World} {r : List (Oper × Bool)} {o : Oper} (hw : Region.wanted o (yielded ops a.tmps) = true)
    {v : Value} (hv : ∀ w, S w → (execOp a.eval o).run P w = .ok (.value v) w) (h : RunL P ops Q r S (a.put o.dst v) w) : RunL P ops Q ((o, false) :: r) S a w :=
  ⟨v, .inl ⟨hw, hv⟩, h⟩
theorem ro_skip {S : World → Prop} {a : Act} {w : World} {r : List (Oper × Bool)} {o : Oper} (hw : Region.wanted o (yielded ops a.tmps) = false)
    (h : RunL P ops Q r S (a.put o.dst undef) w) : RunL P ops Q ((o, false) :: r) S a w :=
  ⟨undef, .inr ⟨hw, rfl⟩, h⟩
theorem ro_skipL {S : World → Prop} {a : Act} {w : World} {r : List (Oper × Bool)} {o : Oper} (hw : Region.wanted o (yielded ops a.tmps) = false) (hS : S w)
    (h : RunL P ops Q r S (a.put o.dst undef) w) : RunL P ops Q ((o, true) :: r) S a w := by
  unfold RunL
  rw [if_neg (by rw [hw]; simp)]
  exact ⟨S, fun _ h => h, hS, h⟩
theorem ro_loud {S : World → Prop} {a : Act} {w : World} {r : List (Oper × Bool)} {o : Oper} (hw : Region.wanted o (yielded ops a.tmps) = true)
    (h : ∀ K : Act → World → Prop, Shut (∀ a' w' (S' : World → Prop), ((∀ x, S' x → S x) ∨ loneB ops o = true) → S' w' → RunL P ops Q r S' a' w' → K a' w') → o.wp P a w K Q) : RunL P ops Q ((o, true) :: r) S a w := by
  unfold RunL
  rw [if_pos hw]
  exact h _ (fun a' w' S' h1 h2 h3 => ⟨S', h1.imp id loneO_of, h2, h3⟩)
end
attribute [irreducible] RunL
end Go.Proofs.YtmacceamebdelaaDoor.Sole
