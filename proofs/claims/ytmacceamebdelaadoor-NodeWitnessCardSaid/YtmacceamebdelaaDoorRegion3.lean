/- A region that draws its order, where at times two operations that do more than yield a value may come up: both ways are walked. -/
import Derived.Test.YtmacceamebdelaaDoorBas
namespace Go.Proofs.YtmacceamebdelaaDoor.Twin
section
variable {P : Program} {ops : Array Oper} {Q : Exit → Act → World → Prop}

/-- The order: operations by number; q: it yields a value; l: it does more; l2: two may come up that do more. -/
inductive Ord
  | nil
  | q (i : Nat) (r : Ord)
  | l (i : Nat) (r : Ord)
  | l2 (i j : Nat) (r s : Ord)
def Ord.len : Ord → Nat
  | .nil => 0
  | .q _ r => r.len + 1
  | .l _ r => r.len + 1
  | .l2 _ _ r _ => r.len + 1
/-- The same with the operations themselves. -/
inductive OrdO
  | nil
  | q (o : Oper) (r : OrdO)
  | l (o : Oper) (r : OrdO)
  | l2 (o p : Oper) (r s : OrdO)
def Ord.opers (ops : Array Oper) : Ord → OrdO
  | .nil => .nil
  | .q i r => .q ((ops[i]?).getD default) (r.opers ops)
  | .l i r => .l ((ops[i]?).getD default) (r.opers ops)
  | .l2 i j r s => .l2 ((ops[i]?).getD default) ((ops[j]?).getD default) (r.opers ops) (s.opers ops)
def okO (ops : Array Oper) : Ord → Array Bool → Bool
  | .nil, listed => (Region.ready .any ops listed).isEmpty
  | .q i r, listed => (Region.ready .any ops listed).contains i && Region.free .any ops listed i && okO ops r (listed.setIfInBounds i true)
  | .l i r, listed => Region.ready .any ops listed == [i] && okO ops r (listed.setIfInBounds i true)
  | .l2 i j r s, listed => Region.ready .any ops listed == [i, j] && (r.len == s.len && (okO ops r (listed.setIfInBounds i true) && okO ops s (listed.setIfInBounds j true)))
def Loud (P : Program) (ops : Array Oper) (Q : Exit → Act → World → Prop) (o : Oper) (next : (World → Prop) → Act → World → Prop) (S : World → Prop) (a : Act) (w : World) : Prop :=
  if Region.wanted o (yielded ops a.tmps) = true then o.wp P a w (fun a' w' => ∃ S' : World → Prop, Lone.SubsO .any ops S S' o ∧ S' w' ∧ next S' a' w') Q
  else ∃ S' : World → Prop, (∀ x, S' x → S x) ∧ S' w ∧ next S' (a.put o.dst undef) w
def RunT (P : Program) (ops : Array Oper) (Q : Exit → Act → World → Prop) : OrdO → (World → Prop) → Act → World → Prop
  | .nil, _, a, w => Q .normal a w
  | .q o r, S, a, w => ∃ v, YieldsIf P ops S o v a ∧ RunT P ops Q r S (a.put o.dst v) w
  | .l o r, S, a, w => Loud P ops Q o (fun S' a' w' => RunT P ops Q r S' a' w') S a w
  | .l2 o p r s, S, a, w => Loud P ops Q o (fun S' a' w' => RunT P ops Q r S' a' w') S a w ∧ Loud P ops Q p (fun S' a' w' => RunT P ops Q s S' a' w') S a w

theorem loud_op {i : Nat} {o : Oper} (hi : ops[i]? = some o) {next K : (World → Prop) → Act → World → Prop} (hk : ∀ S a w, S w → next S a w → K S a w) {S : World → Prop} {a : Act} {w : World} (h : Loud P ops Q o next S a w) :
    wpOp P ops Q i (fun a' w' => ∃ S' : World → Prop, Lone.Subs .any ops S S' i ∧ S' w' ∧ K S' a' w') a w := by
  unfold Loud at h
  unfold wpOp
  rw [hi]
  show if Region.wanted o (yielded ops a.tmps) = true then _ else _
  split at h
  · rename_i hw
    rw [if_pos hw]
    exact .inl (Oper.wp_mono (fun a' w' ⟨S', h1, h2, h3⟩ => ⟨S', h1.imp id (fun h => ⟨o, hi, h⟩), h2, hk _ _ _ h2 h3⟩) h)
  · rename_i hw
    rw [if_neg hw]
    obtain ⟨S', h1, h2, h3⟩ := h
    exact ⟨S', .inl h1, h2, hk _ _ _ h2 h3⟩

theorem wpAnyG_ord (hs : Region.noSelect ops = true) (hQ : ∀ c a d v w, Q (.panic c) (Act.put a d v) w → Q (.panic c) a w) : ∀ (π : Ord) (S : World → Prop) (listed : Array Bool) (a : Act) (w : World),
    S w → okO ops π listed = true → RunT P ops Q (π.opers ops) S a w → Lone.wpAnyG P .any ops Q π.len S listed a w := by
  intro π
  induction π with
  | nil =>
    intro S listed a w hS ho h
    simp only [okO, List.isEmpty_iff] at ho
    exact ⟨ho, h⟩
  | q i r ih =>
    intro S listed a w hS ho h
    simp only [okO, Bool.and_eq_true] at ho
    obtain ⟨_, o, hi, _⟩ := mem_ready.1 (show i ∈ Region.ready Region.Mode.any ops listed by simpa using ho.1.1)
    simp only [Ord.opers, hi, Option.getD_some] at h
    obtain ⟨v, hy, hrest⟩ := h
    exact Lone.wpAnyG_first hi (Region.noSelect_spec hs) (fun c a w => hQ c a o.dst v w) r.len S listed a w (Region.free_spec hi ho.1.2) (by simpa using ho.1.1) hy hS (ih S _ _ w hS ho.2 hrest)
  | l i r ih =>
    intro S listed a w hS ho h
    simp only [okO, Bool.and_eq_true, beq_iff_eq] at ho
    refine ⟨fun h0 => (by rw [ho.1] at h0; cases h0), fun j hj => ?_⟩
    obtain ⟨_, o, hi, _⟩ := mem_ready.1 hj
    rw [ho.1] at hj
    obtain rfl : j = i := by simpa using hj
    simp only [Ord.opers, hi, Option.getD_some, RunT] at h
    exact loud_op hi (fun S' a' w' hS' h' => ih S' _ a' w' hS' ho.2 h') h
  | l2 i k r s ihr ihs =>
    intro S listed a w hS ho h
    simp only [okO, Bool.and_eq_true, beq_iff_eq] at ho
    obtain ⟨hrd, hlen, hor, hos⟩ := ho
    obtain ⟨_, oi, hi, _⟩ := mem_ready.1 (show i ∈ Region.ready Region.Mode.any ops listed by rw [hrd]; simp)
    obtain ⟨_, ok, hk, _⟩ := mem_ready.1 (show k ∈ Region.ready Region.Mode.any ops listed by rw [hrd]; simp)
    simp only [Ord.opers, hi, hk, Option.getD_some, RunT] at h
    refine ⟨fun h0 => (by rw [hrd] at h0; cases h0), fun j hj => ?_⟩
    rw [hrd] at hj
    simp only [List.mem_cons, List.not_mem_nil, or_false] at hj
    rcases hj with rfl | rfl
    · exact loud_op hi (fun S' a' w' hS' h' => ihr S' _ a' w' hS' hor h') h.1
    · refine loud_op hk (fun S' a' w' hS' h' => ?_) h.2
      have := ihs S' _ a' w' hS' hos h'
      rwa [← hlen] at this

/-- THE REGION, by its order. -/
theorem wp_region_order {id : Nat} {a : Act} {w : World} (π : Ord) (S : World → Prop) (hm : P.follows .mixedOrders = true) (hs : Region.noSelect ops = true)
    (hl : π.len = ops.size) (hok : okO ops π (Array.replicate ops.size false) = true) (hQ : ∀ c a d v w, Q (.panic c) (Act.put a d v) w → Q (.panic c) a w) (hS : S w.drew)
    (h : RunT P ops Q (π.opers ops) S a w.drew) : (Code.region id ops true).wp P Q a w := by
  have h' := wpAnyG_ord hs hQ π S _ a w.drew hS hok h
  rw [hl] at h'
  exact wp_region_any hm (Lone.wpAny_of_G _ S _ _ _ h')

theorem ro_nil {S : World → Prop} {a : Act} {w : World} (h : Q .normal a w) : RunT P ops Q .nil S a w := h
theorem ro_q {S : World → Prop} {a : Act} {w : World} {r : OrdO} {o : Oper} (hw : Region.wanted o (yielded ops a.tmps) = true)
    {v : Value} (hv : ∀ w, S w → (execOp a.eval o).run P w = .ok (.value v) w) (h : RunT P ops Q r S (a.put o.dst v) w) : RunT P ops Q (.q o r) S a w :=
  ⟨v, .inl ⟨hw, hv⟩, h⟩
theorem ro_skip {S : World → Prop} {a : Act} {w : World} {r : OrdO} {o : Oper} (hw : Region.wanted o (yielded ops a.tmps) = false)
    (h : RunT P ops Q r S (a.put o.dst undef) w) : RunT P ops Q (.q o r) S a w :=
  ⟨undef, .inr ⟨hw, rfl⟩, h⟩
theorem ro_skipL {S : World → Prop} {a : Act} {w : World} {r : OrdO} {o : Oper} (hw : Region.wanted o (yielded ops a.tmps) = false) (hS : S w)
    (h : RunT P ops Q r S (a.put o.dst undef) w) : RunT P ops Q (.l o r) S a w := by
  show Loud _ _ _ _ _ _ _ _
  unfold Loud
  rw [if_neg (by rw [hw]; simp)]
  exact ⟨S, fun _ h => h, hS, h⟩
theorem ro_loud {S : World → Prop} {a : Act} {w : World} {r : OrdO} {o : Oper} (hw : Region.wanted o (yielded ops a.tmps) = true)
    (h : ∀ K : Act → World → Prop, Shut (∀ a' w' (S' : World → Prop), ((∀ x, S' x → S x) ∨ Lone.loneB ops o = true) → S' w' → RunT P ops Q r S' a' w' → K a' w') → o.wp P a w K Q) : RunT P ops Q (.l o r) S a w := by
  show Loud _ _ _ _ _ _ _ _
  unfold Loud
  rw [if_pos hw]
  exact h _ (fun a' w' S' h1 h2 h3 => ⟨S', h1.imp id Lone.loneO_of, h2, h3⟩)
theorem ro_two {S : World → Prop} {a : Act} {w : World} {r s : OrdO} {o p : Oper} (h1 : RunT P ops Q (.l o r) S a w) (h2 : RunT P ops Q (.l p s) S a w) : RunT P ops Q (.l2 o p r s) S a w := ⟨h1, h2⟩
end
attribute [irreducible] RunT
end Go.Proofs.YtmacceamebdelaaDoor.Twin
