/- Rows of bytes with a mark behind their end ('[]byte(s)'): append of one. -/
import Derived.Test.YtinhjnbgblieeaaDoorKit
import Derived.Laws.IdiomStrings
import Derived.Laws.OwnMore
namespace Go.Proofs.YtinhjnbgblieeaaDoor
open Go.RowKit
set_option linter.unusedVariables false
set_option linter.unusedSimpArgs false

/-- A row of single cells that the call made itself; what is frozen lies behind its end. -/
def ownsM (w : World) (base : Nat) (e : TypeId) (v : Value) (xs : List Value) : Prop :=
  ∃ (g cap : Nat) (cur : Array Value) (lo hi : Nat), v = .slice (some ⟨g, 0, none⟩) xs.length cap ∧ base ≤ g ∧ w.heap[g]? = some (.cells cur e (lo, hi)) ∧ (cur.size ≤ lo ∨ hi = 0) ∧ xs.length ≤ cap ∧ cap ≤ maxLen ∧ cur.size = cap ∧ cur.toList.take xs.length = xs

theorem ownsM_block {w w' : World} {base : Nat} {e : TypeId} {v : Value} {xs : List Value} (h : ownsM w base e v xs) (hb : Below w.heap.size w w') : ownsM w' base e v xs := by
  obtain ⟨g, cap, cur, lo, hi, h1, h2, h3, h4⟩ := h
  exact ⟨g, cap, cur, lo, hi, h1, h2, by rw [hb.block _ (Array.getElem?_eq_some_iff.1 h3).1]; exact h3, h4⟩

theorem ownsM_bytes (w : World) (base : Nat) (e : TypeId) (s : ByteArray) (hb : base ≤ w.heap.size) (hm : s.size ≤ maxLen) :
    ownsM (w.drew.alloc (.cells (bytesRow s (grownCap w s.size 0 e)) e ((bytesRow s (grownCap w s.size 0 e)).size, (bytesRow s (grownCap w s.size 0 e)).size + 1))) base e
      (.slice (some ⟨w.heap.size, 0, none⟩) s.size (grownCap w s.size 0 e)) (bvs s.data.toList) := by
  have hl : (bvs s.data.toList).length = s.size := by simp [bvs, toList_length]
  have hge := grownCap_ge w s.size 0 e
  refine ⟨w.heap.size, grownCap w s.size 0 e, _, _, _, by rw [hl], hb, heap_alloc_new w.drew _, .inl (Nat.le_refl _), by omega, grownCap_le_maxLen w s.size 0 e hm, ?_, ?_⟩
  · simp only [bytesRow, Array.size_append, Array.size_map, Array.size_replicate]
    have : s.data.size = s.size := rfl
    omega
  · simp only [bytesRow, Array.toList_append]
    rw [List.take_append_of_le_length (by simp [hl]), List.take_of_length_le (by simp [hl])]
    simp [bvs]

theorem run_append1_room {P : Program} (w : World) (t ty e : TypeId) (i : TypeInfo) (ht : P.underlying t = some (.slice e)) (hi : P.info? e = some i) (hs : i.size = 1)
    (g n cap : Nat) (cur : Array Value) (lo hf : Nat) (hg : w.heap[g]? = some (.cells cur e (lo, hf))) (hlo : cur.size ≤ lo ∨ hf = 0)
    (ad : Addr) (c : Nat) (u : Value) (hu : w.cell? (ad.add 0) = some u) (h1 : u.oneCell' = true) (hroom : n + 1 ≤ cap) (hfit : n < cur.size) :
    (Builtin.append_ #[t, t] ty #[.slice (some ⟨g, 0, none⟩) n cap, .slice (some ad) 1 c]).run P w = .ok (.slice (some ⟨g, 0, none⟩) (n + 1) cap) (w.setCell ⟨g, n, none⟩ u) := by
  have hfc := run_firstCells_some (P := P) w i.size 1 ad 1 c [u] (by simp [hs]) (by
    intro j x hj
    rcases j with _ | j
    · simp at hj; subst hj; exact hu
    · simp at hj)
  have hcell : w.cell? ⟨g, n, none⟩ = some cur[n] := by simp [World.cell?, hg, hfit]
  have hfro : w.frozen? ⟨g, n, none⟩ = false := by
    simp only [World.frozen?, hg]
    rcases hlo with h | h
    · simp; omega
    · simp; omega
  have hadd : (⟨g, n, none⟩ : Addr).add 0 = ⟨g, n, none⟩ := by unfold Addr.add; split <;> simp_all
  have hst : (storeCells ⟨g, n, none⟩ [u] 0).run P w = .ok () (w.setCell ⟨g, n, none⟩ u) := by
    simp only [storeCells, Sem.run_bind, hadd]
    rw [run_store P w _ u _ h1, hcell]
    simp [hfro]
  rw [hs] at hfc
  simp [Builtin.append_, run_underlying ht, sizeOf, typeInfo, hi, hs, Builtin.lenOf, hroom, hfc, Addr.add_lit, hst]

/-- 'append(s, x)', x one cell that lies in a new block, s a row that may bear a mark. -/
theorem wpList_append1M {P : Program} {w w0 : World} {B : Nat} {ops : Array Oper} {rest : List Oper} {o : Oper} {a : Act} {Q : Exit → Act → World → Prop} (hgd : o.guard = none) (s x : Operand) (t : TypeId)
    (ho : o.op = .call { callee := .builtin .append, args := #[s, x], argTypes := #[t, t] })
    {base : Nat} {e : TypeId} {z : Value} (hinf : infoIs P e z 1 1) (ht : P.underlying t = some (.slice e)) (hzs : z.cells.size = 1)
    {v : Value} {xs : List Value} (hown : ownsM w base e v xs) (hbel : Below B w0 w) (hB : B ≤ base) (hb : base ≤ w.heap.size)
    {u : Value} (h1 : u.oneCell' = true) (hbytes : xs.length + 1 ≤ 140737488355328)
    (hs : a.eval s = v) (hx : a.eval x = .slice (some ⟨w.heap.size, 0, none⟩) 1 1)
    (h : ∀ v' w', ownsM w' base e v' (xs ++ [u]) → Below B w0 w' → wpList P ops Q rest (a.put o.dst v') w') : wpList P ops Q (o :: rest) a (w.alloc (.cells #[u] e)) := by
  obtain ⟨i, hi, hz, hsize, hbt⟩ := info_parts hinf
  obtain ⟨g, cap, cur, lo, hf, rfl, hbg, hg, hlo, hnc, hcm, hcs, htake⟩ := hown
  have hgl := (Array.getElem?_eq_some_iff.1 hg).1
  have hcell : ∀ j v, [u][j]? = some v → (w.alloc (.cells #[u] e)).cell? ((⟨w.heap.size, 0, none⟩ : Addr).add j) = some v := by
    intro j v hj
    rw [addr_add, Nat.zero_add]
    exact cell_block j v (by simpa using hj)
  have hg' : (w.alloc (.cells #[u] e)).heap[g]? = some (.cells cur e (lo, hf)) := by rw [Below.heap_alloc _ _ _ hgl]; exact hg
  have hbA : Below B w0 (w.alloc (.cells #[u] e)) := hbel.alloc (by omega) _
  refine wpList_plain hgd fun K hK => ?_
  by_cases hroom : xs.length + 1 ≤ cap
  · have hr := run_append1_room (P := P) (w.alloc (.cells #[u] e)) t o.type e i ht hi hsize g xs.length cap cur lo hf hg' hlo ⟨w.heap.size, 0, none⟩ 1 u (hcell 0 u rfl) h1 hroom (by omega)
    unfold Oper.wp execOp
    simp only [ho, resolve, invoke, builtin, Sem.run_bind, Sem.run_pure, Result.andThen_ok, List.map_toArray, List.map_cons, List.map_nil, hs, hx, hr]
    refine hK _ _ (h _ _ ⟨g, cap, cur.setIfInBounds xs.length u, lo, hf, by simp, hbg, ?_, by simpa using hlo, by simpa using hroom, hcm, by simpa using hcs, ?_⟩ (hbA.setCell (by simp; omega) _))
    · rw [setCell_eq_setRow _ g xs.length cur e (lo, hf) u hg', setRow_heap _ g cur _ e (lo, hf) hg']
    · have hx : xs.length < cur.toList.length := by simp; omega
      rw [List.length_append, Array.toList_setIfInBounds]
      simp only [List.length_cons, List.length_nil, Nat.zero_add]
      rw [List.take_add_one, List.take_set_of_le (Nat.le_refl _), htake, List.getElem?_set_self hx]
      rfl
  · have hold : ∀ j v, xs[j]? = some v → (w.alloc (.cells #[u] e)).cell? ((⟨g, 0, none⟩ : Addr).add j) = some v := by
      intro j v hj
      rw [addr_add, Nat.zero_add, cell_of_row _ g j cur e (lo, hf) hg']
      rw [← htake, List.getElem?_take] at hj
      split at hj
      · simpa using hj
      · cases hj
    have hr := run_append_grow (P := P) (w.alloc (.cells #[u] e)) t o.type e i z ht hi hz ⟨g, 0, none⟩ xs.length cap xs (by simp [hsize]) hold ⟨w.heap.size, 0, none⟩ 1 1 [u] (by simp [hsize]) hcell (by omega) (by omega) (growslice_fits (by omega) (by rw [hbt]; omega))
    unfold Oper.wp execOp
    simp only [ho, resolve, invoke, builtin, Sem.run_bind, Sem.run_pure, Result.andThen_ok, List.map_toArray, List.map_cons, List.map_nil, hs, hx, hr]
    have hge := grownCap_ge (w.alloc (.cells #[u] e)) (xs.length + 1) cap e
    refine hK _ _ (h _ _ ⟨(w.alloc (.cells #[u] e)).heap.size, grownCap (w.alloc (.cells #[u] e)) (xs.length + 1) cap e, _, 0, 0, by rw [List.length_append]; rfl, ?_, heap_alloc_new _ _, .inr rfl, by simpa using hge, grownCap_le_maxLen _ _ _ _ (by unfold maxLen; omega), ?_, ?_⟩ (hbA.drew.alloc (by simp; omega) _))
    · simp; omega
    · simp [size_zeroCells, hzs]; omega
    · simp only [Array.toList_append]
      exact List.take_left

/-- 'append(s, x ..)', the m cells of x in a new block. -/
theorem wpList_appendN {P : Program} {w w0 : World} {B : Nat} {ops : Array Oper} {rest : List Oper} {o : Oper} {a : Act} {Q : Exit → Act → World → Prop} (hgd : o.guard = none) (s x : Operand) (t : TypeId)
    (ho : o.op = .call { callee := .builtin .append, args := #[s, x], argTypes := #[t, t] })
    {base : Nat} {e : TypeId} {z : Value} (hinf : infoIs P e z 1 1) (ht : P.underlying t = some (.slice e)) (hzs : z.cells.size = 1)
    {v : Value} {n : Nat} {xs : List Value} (hown : w.ownsRow base e 1 v n xs) (hbel : Below B w0 w) (hB : B ≤ base) (hb : base ≤ w.heap.size)
    (m : Nat) {cs : Array Value} (hcs : cs.size = m) (h1 : ∀ u ∈ cs.toList, u.oneCell' = true) (hbytes : n + m ≤ 140737488355328)
    (hs : a.eval s = v) (hx : a.eval x = .slice (some ⟨w.heap.size, 0, none⟩) m m)
    (h : ∀ v' w', w'.ownsRow base e 1 v' (n + m) (xs ++ cs.toList) → Below B w0 w' → wpList P ops Q rest (a.put o.dst v') w') : wpList P ops Q (o :: rest) a (w.alloc (.cells cs e)) := by
  obtain ⟨i, hi, hz, hsize, hbt⟩ := info_parts hinf
  refine wpList_append_own _ hgd s x t ho base e i z 1 1 ht hi hz hsize hbt hzs (by decide) v n xs hs (hown.alloc _) ⟨w.heap.size, 0, none⟩ m m cs.toList hx (by simp [hcs]) ?_ h1 (by unfold maxLen; omega) (by simpa using hbytes) (by simp; omega) ?_
  · intro j u hu
    rw [addr_add, Nat.zero_add]
    exact cell_block j u (by simpa using hu)
  · intro v' w' hown' hgrow _
    refine h v' w' hown' ?_
    refine (hbel.alloc (by omega) _).grown hgrow (by simp; omega) ?_
    intro k hk
    have := (hown.lt k hk).1; omega
/-- 'append(s, x ..)', the same; which block may have turned is told. -/
theorem wpList_appendNg {P : Program} {w w0 : World} {B : Nat} {ops : Array Oper} {rest : List Oper} {o : Oper} {a : Act} {Q : Exit → Act → World → Prop} (hgd : o.guard = none) (s x : Operand) (t : TypeId)
    (ho : o.op = .call { callee := .builtin .append, args := #[s, x], argTypes := #[t, t] })
    {base : Nat} {e : TypeId} {z : Value} (hinf : infoIs P e z 1 1) (ht : P.underlying t = some (.slice e)) (hzs : z.cells.size = 1)
    {v : Value} {n : Nat} {xs : List Value} (hown : w.ownsRow base e 1 v n xs) (hbel : Below B w0 w) (hB : B ≤ base) (hb : base ≤ w.heap.size)
    (m : Nat) {cs : Array Value} (hcs : cs.size = m) (h1 : ∀ u ∈ cs.toList, u.oneCell' = true) (hbytes : n + m ≤ 140737488355328)
    (hs : a.eval s = v) (hx : a.eval x = .slice (some ⟨w.heap.size, 0, none⟩) m m)
    (h : ∀ v' w', w'.ownsRow base e 1 v' (n + m) (xs ++ cs.toList) → (∀ k, k < w.heap.size → some k ≠ v.ownBlock → w'.heap[k]? = w.heap[k]?) → Below B w0 w' → wpList P ops Q rest (a.put o.dst v') w') : wpList P ops Q (o :: rest) a (w.alloc (.cells cs e)) := by
  obtain ⟨i, hi, hz, hsize, hbt⟩ := info_parts hinf
  refine wpList_append_own _ hgd s x t ho base e i z 1 1 ht hi hz hsize hbt hzs (by decide) v n xs hs (hown.alloc _) ⟨w.heap.size, 0, none⟩ m m cs.toList hx (by simp [hcs]) ?_ h1 (by unfold maxLen; omega) (by simpa using hbytes) (by simp; omega) ?_
  · intro j u hu
    rw [addr_add, Nat.zero_add]
    exact cell_block j u (by simpa using hu)
  · intro v' w' hown' hgrow _
    refine h v' w' hown' (fun k hk hne => by rw [hgrow.block k (by simp; omega) hne, Below.heap_alloc _ _ _ hk]) ?_
    refine (hbel.alloc (by omega) _).grown hgrow (by simp; omega) ?_
    intro k hk
    have := (hown.lt k hk).1; omega
/-- 'append(s, x ..)', the same; which block may have turned is told. -/
theorem wp_appendNg {P : Program} {w w0 : World} {B : Nat} {o : Oper} {a : Act} {K : Act → World → Prop} {Q : Exit → Act → World → Prop} (s x : Operand) (t : TypeId)
    (ho : o.op = .call { callee := .builtin .append, args := #[s, x], argTypes := #[t, t] })
    {base : Nat} {e : TypeId} {z : Value} (hinf : infoIs P e z 1 1) (ht : P.underlying t = some (.slice e)) (hzs : z.cells.size = 1)
    {v : Value} {n : Nat} {xs : List Value} (hown : w.ownsRow base e 1 v n xs) (hbel : Below B w0 w) (hB : B ≤ base) (hb : base ≤ w.heap.size)
    (m : Nat) {cs : Array Value} (hcs : cs.size = m) (h1 : ∀ u ∈ cs.toList, u.oneCell' = true) (hbytes : n + m ≤ 140737488355328)
    (hs : a.eval s = v) (hx : a.eval x = .slice (some ⟨w.heap.size, 0, none⟩) m m)
    (h : ∀ v' w', w'.ownsRow base e 1 v' (n + m) (xs ++ cs.toList) → (∀ k, k < w.heap.size → some k ≠ v.ownBlock → w'.heap[k]? = w.heap[k]?) → Below B w0 w' → K (a.put o.dst v') w') : o.wp P a (w.alloc (.cells cs e)) K Q := by
  obtain ⟨i, hi, hz, hsize, hbt⟩ := info_parts hinf
  refine wp_append_own _ s x t ho base e i z 1 1 ht hi hz hsize hbt hzs (by decide) v n xs hs (hown.alloc _) ⟨w.heap.size, 0, none⟩ m m cs.toList hx (by simp [hcs]) ?_ h1 (by unfold maxLen; omega) (by simpa using hbytes) (by simp; omega) ?_
  · intro j u hu
    rw [addr_add, Nat.zero_add]
    exact cell_block j u (by simpa using hu)
  · intro v' w' hown' hgrow _
    refine h v' w' hown' (fun k hk hne => by rw [hgrow.block k (by simp; omega) hne, Below.heap_alloc _ _ _ hk]) ?_
    refine (hbel.alloc (by omega) _).grown hgrow (by simp; omega) ?_
    intro k hk
    have := (hown.lt k hk).1; omega
/-- 'append(s, x ..)' within the capacity: the value is known. -/
theorem wp_appendNf {P : Program} {w w0 : World} {B : Nat} {o : Oper} {a : Act} {K : Act → World → Prop} {Q : Exit → Act → World → Prop} (s x : Operand) (t : TypeId)
    (ho : o.op = .call { callee := .builtin .append, args := #[s, x], argTypes := #[t, t] })
    {base : Nat} {e : TypeId} {z : Value} (hinf : infoIs P e z 1 1) (ht : P.underlying t = some (.slice e))
    {g n cap : Nat} {xs : List Value} (hown : w.ownsRow base e 1 (.slice (some ⟨g, 0, none⟩) n cap) n xs) (hbel : Below B w0 w) (hB : B ≤ base) (hb : base ≤ w.heap.size)
    (m : Nat) {cs : Array Value} (hcs : cs.size = m) (h1 : ∀ u ∈ cs.toList, u.oneCell' = true) (hroom : n + m ≤ cap)
    (hs : a.eval s = .slice (some ⟨g, 0, none⟩) n cap) (hx : a.eval x = .slice (some ⟨w.heap.size, 0, none⟩) m m)
    (h : ∀ w', w'.ownsRow base e 1 (.slice (some ⟨g, 0, none⟩) (n + m) cap) (n + m) (xs ++ cs.toList) → (∀ k, k < w.heap.size → k ≠ g → w'.heap[k]? = w.heap[k]?) → Below B w0 w' → K (a.put o.dst (.slice (some ⟨g, 0, none⟩) (n + m) cap)) w') : o.wp P a (w.alloc (.cells cs e)) K Q := by
  obtain ⟨i, hi, hz, hsize, hbt⟩ := info_parts hinf
  obtain ⟨w', hrun, hown', hgrow⟩ := run_append_fits (P := P) (w.alloc (.cells cs e)) base t o.type e i 1 ht hi hsize g n cap xs (hown.alloc _) ⟨w.heap.size, 0, none⟩ m m cs.toList (by simp [hcs]) (fun j u hu => by rw [addr_add, Nat.zero_add]; exact cell_block j u (by simpa using hu)) h1 hroom
  have hgb : base ≤ g := by
    rcases hown.2 with ⟨hh, _⟩ | ⟨g', cap', cur, hv, hbg, _⟩
    · cases hh
    · simp only [Value.slice.injEq, Option.some.injEq, Addr.mk.injEq, and_true, true_and] at hv
      omega
  unfold Oper.wp execOp
  simp only [ho, resolve, invoke, builtin, Sem.run_bind, Sem.run_pure, Result.andThen_ok, List.map_toArray, List.map_cons, List.map_nil, hs, hx, hrun]
  refine h w' hown' (fun k hk hne => by rw [hgrow.block k (by simp; omega) (by simpa using hne), Below.heap_alloc _ _ _ hk]) ?_
  refine (hbel.alloc (by omega) _).grown hgrow (by simp; omega) ?_
  intro k hk
  obtain rfl := Option.some.inj hk
  omega
theorem own_far {w : World} {base : Nat} {e : TypeId} {size : Nat} {v : Value} {n : Nat} {xs : List Value} (h : w.ownsRow base e size v n xs) {g : Nat} {cs : Array Value} {e' : TypeId} {lo q : Nat} (hg : w.heap[g]? = some (.cells cs e' (lo, q + 1))) : some g ≠ v.ownBlock := by
  rcases h.2 with ⟨rfl, _⟩ | ⟨g', cap, cur, rfl, _, hgg, _⟩
  · simp [Value.ownBlock]
  · intro he
    simp [Value.ownBlock] at he
    subst he
    rw [hg] at hgg
    simp at hgg
end Go.Proofs.YtinhjnbgblieeaaDoor
