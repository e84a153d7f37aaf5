/- Loads and stores of a part of a block: a struct that lies in a greater one. -/
import Derived.Test.YtmacceamebdelaaDoorBas
namespace Go.Proofs.YtmacceamebdelaaDoor
open Go.RowKit
set_option linter.unusedVariables false
set_option linter.unusedSimpArgs false

/-- A row of cells with others in it from i on. -/
def putAt (cs : Array Value) (i : Nat) (vs : Array Value) : Array Value := (cs.toList.take i ++ (vs.toList ++ cs.toList.drop (i + vs.size))).toArray
section
variable {cs vs : Array Value} {i j : Nat}
theorem putAt_size (h : i + vs.size ≤ cs.size) : (putAt cs i vs).size = cs.size := by
  simp only [putAt, List.size_toArray, List.length_append, List.length_take, List.length_drop, Array.length_toList]; omega
theorem putAt_in (h : i + vs.size ≤ cs.size) (hj : j < vs.size) : (putAt cs i vs)[i + j]? = vs[j]? := by
  simp only [putAt, List.getElem?_toArray]
  rw [List.getElem?_append_right (by simp; omega), List.getElem?_append_left (by simp; omega)]
  simp only [List.length_take, Array.length_toList]
  rw [show i + j - min i cs.size = j by omega, Array.getElem?_toList]
theorem putAt_out (h : i + vs.size ≤ cs.size) (hj : j < i ∨ i + vs.size ≤ j) : (putAt cs i vs)[j]? = cs[j]? := by
  simp only [putAt, List.getElem?_toArray]
  rcases hj with hj | hj
  · rw [List.getElem?_append_left (by simp; omega), List.getElem?_take_of_lt hj, Array.getElem?_toList]
  · rw [List.getElem?_append_right (by simp; omega), List.getElem?_append_right (by simp; omega)]
    simp only [List.length_take, Array.length_toList, List.getElem?_drop]
    rw [show i + vs.size + (j - min i cs.size - vs.size) = j by omega, Array.getElem?_toList]
end
theorem list_put {l r : List Value} {i : Nat} {v : Value} (h : i < l.length) : (l.set i v).take (i + 1) ++ (r ++ (l.set i v).drop (i + 1 + r.length)) = l.take i ++ (v :: r ++ l.drop (i + (r.length + 1))) := by
  have e1 : (l.set i v).take (i + 1) = l.take i ++ [v] := by
    rw [List.take_add_one, List.take_set_of_le (Nat.le_refl _), List.getElem?_set_self h]; rfl
  rw [e1, List.drop_set_of_lt (by omega), show i + 1 + r.length = i + (r.length + 1) by omega]
  simp
section
variable {P : Program}
theorem run_storeCells_seg (g i0 : Nat) (t : TypeId) : ∀ (vs : List Value) (j : Nat) (cur : Array Value) (w : World), w.heap[g]? = some (.cells cur t (0, 0)) → i0 + j + vs.length ≤ cur.size → (∀ v ∈ vs, v.oneCell' = true) →
    (storeCells ⟨g, i0, none⟩ vs j).run P w = .ok () (w.setRow g (putAt cur (i0 + j) vs.toArray))
  | [], j, cur, w, hg, hl, _ => by
    have e : putAt cur (i0 + j) #[] = cur := by
      apply Array.ext'
      simp [putAt]
    have hlt : g < w.heap.size := (Array.getElem?_eq_some_iff.1 hg).1
    have hv : w.heap[g] = .cells cur t (0, 0) := (Array.getElem?_eq_some_iff.1 hg).2
    rw [show ([] : List Value).toArray = #[] from rfl, e]
    simp only [storeCells]
    show Result.ok () w = _
    congr 1
    unfold World.setRow
    cases w with
    | mk heap tape drawn os output =>
      congr 1
      apply Array.ext
      · simp
      · intro k h1 h2
        simp only [Array.getElem_modify]
        split
        · rename_i hk; subst hk; simp at hv; simp [hv]
        · rfl
  | v :: rest, j, cur, w, hg, hl, h1 => by
    have hi : i0 + j < cur.size := by simp at hl; omega
    have hadd : (⟨g, i0, none⟩ : Addr).add j = ⟨g, i0 + j, none⟩ := by unfold Addr.add; split <;> simp_all
    have hcell : w.cell? ⟨g, i0 + j, none⟩ = some cur[i0 + j] := by simp [World.cell?, hg, hi]
    have hfro : w.frozen? ⟨g, i0 + j, none⟩ = false := by simp [World.frozen?, hg]
    have hst : (store ((⟨g, i0, none⟩ : Addr).add j) v).run P w = .ok () (w.setRow g (cur.setIfInBounds (i0 + j) v)) := by
      rw [hadd, run_store P w _ v _ (h1 v (by simp)), hcell]
      simp [hfro, setCell_eq_setRow w g (i0 + j) cur t (0, 0) v hg]
    have ih := run_storeCells_seg g i0 t rest (j + 1) (cur.setIfInBounds (i0 + j) v) (w.setRow g (cur.setIfInBounds (i0 + j) v)) (setRow_heap w g cur _ t _ hg) (by simp at hl ⊢; omega) (fun x hx => h1 x (by simp [hx]))
    simp only [storeCells, Sem.run_bind, hst, Result.andThen_ok, ih, setRow_setRow]
    congr 2
    simp only [putAt, Array.toList_setIfInBounds, List.size_toArray, List.length_cons]
    rw [show i0 + (j + 1) = i0 + j + 1 by omega, list_put (by simpa using hi)]
theorem run_storeVar_seg (w : World) (g i : Nat) (t ty : TypeId) (old cells : Array Value) (hg : w.heap[g]? = some (.cells old t (0, 0))) (hi : (P.info? ty).map (·.size) = some cells.size)
    (ho : i + cells.size ≤ old.size) (h1 : cells.all (·.oneCell') = true) :
    (storeVar ty ⟨g, i, none⟩ (.agg cells)).run P w = .ok () (w.setRow g (putAt old i cells)) := by
  have := run_storeCells_seg (P := P) g i t cells.toList 0 old w hg (by simpa using ho) (fun v hv => (Array.all_eq_true_iff_forall_mem.1 h1) v (by simpa using hv))
  cases hq : P.info? ty with
  | none => simp [hq] at hi
  | some x =>
    have hs : cells.size = x.size := by simp [hq] at hi; omega
    simp only [Nat.add_zero, Array.toArray_toList] at this
    simp [storeVar, sizeOf, typeInfo, hq, Value.cells, hs, this]
theorem wp_store_seg {o : Oper} {a : Act} {w : World} {K : Act → World → Prop} {Q : Exit → Act → World → Prop} (ty : TypeId) (x y : Operand) (ho : o.op = .store ty x y)
    (g i : Nat) (cells : Array Value) (hx : a.eval x = .pointer (some ⟨g, i, none⟩)) (hy : a.eval y = .agg cells)
    {t : TypeId} {old : Array Value} (hg : w.heap[g]? = some (.cells old t (0, 0))) (hi : (P.info? ty).map (·.size) = some cells.size)
    (hold : i + cells.size ≤ old.size) (h1 : cells.all (·.oneCell') = true)
    (h : ∀ w' : World, w'.heap[g]? = some (.cells (putAt old i cells) t (0, 0)) → Upd (· = g) w w' → K (a.put o.dst undef) w') : o.wp P a w K Q := by
  unfold Oper.wp execOp
  simp only [ho, hx, hy, Instr.storeAt, Instr.sureAddr, Sem.run_bind, Sem.run_pure, Result.andThen_ok, run_storeVar_seg w g i t ty old cells hg hi hold h1]
  exact h _ (setRow_heap w g old _ t (0, 0) hg) (upd_setRow _)
theorem wp_store_blkT {o : Oper} {a : Act} {w : World} {K : Act → World → Prop} {Q : Exit → Act → World → Prop} (ty : TypeId) (x y : Operand) (ho : o.op = .store ty x y)
    (g : Nat) (cells : Array Value) (hx : a.eval x = .pointer (some ⟨g, 0, none⟩)) (hy : a.eval y = .agg cells)
    {t : TypeId} {old : Array Value} (hg : w.heap[g]? = some (.cells old t (0, 0))) (hi : (P.info? ty).map (·.size) = some cells.size)
    (hold : old.size = cells.size) (h1 : cells.all (·.oneCell') = true)
    (h : ∀ w' : World, w'.heap[g]? = some (.cells cells t (0, 0)) → Upd (· = g) w w' → K (a.put o.dst undef) w') : o.wp P a w K Q :=
  wp_store_row ty x y ho g cells hx hy t old hg hi hold h1 (h _ (setRow_heap w g old cells t (0, 0) hg) (upd_setRow cells))
/-- A store of a part of a block. -/
theorem wpList_store_seg {ops : Array Oper} {rest : List Oper} {o : Oper} {a : Act} {w : World} {Q : Exit → Act → World → Prop} (hw : Region.wanted o (yielded ops a.tmps) = true) (ty : TypeId) (x y : Operand) (ho : o.op = .store ty x y)
    (g i : Nat) (cells : Array Value) (hx : a.eval x = .pointer (some ⟨g, i, none⟩)) (hy : a.eval y = .agg cells)
    {t : TypeId} {old : Array Value} (hg : w.heap[g]? = some (.cells old t (0, 0))) (hi : (P.info? ty).map (·.size) = some cells.size)
    (hold : i + cells.size ≤ old.size) (h1 : cells.all (·.oneCell') = true)
    (h : ∀ w' : World, w'.heap[g]? = some (.cells (putAt old i cells) t (0, 0)) → Upd (· = g) w w' → wpList P ops Q rest (a.put o.dst undef) w') : wpList P ops Q (o :: rest) a w :=
  wpList_yes hw fun _ hK => wp_store_seg ty x y ho g i cells hx hy hg hi hold h1 (fun w' h2 h3 => hK _ _ (h w' h2 h3))
theorem run_loadVar_seg (w : World) (g i : Nat) (ty : TypeId) (cs : Array Value) (d : TypeDesc) (hc : ∀ j v, cs[j]? = some v → w.cell? ⟨g, i + j, none⟩ = some v)
    (hu : P.underlying ty = some d) (hd : (match d with | .struct _ | .array _ _ => true | _ => false) = true) (hi : (P.info? ty).map (·.size) = some cs.size) :
    (loadVar ty ⟨g, i, none⟩).run P w = .ok (.agg cs) w := by
  have hl : (loadCells ⟨g, i, none⟩ cs.toList.length).run P w = .ok cs.toList.toArray w :=
    run_loadCells_list (P := P) w ⟨g, i, none⟩ cs.toList (fun j v hv => by
      have hadd : (⟨g, i, none⟩ : Addr).add j = ⟨g, i + j, none⟩ := by unfold Addr.add; split <;> simp_all
      rw [hadd]
      exact hc j v (by simpa using hv))
  cases hq : P.info? ty with
  | none => simp [hq] at hi
  | some x =>
    have hs : x.size = cs.size := by simpa [hq] using hi
    have hagg : (isAgg ty).run P w = .ok true w := by
      unfold isAgg
      rw [Sem.run_bind, run_underlying hu w]
      cases d <;> simp_all
    simp only [Array.length_toList, Array.toArray_toList] at hl
    simp [loadVar, Sem.run_bind, hagg, sizeOf, typeInfo, hq, hs, hl]
theorem wp_load_seg {o : Oper} {a : Act} {w : World} {K : Act → World → Prop} {Q : Exit → Act → World → Prop} (ty : TypeId) (x : Operand) (ho : o.op = .load ty x)
    (g i : Nat) (hx : a.eval x = .pointer (some ⟨g, i, none⟩)) (cs : Array Value) {d : TypeDesc} (hc : ∀ j v, cs[j]? = some v → w.cell? ⟨g, i + j, none⟩ = some v)
    (hu : P.underlying ty = some d) (hd : (match d with | .struct _ | .array _ _ => true | _ => false) = true) (hi : (P.info? ty).map (·.size) = some cs.size)
    (h : K (a.put o.dst (.agg cs)) w) : o.wp P a w K Q := by
  unfold Oper.wp execOp
  simp only [ho, hx, Instr.loadAt, Instr.sureAddr, Sem.run_bind, Sem.run_pure, Result.andThen_ok, run_loadVar_seg w g i ty cs d hc hu hd hi]
  exact h
/-- A load of a part of a block. -/
theorem wpList_load_seg {ops : Array Oper} {rest : List Oper} {o : Oper} {a : Act} {w : World} {Q : Exit → Act → World → Prop} (hw : Region.wanted o (yielded ops a.tmps) = true) (ty : TypeId) (x : Operand) (ho : o.op = .load ty x)
    (g i : Nat) (hx : a.eval x = .pointer (some ⟨g, i, none⟩)) (cs : Array Value) {d : TypeDesc} (hc : ∀ j v, cs[j]? = some v → w.cell? ⟨g, i + j, none⟩ = some v)
    (hu : P.underlying ty = some d) (hd : (match d with | .struct _ | .array _ _ => true | _ => false) = true) (hi : (P.info? ty).map (·.size) = some cs.size)
    (h : wpList P ops Q rest (a.put o.dst (.agg cs)) w) : wpList P ops Q (o :: rest) a w :=
  wpList_yes hw fun _ hK => wp_load_seg ty x ho g i hx cs hc hu hd hi (hK _ _ h)
theorem run_field_agg (w : World) {xT ft : TypeId} {fs : Array Field} {i off n : Nat} {d : TypeDesc} {cs : Array Value} (hu : P.underlying xT = some (.struct fs)) (hf : (fs[i]?).map (fun f => (f.type, f.offset)) = some (ft, off)) (hd : P.underlying ft = some d)
    (hda : (match d with | .struct _ | .array _ _ => true | _ => false) = true) (hi : (P.info? ft).map (·.size) = some n) : (Instr.field xT (.agg cs) i).run P w = .ok (.agg (cs.extract off (off + n))) w := by
  obtain ⟨f, hf1, hf2⟩ := Option.map_eq_some_iff.1 hf
  injection hf2 with h1 h2
  subst h1 h2
  have hagg : (isAgg f.type).run P w = .ok true w := by
    unfold isAgg
    rw [Sem.run_bind, run_underlying hd w]
    cases d <;> simp_all
  cases hq : P.info? f.type with
  | none => simp [hq] at hi
  | some x =>
    have hs : x.size = n := by simpa [hq] using hi
    simp [Instr.field, Sem.run_bind, run_underlying hu w, hf1, part, hagg, sizeOf, typeInfo, hq, hs, asAgg]
theorem run_field_one (w : World) {xT ft : TypeId} {fs : Array Field} {i off : Nat} {d : TypeDesc} {cs : Array Value} {v : Value} (hu : P.underlying xT = some (.struct fs)) (hf : (fs[i]?).map (fun f => (f.type, f.offset)) = some (ft, off)) (hd : P.underlying ft = some d)
    (hda : (match d with | .struct _ | .array _ _ => true | _ => false) = false) (hc : cs[off]? = some v) : (Instr.field xT (.agg cs) i).run P w = .ok v w := by
  obtain ⟨f, hf1, hf2⟩ := Option.map_eq_some_iff.1 hf
  injection hf2 with h1 h2
  subst h1 h2
  have hagg : (isAgg f.type).run P w = .ok false w := by
    unfold isAgg
    rw [Sem.run_bind, run_underlying hd w]
    cases d <;> simp_all
  simp [Instr.field, Sem.run_bind, run_underlying hu w, hf1, part, hagg, hc, asAgg]
end
end Go.Proofs.YtmacceamebdelaaDoor
