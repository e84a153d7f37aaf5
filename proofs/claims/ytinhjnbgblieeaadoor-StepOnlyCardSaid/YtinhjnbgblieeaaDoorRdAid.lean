/- Aid to the walks of readers: blocks of cells, appends of one element. -/
import Derived.Test.YtinhjnbgblieeaaDoorWireReader
import Derived.Test.YtinhjnbgblieeaaDoorWrUse
import Derived.Test.YtinhjnbgblieeaaDoorBlk
namespace Go.Proofs.YtinhjnbgblieeaaDoor
open Go.RowKit
set_option linter.unusedVariables false
set_option linter.unusedSimpArgs false

theorem owns_one {w : World} {B : Nat} {e : TypeId} {size n : Nat} {v : Value} {xs : List Value} (h : w.ownsRow B e size v n xs) : v.oneCell' = true := by
  rcases h.2 with ⟨rfl, _⟩ | ⟨g, cap, cur, rfl, _⟩ <;> rfl
theorem owns_ge {w : World} {B : Nat} {e : TypeId} {size n k : Nat} {v : Value} {xs : List Value} (h : w.ownsRow B e size v n xs) (hk : v.ownBlock = some k) : B ≤ k := by
  rcases h.2 with ⟨rfl, _⟩ | ⟨g, cap, cur, rfl, hbg, _⟩
  · simp [Value.ownBlock] at hk
  · simp only [Value.ownBlock, Option.some.injEq] at hk
    omega
theorem cells_setCell {w : World} {g : Nat} {cs : Array Value} {t : TypeId} (h : w.heap[g]? = some (.cells cs t (0, 0))) (i : Nat) (u : Value) : (w.setCell ⟨g, i, none⟩ u).heap[g]? = some (.cells (cs.setIfInBounds i u) t (0, 0)) := by
  have hlt := lt_of_block h
  have h' : w.heap[g] = .cells cs t (0, 0) := by simpa [Array.getElem?_eq_getElem hlt] using h
  show (w.heap.modify g _)[g]? = _
  rw [Array.getElem?_eq_getElem (by simpa using hlt), Array.getElem_modify_self, h']
  rfl
theorem set_id {w : World} {q i : Nat} {cs : Array Value} {t : TypeId} {f : Nat × Nat} {v : Value} (h : w.heap[q]? = some (.cells cs t f)) (hi : cs[i]? = some v) : w.setCell ⟨q, i, none⟩ v = w := by
  have hm : (w.setCell ⟨q, i, none⟩ v).heap = w.heap := by
    unfold World.setCell
    dsimp only
    apply Array.ext_getElem?
    intro j
    rw [Array.getElem?_modify]
    split
    · next e =>
      subst e
      rw [h]
      have hs : cs.setIfInBounds i v = cs := by
        apply Array.ext_getElem?
        intro k
        rw [Array.getElem?_setIfInBounds]
        split
        · next e2 =>
          subst e2
          split
          · exact hi.symm
          · next h2 => rw [Array.getElem?_eq_none (by omega)] at hi; simp at hi
        · rfl
      simp [hs]
    · rfl
  cases w
  simp only [World.setCell] at hm ⊢
  rw [hm]
theorem rNum_62 (x : ByteArray × Int) : (rNum x).1 < 4611686018427387904 := by
  unfold rNum
  split
  · show 0 < 4611686018427387904; omega
  · cases hg : get x.1.data.toList with
    | none => show 0 < 4611686018427387904; omega
    | some p => exact (get_some hg).1
theorem rTxt_le (x : ByteArray × Int) : (rTxt x).2.1.size ≤ x.1.size := by
  unfold rTxt
  split
  · exact Nat.le_refl _
  · simp only [ByteArray.size_extract]; omega
theorem rNum_le (x : ByteArray × Int) : (rNum x).2.1.size ≤ x.1.size := by
  unfold rNum
  split
  · exact Nat.le_refl _
  · cases hg : get x.1.data.toList with
    | none => exact Nat.le_refl _
    | some p => simp only [ByteArray.size_extract]; omega
theorem rByt_le (x : ByteArray × Int) (n : Int) : (rByt x n).2.1.size ≤ x.1.size := by
  unfold rByt
  split
  · exact Nat.le_refl _
  · split
    · exact Nat.le_refl _
    · simp only [ByteArray.size_extract]; omega
theorem rByt_less {s3 s4 : ByteArray × Int} {id : ByteArray} (h : rByt s3 32 = (id, s4)) (h0 : s4.2 = 0) : s4.1.size < s3.1.size := by
  unfold rByt at h
  split at h
  · next hne => cases h; exact absurd h0 hne
  · split at h
    · cases h; cases h0
    · next hz => cases h; simp only [ByteArray.size_extract]; omega
theorem wpList_append1u {P : Program} {w : World} {ops : Array Oper} {rest : List Oper} {o : Oper} {a : Act} {Q : Exit → Act → World → Prop} (hgd : o.guard = none) (s x : Operand) (t : TypeId)
    (ho : o.op = .call { callee := .builtin .append, args := #[s, x], argTypes := #[t, t] })
    {base : Nat} {e : TypeId} {z : Value} {size bytes : Nat} (hinf : infoIs P e z size bytes) (ht : P.underlying t = some (.slice e)) (hzs : z.cells.size = size) (hsz : 0 < size) (hby : 0 < bytes)
    {v : Value} {n : Nat} {xs : List Value} (hown : w.ownsRow base e size v n xs) (hb : base ≤ w.heap.size)
    {cs : Array Value} (hcs : cs.size = size) (h1 : ∀ u ∈ cs.toList, u.oneCell' = true) (hbytes : (n + 1) * bytes ≤ 140737488355328)
    (hs : a.eval s = v) (hx : a.eval x = .slice (some ⟨w.heap.size, 0, none⟩) 1 1)
    (h : ∀ v' w', w'.ownsRow base e size v' (n + 1) (xs ++ cs.toList) → Upd (fun k => v.ownBlock = some k) w w' → wpList P ops Q rest (a.put o.dst v') w') : wpList P ops Q (o :: rest) a (w.alloc (.cells cs e)) := by
  obtain ⟨i, hi, hz, hsize, hbt⟩ := info_parts hinf
  have hle : n + 1 ≤ (n + 1) * bytes := Nat.le_mul_of_pos_right _ hby
  refine wpList_append_own _ hgd s x t ho base e i z size bytes ht hi hz hsize hbt hzs hsz v n xs hs (hown.alloc _) ⟨w.heap.size, 0, none⟩ 1 1 cs.toList hx (by simp [hcs]) ?_ h1 (by unfold maxLen; omega) hbytes (by simp; omega) ?_
  · intro j u hu
    rw [addr_add, Nat.zero_add]
    exact cell_block j u (by simpa using hu)
  · intro v' w' hown' hgrow _
    exact h v' w' hown' (((Upd.refl _ w).alloc _).grown hgrow (fun k hk => .inl hk))
theorem wp_append1u {P : Program} {w : World} {o : Oper} {a : Act} {K : Act → World → Prop} {Q : Exit → Act → World → Prop} (s x : Operand) (t : TypeId)
    (ho : o.op = .call { callee := .builtin .append, args := #[s, x], argTypes := #[t, t] })
    {base : Nat} {e : TypeId} {z : Value} {bytes : Nat} (hinf : infoIs P e z 1 bytes) (ht : P.underlying t = some (.slice e)) (hzs : z.cells.size = 1) (hby : 0 < bytes)
    {v : Value} {n : Nat} {xs : List Value} (hown : w.ownsRow base e 1 v n xs) (hb : base ≤ w.heap.size)
    {u : Value} (h1 : u.oneCell' = true) (hbytes : (n + 1) * bytes ≤ 140737488355328)
    (hs : a.eval s = v) (hx : a.eval x = .slice (some ⟨w.heap.size, 0, none⟩) 1 1)
    (h : ∀ v' w', w'.ownsRow base e 1 v' (n + 1) (xs ++ [u]) → Upd (fun k => v.ownBlock = some k) w w' → K (a.put o.dst v') w') : o.wp P a (w.alloc (.cells #[u] e)) K Q := by
  obtain ⟨i, hi, hz, hsize, hbt⟩ := info_parts hinf
  have hle : n + 1 ≤ (n + 1) * bytes := Nat.le_mul_of_pos_right _ hby
  refine wp_append_own _ s x t ho base e i z 1 bytes ht hi hz hsize hbt hzs (by decide) v n xs hs (hown.alloc _) ⟨w.heap.size, 0, none⟩ 1 1 [u] hx (by simp) ?_ (by simpa using h1) (by unfold maxLen; omega) hbytes (by simp; omega) ?_
  · intro j x hj
    rw [addr_add, Nat.zero_add]
    exact cell_block j x (by simpa using hj)
  · intro v' w' hown' hgrow _
    exact h v' w' hown' (((Upd.refl _ w).alloc _).grown hgrow (fun k hk => .inl hk))
end Go.Proofs.YtinhjnbgblieeaaDoor
