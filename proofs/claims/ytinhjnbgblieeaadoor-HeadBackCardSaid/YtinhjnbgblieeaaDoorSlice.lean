/- Slices of slices that can be read; append of a slice that can be read. -/
import Derived.Test.YtinhjnbgblieeaaDoorBlk
import Derived.OwnWalk
namespace Go.Proofs.YtinhjnbgblieeaaDoor
open Go.RowKit
set_option linter.unusedVariables false
set_option linter.unusedSimpArgs false

theorem add_none {a : Addr} (h : a.spot = none) (k : Nat) : a.add k = ⟨a.block, a.off + k, none⟩ := by
  obtain ⟨b, o, s⟩ := a
  subst h
  exact addr_add b o k
section
variable {P : Program} {w : World} {size : Nat} {v : Value} {n : Nat} {xs : List Value}

theorem rd_len (h : rdRow w size v n xs) : xs.length = n * size := h.1
theorem rd_form (h : rdRow w size v n xs) : ∃ ao cap, v = .slice ao n cap := by
  obtain ⟨_, ao, cap, hv, _⟩ := h
  exact ⟨ao, cap, hv⟩
theorem rd_sliced {ao : Option Addr} {cap : Nat} (hr : rdRow w size (.slice ao n cap) n xs) (l h : Nat) (hl : l ≤ h) (hh : h ≤ n) :
    rdRow w size (sliced ao l h cap size) (h - l) ((xs.drop (l * size)).take ((h - l) * size)) := by
  obtain ⟨h1, ao', cap', hv, hle, hm, hz, hc⟩ := hr
  simp only [Value.slice.injEq, true_and] at hv
  obtain ⟨rfl, rfl⟩ := hv
  have hmul : h * size ≤ n * size := Nat.mul_le_mul_right _ hh
  have hmul2 : l * size ≤ h * size := Nat.mul_le_mul_right _ hl
  have hlen : ((xs.drop (l * size)).take ((h - l) * size)).length = (h - l) * size := by
    rw [List.length_take, List.length_drop, h1, Nat.sub_mul]; omega
  refine ⟨hlen, _, _, rfl, by omega, by omega, ?_, ?_⟩
  · intro hn
    cases ao with
    | none => have := hz rfl; omega
    | some a => simp at hn; split at hn <;> simp at hn
  · intro a ha j u hu
    have hjlt : j < (h - l) * size := by rw [← hlen]; exact (List.getElem?_eq_some_iff.1 hu).1
    have hpos : l < h := by
      rcases Nat.lt_or_ge l h with h' | h'
      · exact h'
      · rw [show h - l = 0 by omega, Nat.zero_mul] at hjlt; omega
    have hu' : xs[l * size + j]? = some u := by
      rw [List.getElem?_take, if_pos hjlt, List.getElem?_drop] at hu; exact hu
    rw [if_neg (by omega)] at ha
    cases ao with
    | none => simp at ha
    | some b =>
      simp at ha
      subst ha
      have h0 := hc b rfl _ u hu'
      have hx0 : 0 < xs.length := by have := (List.getElem?_eq_some_iff.1 hu').1; omega
      have h00 := hc b rfl 0 _ (List.getElem?_eq_getElem hx0)
      have hs : b.spot = none := by simpa [Addr.add] using World.cell?_spot h00
      rw [add_none hs, add_none (by rfl)]
      rw [add_none hs] at h0
      rw [show b.off + l * size + j = b.off + (l * size + j) by omega]
      exact h0
theorem elem_eq {t e : TypeId} (ht : P.underlying t = some (.slice e)) : P.elem t = e := by simp [Program.elem, ht]
theorem slice_to {t e : TypeId} (ht : P.underlying t = some (.slice e)) (hi : (P.info? e).map (·.size) = some size) (hr : rdRow w size v n xs) (k : Nat) (hk : k ≤ n) :
    ∃ v', (∀ w' : World, (Instr.sliceAt t v none (some (.int .i64 (k : Int))) none).run P w' = .ok v' w') ∧ rdRow w size v' k (xs.take (k * size)) := by
  obtain ⟨i, hi, hs⟩ := Option.map_eq_some_iff.1 hi
  obtain ⟨ao, cap, rfl⟩ := rd_form hr
  have hel := elem_eq ht
  have ht' : P.underlying t = some (.slice (P.elem t)) := by rw [hel]; exact ht
  have hcap : n ≤ cap := by
    obtain ⟨_, ao', cap', hv, hle, _⟩ := hr
    simp only [Value.slice.injEq, true_and] at hv
    omega
  have h := rd_sliced hr 0 k (by omega) hk
  refine ⟨sliced ao 0 k cap size, fun w' => ?_, ?_⟩
  · rw [run_sliceAt_slice _ _ _ _ _ _ ht', run_slice_h _ t ao n cap ht' .i64 k (by omega) (by omega)]
    simp [sizeOf, typeInfo, hel, hi, hs]
  · simpa using h
theorem slice_from {t e : TypeId} (ht : P.underlying t = some (.slice e)) (hi : (P.info? e).map (·.size) = some size) (hr : rdRow w size v n xs) (k : Nat) (hk : k ≤ n) :
    ∃ v', (∀ w' : World, (Instr.sliceAt t v (some (.int .i64 (k : Int))) none none).run P w' = .ok v' w') ∧ rdRow w size v' (n - k) (xs.drop (k * size)) := by
  obtain ⟨i, hi, hs⟩ := Option.map_eq_some_iff.1 hi
  obtain ⟨ao, cap, rfl⟩ := rd_form hr
  have hel := elem_eq ht
  have ht' : P.underlying t = some (.slice (P.elem t)) := by rw [hel]; exact ht
  have h := rd_sliced hr k n hk (Nat.le_refl _)
  have hx : (xs.drop (k * size)).take ((n - k) * size) = xs.drop (k * size) := by
    apply List.take_of_length_le
    rw [List.length_drop, hr.1, Nat.sub_mul]; exact Nat.le_refl _
  rw [hx] at h
  refine ⟨sliced ao k n cap size, fun w' => ?_, h⟩
  rw [run_sliceAt_slice _ _ _ _ _ _ ht', run_slice_l _ t ao n cap ht' .i64 k (by omega) (by omega)]
  simp [sizeOf, typeInfo, hel, hi, hs]
/-- A slice operation whose value is known. -/
theorem wpList_slice {ops : Array Oper} {rest : List Oper} {o : Oper} {a : Act} {Q : Exit → Act → World → Prop} (hw : Region.wanted o (yielded ops a.tmps) = true) (t : TypeId) (x : Operand) (lo hi : Option Operand)
    (ho : o.op = .slice t x lo hi none) {v' : Value} (hrun : ∀ w' : World, (Instr.sliceAt t (a.eval x) (lo.map a.eval) (hi.map a.eval) none).run P w' = .ok v' w')
    (h : wpList P ops Q rest (a.put o.dst v') w) : wpList P ops Q (o :: rest) a w := by
  refine wpList_yes hw fun K hK => ?_
  unfold Oper.wp execOp
  simp only [ho, Sem.run_bind, Option.map_none, hrun, Result.andThen_ok, Sem.run_pure]
  exact hK _ _ h
/-- The last element. -/
theorem rd_cell (h : rdRow w size v n xs) (j : Nat) (u : Value) (hu : xs[j]? = some u) : ∃ b off cap, v = .slice (some ⟨b, off, none⟩) n cap ∧ w.cell? ⟨b, off + j, none⟩ = some u ∧ b < w.heap.size := by
  obtain ⟨h1, ao, cap, rfl, hle, hm, hz, hc⟩ := h
  cases ao with
  | none =>
    have hj := (List.getElem?_eq_some_iff.1 hu).1
    have := hz rfl
    have hn0 : n = 0 := by omega
    rw [h1, hn0, Nat.zero_mul] at hj; omega
  | some a =>
    have h0 := hc a rfl j u hu
    have hx0 : 0 < xs.length := by have := (List.getElem?_eq_some_iff.1 hu).1; omega
    have h00 := hc a rfl 0 _ (List.getElem?_eq_getElem hx0)
    have hs : a.spot = none := by simpa [Addr.add] using World.cell?_spot h00
    have hb := World.block_lt_of_cell? w _ h0
    rw [add_none hs] at h0 hb
    obtain ⟨b, off, sp⟩ := a
    subst hs
    exact ⟨b, off, cap, rfl, h0, hb⟩
/-- 'append(s, x...)': s of the call's own, x a slice that can be read. -/
theorem wpList_append_rd {w0 : World} {B : Nat} {ops : Array Oper} {rest : List Oper} {o : Oper} {a : Act} {Q : Exit → Act → World → Prop} (hgd : o.guard = none) (s x : Operand) (t : TypeId)
    (ho : o.op = .call { callee := .builtin .append, args := #[s, x], argTypes := #[t, t] })
    {base : Nat} {e : TypeId} {z : Value} {bytes : Nat} (hinf : infoIs P e z size bytes) (ht : P.underlying t = some (.slice e)) (hzs : z.cells.size = size) (hsz : 0 < size) (hby : 0 < bytes)
    {m : Nat} {ys : List Value} {u : Value} (hown : w.ownsRow base e size v n xs) (hbel : Below B w0 w) (hB : B ≤ base) (hb : base ≤ w.heap.size)
    (hr : rdRow w size u m ys) (h1 : ∀ y ∈ ys, y.oneCell' = true) (hbytes : (n + m) * bytes ≤ 140737488355328)
    (hs : a.eval s = v) (hx : a.eval x = u)
    (h : ∀ v' w', w'.ownsRow base e size v' (n + m) (xs ++ ys) → Below B w0 w' → wpList P ops Q rest (a.put o.dst v') w') : wpList P ops Q (o :: rest) a w := by
  obtain ⟨i, hi, hz, hsize, hbt⟩ := info_parts hinf
  have hle : n + m ≤ (n + m) * bytes := Nat.le_mul_of_pos_right _ hby
  obtain ⟨hl, ao, cap, rfl, hle2, hm, hz0, hc⟩ := hr
  cases ao with
  | none =>
    have hcap := hz0 rfl
    have hm0 : m = 0 := by omega
    subst hcap hm0
    have hy : ys = [] := List.eq_nil_of_length_eq_zero (by rw [hl, Nat.zero_mul])
    subst hy
    refine wpList_plain hgd fun K hK => ?_
    have hrun := run_append_owned_none (P := P) w base t o.type e i size ht hi v n xs hown
    unfold Oper.wp execOp
    simp only [ho, resolve, invoke, builtin, Sem.run_bind, Sem.run_pure, Result.andThen_ok, List.map_toArray, List.map_cons, List.map_nil, hs, hx, hrun]
    exact hK _ _ (h v w (by simpa using hown) hbel)
  | some ad =>
    refine wpList_append_own _ hgd s x t ho base e i z size bytes ht hi hz hsize hbt hzs hsz v n xs hs hown ad m cap ys hx hl (hc ad rfl) h1 (by unfold maxLen; omega) hbytes hb ?_
    intro v' w' hown' hgrow _
    refine h v' w' hown' (hbel.grown hgrow (by have := hbel.size; omega) ?_)
    intro k hk
    have := (hown.lt k hk).1; omega
end
end Go.Proofs.YtinhjnbgblieeaaDoor
