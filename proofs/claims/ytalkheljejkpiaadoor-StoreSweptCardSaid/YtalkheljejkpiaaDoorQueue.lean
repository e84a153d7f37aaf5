/- A slice of the call's own whose head has been cut off ('q = q[1:]'), elements of one cell: it is cut and appended to. -/
import Derived.Test.YtalkheljejkpiaaDoorBas
namespace Go.Proofs.YtalkheljejkpiaaDoor
open Go.RowKit
set_option linter.unusedVariables false
set_option linter.unusedSimpArgs false

/-- v holds xs in a block of the call's own, from some place on. -/
def ownsT (w : World) (base : Nat) (e : TypeId) (v : Value) (n : Nat) (xs : List Value) : Prop :=
  xs.length = n ∧ ((∃ ao, v = .slice ao 0 0 ∧ n = 0) ∨ ∃ g off cap cur, v = .slice (some ⟨g, off, none⟩) n cap ∧ base ≤ g ∧ w.heap[g]? = some (.cells cur e (0, 0)) ∧ n ≤ cap ∧ off + cap ≤ maxLen ∧ cur.size = off + cap ∧ (cur.toList.drop off).take n = xs)
theorem ownsT_of {w : World} {base : Nat} {e : TypeId} {v : Value} {n : Nat} {xs : List Value} (h : w.ownsRow base e 1 v n xs) : ownsT w base e v n xs := by
  obtain ⟨h1, ⟨h2, h3⟩ | ⟨g, cap, cur, hv, hbg, hg, hn, hm, hs, ht⟩⟩ := h
  · exact ⟨by omega, .inl ⟨none, h2, h3⟩⟩
  · exact ⟨by omega, .inr ⟨g, 0, cap, cur, hv, hbg, hg, hn, by omega, by omega, by simpa using ht⟩⟩
theorem ownsT.form {w : World} {base : Nat} {e : TypeId} {v : Value} {n : Nat} {xs : List Value} (h : ownsT w base e v n xs) : ∃ ao cap, v = .slice ao n cap := by
  obtain ⟨_, ⟨ao, hv, hn⟩ | ⟨g, off, cap, cur, hv, _⟩⟩ := h
  · subst hn; exact ⟨ao, 0, hv⟩
  · exact ⟨_, cap, hv⟩
theorem ownsT.kept {w w' : World} {base : Nat} {e : TypeId} {v : Value} {n : Nat} {xs : List Value} (h : ownsT w base e v n xs) {S : Nat → Prop} (hu : Upd S w w') (hS : ∀ k cs, w.heap[k]? = some (.cells cs e (0, 0)) → base ≤ k → ¬ S k) : ownsT w' base e v n xs := by
  obtain ⟨h1, h | ⟨g, off, cap, cur, hv, hbg, hg, h2⟩⟩ := h
  · exact ⟨h1, .inl h⟩
  · exact ⟨h1, .inr ⟨g, off, cap, cur, hv, hbg, by rw [hu.block g (lt_of_block hg) (hS g _ hg hbg)]; exact hg, h2⟩⟩
theorem ownsT.below {w w' : World} {base : Nat} {e : TypeId} {v : Value} {n : Nat} {xs : List Value} (h : ownsT w base e v n xs) (hb : Below w.heap.size w w') : ownsT w' base e v n xs :=
  h.kept (S := fun _ => False) (Upd.of_below hb) (fun _ _ _ _ h => h)
theorem ownsT.at {w : World} {base : Nat} {e : TypeId} {ao : Option Addr} {n cap : Nat} {x : Value} {xs : List Value} (h : ownsT w base e (.slice ao n cap) n (x :: xs)) : ∃ g off, ao = some ⟨g, off, none⟩ ∧ 0 < n ∧ w.cell? ⟨g, off, none⟩ = some x := by
  obtain ⟨h1, ⟨_, _, hn⟩ | ⟨g, off, cap', cur, hv, hbg, hg, hn, hm, hs, ht⟩⟩ := h
  · subst hn; cases h1
  · injection hv with hv _ _
    have hn0 : 0 < n := by rw [← h1]; simp
    refine ⟨g, off, hv, hn0, ?_⟩
    have h0 : ((cur.toList.drop off).take n)[0]? = some x := by rw [ht]; rfl
    rw [List.getElem?_take_of_lt hn0, List.getElem?_drop] at h0
    have := cell_of_row w g (off + 0) cur e (0, 0) hg
    rw [Nat.add_zero] at this
    rw [this, ← h0]; simp
section
variable {P : Program} {w : World}
/-- 'q[1:]'. -/
theorem ownsT.tail {base : Nat} {e : TypeId} {ao : Option Addr} {n cap : Nat} {x : Value} {xs : List Value} (h : ownsT w base e (.slice ao n cap) n (x :: xs)) : ownsT w base e (sliced ao 1 n cap 1) (n - 1) xs := by
  obtain ⟨h1, ⟨_, _, hn⟩ | ⟨g, off, cap', cur, hv, hbg, hg, hn, hm, hs, ht⟩⟩ := h
  · subst hn; cases h1
  · injection hv with hv h2 h3
    subst hv h3
    have hxl : xs.length = n - 1 := by have := h1; simp at this; omega
    have hn0 : 1 ≤ n := by have := h1; simp at this; omega
    by_cases hc : cap = 1
    · refine ⟨hxl, .inl ⟨some ⟨g, off, none⟩, ?_, by omega⟩⟩
      unfold sliced
      rw [if_pos hc, show n - 1 = 0 by omega, show cap - 1 = 0 by omega]
    · refine ⟨hxl, .inr ⟨g, off + 1, cap - 1, cur, ?_, hbg, hg, by omega, by omega, by omega, ?_⟩⟩
      · unfold sliced
        rw [if_neg hc, Option.map_some, show (⟨g, off, none⟩ : Addr).add (1 * 1) = ⟨g, off + 1, none⟩ from rfl]
      · have e2 := congrArg List.tail ht
        rw [List.tail_cons] at e2
        rw [← e2, ← List.drop_one, List.drop_take, List.drop_drop]
theorem run_append_roomT (t ty e : TypeId) (i : TypeInfo) (ht : P.underlying t = some (.slice e)) (hi : P.info? e = some i) (hsz : i.size = 1)
    (g off sLen sCap : Nat) (cur : Array Value) (hg : w.heap[g]? = some (.cells cur e (0, 0)))
    (a : Addr) (m c : Nat) (news : List Value) (hl : news.length = m) (hnews : ∀ j u, news[j]? = some u → w.cell? (a.add j) = some u) (h1 : ∀ u ∈ news, u.oneCell' = true)
    (hroom : sLen + m ≤ sCap) (hfit : off + sLen + news.length ≤ cur.size) :
    (Builtin.append_ #[t, t] ty #[.slice (some ⟨g, off, none⟩) sLen sCap, .slice (some a) m c]).run P w =
      .ok (.slice (some ⟨g, off, none⟩) (sLen + m) sCap) (w.setRow g (cur.toList.take (off + sLen) ++ news ++ cur.toList.drop (off + sLen + news.length)).toArray) := by
  have hf := run_firstCells_some (P := P) w i.size m a m c news (by rw [hsz, Nat.mul_one]; exact hl) hnews
  rw [hsz] at hf
  have hst := run_storeCells_at P g (off + sLen) e news 0 cur w hg (by simpa using hfit) h1
  simp only [Nat.add_zero] at hst
  simp [Builtin.append_, run_underlying ht, sizeOf, typeInfo, hi, Builtin.lenOf, hroom, hf, hsz, addr_add, hst]
/-- 'append(q, x...)'. -/
theorem run_append_T {base : Nat} (t ty e : TypeId) {z : Value} {bytes : Nat} (hinf : infoIs P e z 1 bytes) (ht : P.underlying t = some (.slice e)) (hzs : z.cells.size = 1)
    {v : Value} {n m : Nat} {xs ys : List Value} {u : Value} (hown : ownsT w base e v n xs) (hr : rdRow w 1 u m ys) (h1 : ∀ y ∈ ys, y.oneCell' = true) (hbytes : (n + m) * bytes ≤ 140737488355328) (hle : n + m ≤ maxLen) (hb : base ≤ w.heap.size) :
    ∃ v' w', (Builtin.append_ #[t, t] ty #[v, u]).run P w = .ok v' w' ∧ ownsT w' base e v' (n + m) (xs ++ ys) ∧ Upd (fun k => base ≤ k ∧ ∃ cs, w.heap[k]? = some (.cells cs e (0, 0))) w w' := by
  obtain ⟨i, hi, hz, hsize, hbt⟩ := info_parts hinf
  obtain ⟨hl, ao, cap, rfl, hle2, hm, hz0, hc⟩ := hr
  rw [Nat.mul_one] at hl
  have hxl := hown.1
  have grown : ∀ (old : Nat), old < n + m →
      ownsT (w.drew.alloc (.cells (xs.toArray ++ ys.toArray ++ Builtin.zeroCells z.cells (grownCap w (n + m) old e - (n + m))) e)) base e (.slice (some ⟨w.heap.size, 0, none⟩) (n + m) (grownCap w (n + m) old e)) (n + m) (xs ++ ys) ∧
      Upd (fun k => base ≤ k ∧ ∃ cs, w.heap[k]? = some (.cells cs e (0, 0))) w (w.drew.alloc (.cells (xs.toArray ++ ys.toArray ++ Builtin.zeroCells z.cells (grownCap w (n + m) old e - (n + m))) e)) := by
    intro old ho
    have hge := grownCap_ge w (n + m) old e
    have hcm : grownCap w (n + m) old e ≤ maxLen := grownCap_le_maxLen w (n + m) old e hle
    refine ⟨⟨by rw [List.length_append, hxl, hl], .inr ⟨w.heap.size, 0, _, _, rfl, hb, heap_alloc_new w.drew _, hge, by omega, ?_, ?_⟩⟩, (Upd.refl _ _).drew.alloc _⟩
    · simp only [Array.size_append, List.size_toArray, size_zeroCells, hzs, hxl, hl]; omega
    · have e : (xs ++ ys).length = n + m := by rw [List.length_append, hxl, hl]
      simp only [Array.toList_append, List.drop_zero]
      rw [← e]
      exact List.take_left
  cases ao with
  | none =>
    have hcap := hz0 rfl
    obtain rfl : m = 0 := by omega
    have hy : ys = [] := List.eq_nil_of_length_eq_zero hl
    subst hy
    obtain ⟨ao2, cap2, rfl⟩ := hown.form
    have hcn : n ≤ cap2 := by
      obtain ⟨_, ⟨_, hv, hn⟩ | ⟨_, _, _, _, hv, _, _, hn, _⟩⟩ := hown
      · omega
      · injection hv with _ _ hv; omega
    refine ⟨.slice ao2 n cap2, w, ?_, by simpa using hown, Upd.refl _ _⟩
    cases ao2 <;> simp [Builtin.append_, run_underlying ht, sizeOf, typeInfo, hi, Builtin.lenOf, Builtin.firstCells, hcn, storeCells]
  | some ad =>
    rcases hown.2 with ⟨ao2, rfl, hn⟩ | ⟨g, off, cap2, cur, rfl, hbg, hg, hnc, hcm, hcs, htake⟩
    · subst hn
      have hx : xs = [] := List.eq_nil_of_length_eq_zero hxl
      subst hx
      by_cases hm0 : m = 0
      · subst hm0
        have hy : ys = [] := List.eq_nil_of_length_eq_zero hl
        subst hy
        refine ⟨.slice ao2 0 0, w, ?_, by simpa using hown, Upd.refl _ _⟩
        cases ao2 <;> simp [Builtin.append_, run_underlying ht, sizeOf, typeInfo, hi, Builtin.lenOf, Builtin.firstCells, loadCells, loadCellsFrom, storeCells]
      · have hbb : (0 + m) * bytes ≤ 140737488355328 := hbytes
        cases ao2 with
        | none =>
          have hr := run_append_nil (P := P) w t ty e i z ht hi hz ad m cap ys (by rw [hsize, Nat.mul_one]; exact hl) (hc ad rfl) (by omega) (by unfold maxLen at hle; omega) (by rw [hbt]; rw [Nat.zero_add] at hbb; omega)
          have hgr := grown 0 (by omega)
          simp only [Nat.zero_add, List.nil_append, Array.empty_append] at hgr ⊢
          exact ⟨_, _, hr, hgr.1, hgr.2⟩
        | some a2 =>
          have hr := run_append_grow (P := P) w t ty e i z ht hi hz a2 0 0 [] (by simp) (fun j v h => by simp at h) ad m cap ys (by rw [hsize, Nat.mul_one]; exact hl) (hc ad rfl) (by omega) (by unfold maxLen at hle; omega) (by rw [hbt]; exact growslice_fits (by omega) hbytes)
          have hgr := grown 0 (by omega)
          exact ⟨_, _, hr, hgr.1, hgr.2⟩
    · by_cases hroom : n + m ≤ cap2
      · have hr := run_append_roomT (P := P) (w := w) t ty e i ht hi hsize g off n cap2 cur hg ad m cap ys hl (hc ad rfl) h1 hroom (by omega)
        refine ⟨_, _, hr, ⟨by rw [List.length_append, hxl, hl], .inr ⟨g, off, cap2, _, rfl, hbg, setRow_heap w g cur _ e _ hg, hroom, hcm, ?_, ?_⟩⟩, ?_⟩
        · simp only [List.size_toArray, List.length_append, List.length_take, List.length_drop, Array.length_toList]
          omega
        · have hlen : (xs ++ ys).length = n + m := by rw [List.length_append, hxl, hl]
          have hd : List.drop off (cur.toList.take (off + n)) = xs := by rw [List.drop_take, show off + n - off = n by omega]; exact htake
          rw [show (List.take (off + n) cur.toList ++ ys ++ List.drop (off + n + ys.length) cur.toList).toArray.toList = List.take (off + n) cur.toList ++ (ys ++ List.drop (off + n + ys.length) cur.toList) by simp]
          rw [List.drop_append_of_le_length (by rw [List.length_take, Array.length_toList]; omega), hd, ← List.append_assoc, ← hlen]
          exact List.take_left
        · exact ⟨rfl, rfl, rfl, by simp, fun k hk hS => setRow_other w g k _ (fun e => hS (by rw [e]; exact ⟨hbg, _, hg⟩))⟩
      · have hr := run_append_grow (P := P) w t ty e i z ht hi hz ⟨g, off, none⟩ n cap2 xs (by rw [hsize, Nat.mul_one]; exact hxl) (fun j x hx => by
          have hj : j < n := by rw [← hxl]; exact (List.getElem?_eq_some_iff.1 hx).1
          rw [addr_add, cell_of_row w g (off + j) cur e (0, 0) hg]
          rw [← htake, List.getElem?_take_of_lt hj, List.getElem?_drop] at hx
          simpa using hx) ad m cap ys (by rw [hsize, Nat.mul_one]; exact hl) (hc ad rfl) (by omega) (by unfold maxLen at hle; omega) (by rw [hbt]; exact growslice_fits (by omega) hbytes)
        have hgr := grown cap2 (by omega)
        exact ⟨_, _, hr, hgr.1, hgr.2⟩
theorem wpList_append_T {ops : Array Oper} {rest : List Oper} {o : Oper} {a : Act} {Q : Exit → Act → World → Prop} (hw : Region.wanted o (yielded ops a.tmps) = true) (s x : Operand) (t : TypeId)
    (ho : o.op = .call { callee := .builtin .append, args := #[s, x], argTypes := #[t, t] })
    {base : Nat} {e : TypeId} {z : Value} {bytes : Nat} (hinf : infoIs P e z 1 bytes) (ht : P.underlying t = some (.slice e)) (hzs : z.cells.size = 1)
    {v : Value} {n m : Nat} {xs ys : List Value} {u : Value} (hown : ownsT w base e v n xs) (hr : rdRow w 1 u m ys) (h1 : ∀ y ∈ ys, y.oneCell' = true) (hbytes : (n + m) * bytes ≤ 140737488355328) (hle : n + m ≤ maxLen) (hb : base ≤ w.heap.size)
    (hs : a.eval s = v) (hx : a.eval x = u)
    (h : ∀ v' w', ownsT w' base e v' (n + m) (xs ++ ys) → Upd (fun k => base ≤ k ∧ ∃ cs, w.heap[k]? = some (.cells cs e (0, 0))) w w' → wpList P ops Q rest (a.put o.dst v') w') : wpList P ops Q (o :: rest) a w := by
  refine wpList_yes hw fun K hK => ?_
  obtain ⟨v', w', hrun, h2, h3⟩ := run_append_T (P := P) t o.type e hinf ht hzs hown hr h1 hbytes hle hb
  unfold Oper.wp execOp
  simp only [ho, resolve, invoke, builtin, Sem.run_bind, Sem.run_pure, Result.andThen_ok, List.map_toArray, List.map_cons, List.map_nil, hs, hx, hrun]
  exact hK _ _ (h v' w' h2 h3)
end
end Go.Proofs.YtalkheljejkpiaaDoor
