/- Rows of elements of several cells: copy, clear, append within the capacity and beyond it, told by whole blocks. -/
import Derived.Test.YtnggcldpojebkaaDoorBlk
import Derived.Laws.CopyRow
import Derived.Laws.AppendOwn
import Derived.Laws.Externs
import Derived.Lib.Overlaps
import Derived.Lib.AppendZerosOnto
namespace Go.Proofs.YtnggcldpojebkaaDoor
open Go.RowKit
set_option linter.unusedVariables false
set_option linter.unusedSimpArgs false
section
variable {P : Program}

theorem run_copy_rowK (w : World) (dT sT ty elem : TypeId) (size g o dLen dCap : Nat) (a : Addr) (sLen sCap : Nat) (cur : Array Value) (t : TypeId) (cs : List Value)
    (hu : P.underlying dT = some (.slice elem)) (hs : (P.info? elem).map (·.size) = some size)
    (hg : w.heap[g]? = some (.cells cur t (0, 0))) (hn : cs.length = Nat.min sLen dLen * size)
    (hsrc : ∀ j v, cs[j]? = some v → w.cell? (a.add j) = some v) (hfit : o + cs.length ≤ cur.size) (h1 : ∀ v ∈ cs, v.oneCell' = true) :
    (Builtin.copy_ #[dT, sT] ty #[.slice (some ⟨g, o, none⟩) dLen dCap, .slice (some a) sLen sCap]).run P w =
      .ok (goInt (Nat.min sLen dLen)) (w.setRow g (cur.toList.take o ++ cs ++ cur.toList.drop (o + cs.length)).toArray) := by
  have hl := run_loadCells_list (P := P) w a cs hsrc
  have hst := run_storeCells_at P g o t cs 0 cur w hg (by simpa using hfit) h1
  cases hq : P.info? elem with
  | none => simp [hq] at hs
  | some i =>
    have hi : i.size = size := by simpa [hq] using hs
    simp only [Nat.add_zero] at hst
    simp [Builtin.copy_, run_underlying hu, Builtin.lenOf, Builtin.firstCells, sizeOf, typeInfo, hq, hi, ← hn, hl, hst]
theorem wp_copyK {w : World} {o : Oper} {a : Act} {K : Act → World → Prop} {Q : Exit → Act → World → Prop} (d s : Operand) (dT sT : TypeId)
    (ho : o.op = .call { callee := .builtin .copy, args := #[d, s], argTypes := #[dT, sT] }) (elem : TypeId) (size : Nat) (hu : P.underlying dT = some (.slice elem)) (hsz : (P.info? elem).map (·.size) = some size)
    (g off dLen dCap : Nat) (ad : Addr) (sLen sCap : Nat) (hd : a.eval d = .slice (some ⟨g, off, none⟩) dLen dCap) (hs : a.eval s = .slice (some ad) sLen sCap)
    (cur : Array Value) (t : TypeId) (hg : w.heap[g]? = some (.cells cur t (0, 0))) (cs : List Value) (hn : cs.length = Nat.min sLen dLen * size)
    (hsrc : ∀ j v, cs[j]? = some v → w.cell? (ad.add j) = some v) (hfit : off + cs.length ≤ cur.size) (h1 : ∀ v ∈ cs, v.oneCell' = true)
    (h : ∀ w', w'.heap[g]? = some (.cells (cur.toList.take off ++ cs ++ cur.toList.drop (off + cs.length)).toArray t (0, 0)) → Upd (· = g) w w' → K (a.put o.dst (goInt (Nat.min sLen dLen))) w') : o.wp P a w K Q := by
  have hrun := run_copy_rowK (P := P) w dT sT o.type elem size g off dLen dCap ad sLen sCap cur t cs hu hsz hg hn hsrc hfit h1
  unfold Oper.wp execOp
  simp only [ho, resolve, invoke, builtin, Sem.run_bind, Sem.run_pure, Result.andThen_ok, List.map_toArray, List.map_cons, List.map_nil, hd, hs, hrun]
  exact h _ (setRow_heap w g _ _ t _ hg) (upd_setRow _)
theorem wpList_copyK {w : World} {ops : Array Oper} {rest : List Oper} {o : Oper} {a : Act} {Q : Exit → Act → World → Prop} (hw : Region.wanted o (yielded ops a.tmps) = true) (d s : Operand) (dT sT : TypeId)
    (ho : o.op = .call { callee := .builtin .copy, args := #[d, s], argTypes := #[dT, sT] }) (elem : TypeId) (size : Nat) (hu : P.underlying dT = some (.slice elem)) (hsz : (P.info? elem).map (·.size) = some size)
    (g off dLen dCap : Nat) (ad : Addr) (sLen sCap : Nat) (hd : a.eval d = .slice (some ⟨g, off, none⟩) dLen dCap) (hs : a.eval s = .slice (some ad) sLen sCap)
    (cur : Array Value) (t : TypeId) (hg : w.heap[g]? = some (.cells cur t (0, 0))) (cs : List Value) (hn : cs.length = Nat.min sLen dLen * size)
    (hsrc : ∀ j v, cs[j]? = some v → w.cell? (ad.add j) = some v) (hfit : off + cs.length ≤ cur.size) (h1 : ∀ v ∈ cs, v.oneCell' = true)
    (h : ∀ w', w'.heap[g]? = some (.cells (cur.toList.take off ++ cs ++ cur.toList.drop (off + cs.length)).toArray t (0, 0)) → Upd (· = g) w w' → wpList P ops Q rest (a.put o.dst (goInt (Nat.min sLen dLen))) w') : wpList P ops Q (o :: rest) a w :=
  wpList_yes hw fun K hK => wp_copyK d s dT sT ho elem size hu hsz g off dLen dCap ad sLen sCap hd hs cur t hg cs hn hsrc hfit h1 (fun w' h1 h2 => hK _ _ (h w' h1 h2))

theorem run_clear_rowK (w : World) (t elem ty : TypeId) (z : Value) (hu : P.underlying t = some (.slice elem)) (hv : ∀ w, (zeroValue elem).run P w = .ok z w) (h1 : ∀ u ∈ z.cells.toList, u.oneCell' = true)
    (g o n c : Nat) (hn : 0 < n) (cur : Array Value) (te : TypeId) (hg : w.heap[g]? = some (.cells cur te (0, 0))) (hfit : o + n * z.cells.size ≤ cur.size) :
    (Builtin.clear_ #[t] ty #[.slice (some ⟨g, o, none⟩) n c]).run P w = .ok (.tuple #[]) (w.setRow g (cur.toList.take o ++ (Builtin.zeroCells z.cells n).toList ++ cur.toList.drop (o + n * z.cells.size)).toArray) := by
  have hsize : (Builtin.zeroCells z.cells n).toList.length = n * z.cells.size := by simp [size_zeroCells]
  have hz1 : ∀ u ∈ (Builtin.zeroCells z.cells n).toList, u.oneCell' = true := by
    intro u hu
    simp only [Builtin.zeroCells, Array.toList_map, List.mem_map, Array.toList_range, List.mem_range] at hu
    obtain ⟨i, hi, rfl⟩ := hu
    have hpos : 0 < z.cells.size := by
      rcases Nat.eq_zero_or_pos z.cells.size with h | h
      · rw [h, Nat.mul_zero] at hi; omega
      · exact h
    have hm : i % z.cells.size < z.cells.size := Nat.mod_lt _ hpos
    rw [getElem!_pos z.cells _ hm]
    exact h1 _ (Array.getElem_mem_toList hm)
  have hst := run_storeCells_at P g o te (Builtin.zeroCells z.cells n).toList 0 cur w hg (by rw [hsize]; simpa using hfit) hz1
  rw [hsize] at hst
  simp only [Nat.add_zero] at hst
  obtain ⟨m, rfl⟩ : ∃ m, n = m + 1 := ⟨n - 1, by omega⟩
  simp [Builtin.clear_, run_underlying hu, hv, hst]
theorem wpList_clearK {w : World} {ops : Array Oper} {rest : List Oper} {o : Oper} {a : Act} {Q : Exit → Act → World → Prop} (hw : Region.wanted o (yielded ops a.tmps) = true) (d : Operand) (t : TypeId)
    (ho : o.op = .call { callee := .builtin .clear, args := #[d], argTypes := #[t] }) (elem : TypeId) (z : Value) (hu : P.underlying t = some (.slice elem)) (hv : ∀ w, (zeroValue elem).run P w = .ok z w) (h1 : ∀ u ∈ z.cells.toList, u.oneCell' = true)
    (g off n c : Nat) (hn : 0 < n) (hd : a.eval d = .slice (some ⟨g, off, none⟩) n c) (cur : Array Value) (te : TypeId) (hg : w.heap[g]? = some (.cells cur te (0, 0))) (hfit : off + n * z.cells.size ≤ cur.size)
    (h : ∀ w', w'.heap[g]? = some (.cells (cur.toList.take off ++ (Builtin.zeroCells z.cells n).toList ++ cur.toList.drop (off + n * z.cells.size)).toArray te (0, 0)) → Upd (· = g) w w' → wpList P ops Q rest (a.put o.dst (.tuple #[])) w') : wpList P ops Q (o :: rest) a w := by
  refine wpList_yes hw fun K hK => ?_
  have hrun := run_clear_rowK (P := P) w t elem o.type z hu hv h1 g off n c hn cur te hg hfit
  unfold Oper.wp execOp
  simp only [ho, resolve, invoke, builtin, Sem.run_bind, Sem.run_pure, Result.andThen_ok, List.map_toArray, List.map_cons, List.map_nil, hd, hrun]
  exact hK _ _ (h _ (setRow_heap w g _ _ te _ hg) (upd_setRow _))
theorem wp_append_roomK {w : World} {o : Oper} {a : Act} {K : Act → World → Prop} {Q : Exit → Act → World → Prop} (s x : Operand) (t : TypeId)
    (ho : o.op = .call { callee := .builtin .append, args := #[s, x], argTypes := #[t, t] }) (e : TypeId) (size : Nat) (hu : P.underlying t = some (.slice e)) (hsz : (P.info? e).map (·.size) = some size)
    (g n cap : Nat) (hs : a.eval s = .slice (some ⟨g, 0, none⟩) n cap) (ad : Addr) (m c : Nat) (hx : a.eval x = .slice (some ad) m c)
    (cur : Array Value) (hg : w.heap[g]? = some (.cells cur e (0, 0))) (news : List Value) (hl : news.length = m * size) (hnews : ∀ j u, news[j]? = some u → w.cell? (ad.add j) = some u) (h1 : ∀ u ∈ news, u.oneCell' = true)
    (hroom : n + m ≤ cap) (hfit : n * size + news.length ≤ cur.size)
    (h : ∀ w', w'.heap[g]? = some (.cells (cur.toList.take (n * size) ++ news ++ cur.toList.drop (n * size + news.length)).toArray e (0, 0)) → Upd (· = g) w w' → K (a.put o.dst (.slice (some ⟨g, 0, none⟩) (n + m) cap)) w') : o.wp P a w K Q := by
  obtain ⟨i, hi, hsi⟩ := Option.map_eq_some_iff.1 hsz
  subst hsi
  have hrun := run_append_room (P := P) w t o.type e i hu hi g n cap cur hg ad m c news hl hnews h1 hroom hfit
  unfold Oper.wp execOp
  simp only [ho, resolve, invoke, builtin, Sem.run_bind, Sem.run_pure, Result.andThen_ok, List.map_toArray, List.map_cons, List.map_nil, hs, hx, hrun]
  exact h _ (setRow_heap w g _ _ e _ hg) (upd_setRow _)
/-- append(s[:i], make(S, k)...) that goes beyond the capacity: a new row. -/
theorem wpList_append_zerosK {w : World} {ops : Array Oper} {rest : List Oper} {o : Oper} {a : Act} {Q : Exit → Act → World → Prop} (hw : Region.wanted o (yielded ops a.tmps) = true) (s x : Operand) (t tn : TypeId)
    (ho : o.op = .call { callee := .builtin .append, args := #[s, x], argTypes := #[t, tn] }) {e : TypeId} {z : Value} {size bytes : Nat} (hinf : infoIs P e z size bytes) (hu : P.underlying t = some (.slice e)) (hun : P.underlying tn = some (.int .i64)) (hzs : z.cells.size = size) (hsz : 0 < size)
    (g n cap k r : Nat) (hr : r = n + k) (kx : Int) (hkx : kx = (k : Int)) (hs : a.eval s = .slice (some ⟨g, 0, none⟩) n cap) (hx : a.eval x = .int .i64 kx)
    (olds : List Value) (hol : olds.length = n * size) (holds : ∀ j u, olds[j]? = some u → w.cell? ⟨g, j, none⟩ = some u) (hk : 0 < k) (hroom : cap < n + k) (hbytes : (n + k) * bytes ≤ 140737488355328) (h63 : n + k ≤ maxLen)
    (h : ∀ w' cap' cur, r ≤ cap' → cap' ≤ maxLen → cur.size = cap' * size → cur.toList.take (n * size) = olds → w'.heap[w.heap.size]? = some (.cells cur e (0, 0)) → Upd (fun _ => False) w w' → w'.heap.size = w.heap.size + 1 → wpList P ops Q rest (a.put o.dst (.slice (some ⟨w.heap.size, 0, none⟩) r cap')) w') : wpList P ops Q (o :: rest) a w := by
  obtain ⟨i, hi, hz, hsize, hbt⟩ := info_parts hinf
  subst hsize
  subst hbt
  subst hr
  subst hkx
  refine wpList_yes hw fun K hK => ?_
  have hf := run_firstCells_some (P := P) w.drew i.size n ⟨g, 0, none⟩ n cap olds hol (fun j u hj => by rw [addr_add, Nat.zero_add]; exact holds j u hj)
  have hk2 : k * i.bytes ≤ (n + k) * i.bytes := Nat.mul_le_mul_right _ (by omega)
  have hrun := Lib.run_append_grow_zeros (P := P) w t tn o.type e i z .i64 .i64 hu hun hi hz (some ⟨g, 0, none⟩) n cap olds hf k hk hsz hroom (by unfold maxLen at h63; omega) (by omega) (growslice_fits hroom hbytes)
  unfold Oper.wp execOp
  simp only [ho, resolve, invoke, builtin, Sem.run_bind, Sem.run_pure, Result.andThen_ok, List.map_toArray, List.map_cons, List.map_nil, hs, hx, hrun]
  refine hK _ _ (h _ _ _ (grownCap_ge w (n + k) cap e) (grownCap_le_maxLen w (n + k) cap e h63) ?_ ?_ (heap_alloc_new w.drew _) ⟨rfl, rfl, rfl, by simp, fun k hk _ => Below.heap_alloc _ _ _ hk⟩ (by simp))
  · have := grownCap_ge w (n + k) cap e
    simp only [Array.size_append, List.size_toArray, size_zeroCells, hzs, hol, ← Nat.add_mul]
    congr 1
    omega
  · simp only [Array.toList_append, List.append_assoc]
    rw [← hol]
    exact List.take_left
theorem len_splice3 {α : Type} (L M : List α) (o : Nat) (h : o + M.length ≤ L.length) : (L.take o ++ M ++ L.drop (o + M.length)).length = L.length := by simp; omega
theorem take_splice3 {α : Type} (L M : List α) (o : Nat) (h : o + M.length ≤ L.length) : (L.take o ++ M ++ L.drop (o + M.length)).take (o + M.length) = L.take o ++ M := by
  have : (L.take o ++ M).length = o + M.length := by simp; omega
  rw [← this, List.take_left]
theorem take_splice3' {α : Type} (L M : List α) (o : Nat) (h : o + M.length ≤ L.length) : (L.take o ++ M ++ L.drop (o + M.length)).take o = L.take o := by
  have h1 : (L.take o).length = o := by simp; omega
  rw [List.append_assoc]
  conv => lhs; arg 1; rw [← h1]
  exact List.take_left
/-- The row behind append(s[:k], s[k+1:]...). -/
theorem del_list {α : Type} (cur xs : List α) (K k m c : Nat) (hlen : cur.length = (k + 1 + m + c) * K) (ht : cur.take ((k + 1 + m) * K) = xs) :
    (xs.drop ((k + 1) * K)).length = m * K ∧ (cur.take (k * K) ++ xs.drop ((k + 1) * K) ++ cur.drop (k * K + (xs.drop ((k + 1) * K)).length)).length = cur.length ∧
    (cur.take (k * K) ++ xs.drop ((k + 1) * K) ++ cur.drop (k * K + (xs.drop ((k + 1) * K)).length)).take ((k + m) * K) = xs.take (k * K) ++ xs.drop ((k + 1) * K) := by
  have e1 : (k + 1 + m + c) * K = k * K + K + m * K + c * K := by simp only [Nat.add_mul, Nat.one_mul]
  have e2 : (k + 1 + m) * K = k * K + K + m * K := by simp only [Nat.add_mul, Nat.one_mul]
  have e3 : (k + 1) * K = k * K + K := by simp only [Nat.add_mul, Nat.one_mul]
  have e4 : (k + m) * K = k * K + m * K := by simp only [Nat.add_mul]
  have hx : xs.length = k * K + K + m * K := by rw [← ht, List.length_take]; omega
  have hd : (xs.drop ((k + 1) * K)).length = m * K := by rw [List.length_drop]; omega
  refine ⟨hd, ?_, ?_⟩
  · exact len_splice3 _ _ _ (by omega)
  · rw [e4, ← hd, take_splice3 _ _ _ (by omega), ← ht, List.take_take, Nat.min_eq_left (by omega)]
theorem del_list' {α : Type} (cur xs : List α) (K k n cap : Nat) (hk : k < n) (hn : n ≤ cap) (hlen : cur.length = cap * K) (ht : cur.take (n * K) = xs) :
    (xs.drop ((k + 1) * K)).length = (n - (k + 1)) * K ∧ k * K + (n - (k + 1)) * K ≤ cap * K ∧ (n - 1) * K + K ≤ cap * K ∧ (cur.take (k * K) ++ xs.drop ((k + 1) * K) ++ cur.drop (k * K + (xs.drop ((k + 1) * K)).length)).length = cap * K ∧
    (cur.take (k * K) ++ xs.drop ((k + 1) * K) ++ cur.drop (k * K + (xs.drop ((k + 1) * K)).length)).take ((n - 1) * K) = xs.take (k * K) ++ xs.drop ((k + 1) * K) := by
  obtain ⟨m, rfl⟩ : ∃ m, n = k + 1 + m := ⟨n - (k + 1), by omega⟩
  obtain ⟨c, rfl⟩ : ∃ c, cap = k + 1 + m + c := ⟨cap - (k + 1 + m), by omega⟩
  obtain ⟨h1, h2, h3⟩ := del_list cur xs K k m c hlen ht
  have e1 : (k + 1 + m + c) * K = k * K + K + m * K + c * K := by simp only [Nat.add_mul, Nat.one_mul]
  have e4 : (k + m) * K = k * K + m * K := by simp only [Nat.add_mul]
  rw [show k + 1 + m - (k + 1) = m by omega, show k + 1 + m - 1 = k + m by omega]
  exact ⟨h1, by omega, by omega, h2.trans hlen, h3⟩
theorem ins_list {α : Type} (cur xs V : List α) (K k n cap : Nat) (hk : k ≤ n) (hn : n + 1 ≤ cap) (hlen : cur.length = cap * K) (ht : cur.take (n * K) = xs) (hV : V.length = K) (cur2 : List α) (h2 : cur2 = cur.take ((k + 1) * K) ++ xs.drop (k * K) ++ cur.drop ((k + 1) * K + (xs.drop (k * K)).length)) :
    (xs.drop (k * K)).length = (n - k) * K ∧ (k + 1) * K + (n - k) * K ≤ cap * K ∧ cur2.length = cap * K ∧ k * K + V.length ≤ cap * K ∧ (cur2.take (k * K) ++ V ++ cur2.drop (k * K + V.length)).length = cap * K ∧
    (cur2.take (k * K) ++ V ++ cur2.drop (k * K + V.length)).take ((n + 1) * K) = xs.take (k * K) ++ V ++ xs.drop (k * K) := by
  obtain ⟨m, rfl⟩ : ∃ m, n = k + m := ⟨n - k, by omega⟩
  obtain ⟨c, rfl⟩ : ∃ c, cap = k + m + 1 + c := ⟨cap - (k + m + 1), by omega⟩
  have e1 : (k + m + 1 + c) * K = k * K + m * K + K + c * K := by simp only [Nat.add_mul, Nat.one_mul]
  have e2 : (k + m) * K = k * K + m * K := by simp only [Nat.add_mul]
  have e3 : (k + 1) * K = k * K + K := by simp only [Nat.add_mul, Nat.one_mul]
  have e4 : (k + m + 1) * K = k * K + m * K + K := by simp only [Nat.add_mul, Nat.one_mul]
  have hx : xs.length = k * K + m * K := by rw [← ht, List.length_take]; omega
  have hd : (xs.drop (k * K)).length = m * K := by rw [List.length_drop]; omega
  have l2 : cur2.length = cur.length := by rw [h2]; exact len_splice3 _ _ _ (by omega)
  have l3 : (cur2.take (k * K) ++ V ++ cur2.drop (k * K + V.length)).length = cur2.length := len_splice3 _ _ _ (by omega)
  have t2 : cur2.take (k * K) = xs.take (k * K) := by
    have h := take_splice3' cur (xs.drop (k * K)) ((k + 1) * K) (by omega)
    rw [← h2] at h
    have h' := congrArg (List.take (k * K)) h
    rw [List.take_take, List.take_take, Nat.min_eq_left (by omega)] at h'
    rw [h', ← ht, List.take_take, Nat.min_eq_left (by omega)]
  have d2 : cur2.drop (k * K + V.length) = xs.drop (k * K) ++ cur.drop ((k + 1) * K + (xs.drop (k * K)).length) := by
    have hl : (cur.take ((k + 1) * K)).length = k * K + V.length := by rw [List.length_take]; omega
    rw [h2, List.append_assoc, ← hl, List.drop_left]
  rw [show k + m - k = m by omega]
  refine ⟨hd, by omega, by omega, by omega, by omega, ?_⟩
  rw [t2, d2, ← List.append_assoc]
  have hl : (xs.take (k * K) ++ V ++ xs.drop (k * K)).length = (k + m + 1) * K := by simp only [List.length_append, List.length_take, hd]; omega
  rw [← hl]
  exact List.take_left
theorem ins_list' {α : Type} (cur xs V : List α) (K k n cap : Nat) (hk : k ≤ n) (hn : n + 1 ≤ cap) (hlen : cur.length = cap * K) (hx : xs.length = n * K) (ht : cur.take (k * K) = xs.take (k * K)) (hV : V.length = K) (cur2 : List α) (h2 : cur2 = cur.take (k * K) ++ V ++ cur.drop (k * K + V.length)) :
    (xs.drop (k * K)).length = (n - k) * K ∧ k * K + V.length ≤ cap * K ∧ cur2.length = cap * K ∧ (k + 1) * K + (n - k) * K ≤ cap * K ∧ (cur2.take ((k + 1) * K) ++ xs.drop (k * K) ++ cur2.drop ((k + 1) * K + (xs.drop (k * K)).length)).length = cap * K ∧
    (cur2.take ((k + 1) * K) ++ xs.drop (k * K) ++ cur2.drop ((k + 1) * K + (xs.drop (k * K)).length)).take ((n + 1) * K) = xs.take (k * K) ++ V ++ xs.drop (k * K) := by
  obtain ⟨m, rfl⟩ : ∃ m, n = k + m := ⟨n - k, by omega⟩
  obtain ⟨c, rfl⟩ : ∃ c, cap = k + m + 1 + c := ⟨cap - (k + m + 1), by omega⟩
  have e1 : (k + m + 1 + c) * K = k * K + m * K + K + c * K := by simp only [Nat.add_mul, Nat.one_mul]
  have e2 : (k + m) * K = k * K + m * K := by simp only [Nat.add_mul]
  have e3 : (k + 1) * K = k * K + K := by simp only [Nat.add_mul, Nat.one_mul]
  have e4 : (k + m + 1) * K = k * K + m * K + K := by simp only [Nat.add_mul, Nat.one_mul]
  have hd : (xs.drop (k * K)).length = m * K := by rw [List.length_drop]; omega
  have l2 : cur2.length = cur.length := by rw [h2]; exact len_splice3 _ _ _ (by omega)
  have t2 : cur2.take ((k + 1) * K) = xs.take (k * K) ++ V := by
    have h := take_splice3 cur V (k * K) (by omega)
    rw [← h2, hV, ← e3, ht] at h
    exact h
  have l3 : (cur2.take ((k + 1) * K) ++ xs.drop (k * K) ++ cur2.drop ((k + 1) * K + (xs.drop (k * K)).length)).length = cur2.length := len_splice3 _ _ _ (by omega)
  rw [show k + m - k = m by omega]
  refine ⟨hd, by omega, by omega, by omega, by omega, ?_⟩
  have h := take_splice3 cur2 (xs.drop (k * K)) ((k + 1) * K) (by omega)
  have hn' : (k + m + 1) * K = (k + 1) * K + (xs.drop (k * K)).length := by omega
  rw [hn', h, t2]
theorem wpList_appendX {w : World} {ops : Array Oper} {rest : List Oper} {o : Oper} {a : Act} {Q : Exit → Act → World → Prop} (hw : Region.wanted o (yielded ops a.tmps) = true) (s x : Operand) (t : TypeId)
    (ho : o.op = .call { callee := .builtin .append, args := #[s, x], argTypes := #[t, t] })
    {base : Nat} {e : TypeId} {z : Value} {size bytes : Nat} (hinf : infoIs P e z size bytes) (ht : P.underlying t = some (.slice e)) (hzs : z.cells.size = size) (hsz : 0 < size) (hby : 0 < bytes)
    {v : Value} {n : Nat} {xs : List Value} (hown : w.ownsRow base e size v n xs) (hb : base ≤ w.heap.size)
    {vb : Nat} {te : TypeId} {fr : Nat × Nat} {cs : Array Value} (hvb : w.heap[vb]? = some (.cells cs te fr)) (hcs : cs.size = size) (h1 : ∀ u ∈ cs.toList, u.oneCell' = true) (hbytes : (n + 1) * bytes ≤ 140737488355328)
    (hs : a.eval s = v) (hx : a.eval x = .slice (some ⟨vb, 0, none⟩) 1 1)
    (h : ∀ v' w', w'.ownsRow base e size v' (n + 1) (xs ++ cs.toList) → Upd (fun k => v.ownBlock = some k) w w' → wpList P ops Q rest (a.put o.dst v') w') : wpList P ops Q (o :: rest) a w := by
  obtain ⟨i, hi, hz, hsize, hbt⟩ := info_parts hinf
  have hle : n + 1 ≤ (n + 1) * bytes := Nat.le_mul_of_pos_right _ hby
  refine wpList_yes hw fun K hK => ?_
  refine wp_append_own _ s x t ho base e i z size bytes ht hi hz hsize hbt hzs hsz v n xs hs hown ⟨vb, 0, none⟩ 1 1 cs.toList hx (by simp [hcs]) ?_ h1 (by unfold maxLen; omega) hbytes hb ?_
  · intro j u hu
    rw [addr_add, Nat.zero_add]
    simp only [World.cell?, hvb]
    simpa using hu
  · intro v' w' hown' hgrow _
    exact hK _ _ (h v' w' hown' ((Upd.refl _ w).grown hgrow (fun k hk => .inl hk)))
theorem cells_of_blk {w : World} {g : Nat} {cur : Array Value} {e : TypeId} {fr : Nat × Nat} (hg : w.heap[g]? = some (.cells cur e fr)) (i : Nat) (u : Value) (h : cur.toList[i]? = some u) : w.cell? ((⟨g, 0, none⟩ : Addr).add i) = some u := by
  rw [addr_add, Nat.zero_add]
  simp only [World.cell?, hg]
  simpa using h
theorem cells_of_row {w : World} {g : Nat} {cur : Array Value} {e : TypeId} (hg : w.heap[g]? = some (.cells cur e (0, 0))) {n : Nat} {xs : List Value} (ht : cur.toList.take n = xs) (i : Nat) (u : Value) (h : xs[i]? = some u) : w.cell? ⟨g, i, none⟩ = some u := by
  subst ht
  have hi := (List.getElem?_eq_some_iff.1 h).1
  rw [List.length_take] at hi
  rw [List.getElem?_take, if_pos (by omega)] at h
  simp only [World.cell?, hg]
  simpa using h
end
end Go.Proofs.YtnggcldpojebkaaDoor
