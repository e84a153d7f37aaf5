/- Slices of strings: read, compared, appended to. -/
import Derived.Test.YtinhjnbgblieeaaDoorChecked
import Derived.Test.YtinhjnbgblieeaaDoorSlice
import Derived.Test.YtinhjnbgblieeaaDoorBlk
import Derived.Test.YtinhjnbgblieeaaDoorRegion
import Derived.Test.YtinhjnbgblieeaaDoorRegion2
namespace Go.Proofs.YtinhjnbgblieeaaDoor
open Go.RowKit
set_option linter.unusedVariables false
set_option linter.unusedSimpArgs false

theorem info_string : infoIs Tryd.prog 9 (.string ⟨#[]⟩) 1 16 := by unfold infoIs; kernel_rfl
theorem size_string : (Tryd.prog.info? 9).map (·.size) = some 1 := by kernel_rfl
/-- Strings as cells. -/
def svs (ss : List ByteArray) : List Value := ss.map .string
theorem svs_take (ss : List ByteArray) (k : Nat) : (svs ss).take (k * 1) = svs (ss.take k) := by simp [svs, List.map_take]
theorem svs_drop (ss : List ByteArray) (k : Nat) : (svs ss).drop (k * 1) = svs (ss.drop k) := by simp [svs, List.map_drop]
theorem svs_append (a b : List ByteArray) : svs (a ++ b) = svs a ++ svs b := by simp [svs]
theorem svs_one (ss : List ByteArray) : ∀ y ∈ svs ss, y.oneCell' = true := by
  intro y hy
  obtain ⟨s, _, rfl⟩ := List.mem_map.1 hy
  rfl
theorem svs_length (ss : List ByteArray) : (svs ss).length = ss.length := by simp [svs]
/-- A slice of strings that can be read. -/
def rdS (w : World) (v : Value) (ss : List ByteArray) : Prop := rdRow w 1 v ss.length (svs ss)
theorem rdS.below {w w' : World} {v : Value} {ss : List ByteArray} (h : rdS w v ss) (hb : Below w.heap.size w w') : rdS w' v ss := rdRow.below h hb
def smalls (ss : List ByteArray) : Prop := ∀ s ∈ ss, s.size ≤ 140737488355328
theorem smalls_take {ss : List ByteArray} (h : smalls ss) (k : Nat) : smalls (ss.take k) := fun s hs => h s (List.mem_of_mem_take hs)
theorem smalls_drop {ss : List ByteArray} (h : smalls ss) (k : Nat) : smalls (ss.drop k) := fun s hs => h s (List.mem_of_mem_drop hs)
theorem rdS_to {w : World} {v : Value} {ss : List ByteArray} (hr : rdS w v ss) (k : Nat) (hk : k ≤ ss.length) :
    ∃ v', (∀ w' : World, (Instr.sliceAt 23 v none (some (.int .i64 (k : Int))) none).run Tryd.prog w' = .ok v' w') ∧ rdS w v' (ss.take k) := by
  obtain ⟨v', h1, h2⟩ := slice_to Tryd.underlying23 size_string hr k hk
  refine ⟨v', h1, ?_⟩
  rw [svs_take] at h2
  have : (ss.take k).length = k := by rw [List.length_take]; omega
  unfold rdS; rw [this]; exact h2
theorem rdS_from {w : World} {v : Value} {ss : List ByteArray} (hr : rdS w v ss) (k : Nat) (hk : k ≤ ss.length) :
    ∃ v', (∀ w' : World, (Instr.sliceAt 23 v (some (.int .i64 (k : Int))) none none).run Tryd.prog w' = .ok v' w') ∧ rdS w v' (ss.drop k) := by
  obtain ⟨v', h1, h2⟩ := slice_from Tryd.underlying23 size_string hr k hk
  refine ⟨v', h1, ?_⟩
  rw [svs_drop] at h2
  unfold rdS; rw [List.length_drop]; exact h2
theorem rdS_form {w : World} {v : Value} {ss : List ByteArray} (hr : rdS w v ss) : ∃ ao cap, v = .slice ao ss.length cap := rd_form hr
theorem rdS_len {w : World} {v : Value} {ss : List ByteArray} (hr : rdS w v ss) : ss.length ≤ 9223372036854775807 := by
  obtain ⟨_, ao, cap, rfl, h1, h2, _⟩ := hr
  unfold maxLen at h2; omega
theorem rdS_at {w : World} {v : Value} {ss : List ByteArray} (hr : rdS w v ss) (j : Nat) (h : j < ss.length) :
    ∃ b off cap, v = .slice (some ⟨b, off, none⟩) ss.length cap ∧ w.cell? ⟨b, off + j, none⟩ = some (.string (ss.getD j ⟨#[]⟩)) ∧ b < w.heap.size := by
  refine rd_cell hr j _ ?_
  rw [svs, List.getElem?_map, List.getElem?_eq_getElem h, List.getD, List.getElem?_eq_getElem h]; rfl
theorem smalls_at {ss : List ByteArray} (h : smalls ss) (j : Nat) : (ss.getD j ⟨#[]⟩).size ≤ 140737488355328 := by
  by_cases hj : j < ss.length
  · rw [List.getD, List.getElem?_eq_getElem hj]; exact h _ (List.getElem_mem hj)
  · rw [List.getD, List.getElem?_eq_none (by omega)]; exact Nat.zero_le _
theorem below_drew {B : Nat} {a w : World} (h : Below B a w) : Below B a w.drew := h.drew
/-- A call that answers a new slice of strings. -/
def RetS (w : World) (l : List ByteArray) (e : Ending) (w' : World) : Prop := ∃ v, e = .returned v ∧ w'.ownsRow w.heap.size 9 1 v l.length (svs l) ∧ Below w.heap.size w w'
theorem rdS_owns {w : World} {B : Nat} {v : Value} {ss : List ByteArray} (h : w.ownsRow B 9 1 v ss.length (svs ss)) : rdS w v ss := rdRow_of_owns h
theorem wp_append1 {P : Program} {w w0 : World} {B : Nat} {o : Oper} {a : Act} {K : Act → World → Prop} {Q : Exit → Act → World → Prop} (s x : Operand) (t : TypeId)
    (ho : o.op = .call { callee := .builtin .append, args := #[s, x], argTypes := #[t, t] })
    {base : Nat} {e : TypeId} {z : Value} {bytes : Nat} (hinf : infoIs P e z 1 bytes) (ht : P.underlying t = some (.slice e)) (hzs : z.cells.size = 1) (hby : 0 < bytes)
    {v : Value} {n : Nat} {xs : List Value} (hown : w.ownsRow base e 1 v n xs) (hbel : Below B w0 w) (hB : B ≤ base) (hb : base ≤ w.heap.size)
    {u : Value} (h1 : u.oneCell' = true) (hbytes : (n + 1) * bytes ≤ 140737488355328)
    (hs : a.eval s = v) (hx : a.eval x = .slice (some ⟨w.heap.size, 0, none⟩) 1 1)
    (h : ∀ v' w', w'.ownsRow base e 1 v' (n + 1) (xs ++ [u]) → Below B w0 w' → K (a.put o.dst v') w') : o.wp P a (w.alloc (.cells #[u] e)) K Q := by
  obtain ⟨i, hi, hz, hsize, hbt⟩ := info_parts hinf
  have hle : n + 1 ≤ (n + 1) * bytes := Nat.le_mul_of_pos_right _ hby
  refine wp_append_own _ s x t ho base e i z 1 bytes ht hi hz hsize hbt hzs (by decide) v n xs hs (hown.alloc _) ⟨w.heap.size, 0, none⟩ 1 1 [u] hx (by simp) ?_ (by simpa using h1) (by unfold maxLen; omega) hbytes (by simp; omega) ?_
  · intro j x hj
    rw [addr_add, Nat.zero_add]
    exact cell_block j x (by simpa using hj)
  · intro v' w' hown' hgrow _
    refine h v' w' hown' ?_
    refine (hbel.alloc (by omega) _).grown hgrow (by simp; omega) ?_
    intro k hk
    have := (hown.lt k hk).1; omega
theorem beq_dec (a b : ByteArray) : (a.toList == b.toList) = decide (a = b) := by
  rw [Bool.eq_iff_iff]
  simp only [beq_iff_eq, decide_eq_true_eq]
  constructor
  · intro h
    rw [ByteArray.toList_eq, ByteArray.toList_eq] at h
    exact bs_ext h
  · intro h; rw [h]
/-- A new block of one string. -/
theorem owns_new (w : World) (s : ByteArray) : (w.alloc (.cells #[.string s] 9)).ownsRow w.heap.size 9 1 (.slice (some ⟨w.heap.size, 0, none⟩) 1 1) [s].length (svs [s]) :=
  ⟨rfl, .inr ⟨w.heap.size, 1, #[.string s], rfl, Nat.le_refl _, heap_alloc_new _ _, Nat.le_refl _, by decide, rfl, rfl⟩⟩
theorem beq_no {a b : ByteArray} (h : a ≠ b) : (a.toList == b.toList) = false := by rw [beq_dec]; simpa using h
theorem beq_yes (a : ByteArray) : (a.toList == a.toList) = true := by rw [beq_dec]; simp
theorem rdS_all {w : World} {v : Value} {ss : List ByteArray} (hr : rdS w v ss) (h : 0 < ss.length) :
    ∃ b off cap, v = .slice (some ⟨b, off, none⟩) ss.length cap ∧ b < w.heap.size ∧ ∀ j, j < ss.length → w.cell? ⟨b, off + j, none⟩ = some (.string (ss.getD j ⟨#[]⟩)) := by
  obtain ⟨b, off, cap, rfl, _, hb⟩ := rdS_at hr 0 h
  refine ⟨b, off, cap, rfl, hb, fun j hj => ?_⟩
  obtain ⟨b', off', cap', hv, hc, _⟩ := rdS_at hr j hj
  simp only [Value.slice.injEq, Option.some.injEq, Addr.mk.injEq, and_true, true_and] at hv
  obtain ⟨⟨rfl, rfl⟩, rfl⟩ := hv
  exact hc
theorem eq_of_getD {ss tt : List ByteArray} (hl : ss.length = tt.length) (h : ∀ j, j < ss.length → ss.getD j ⟨#[]⟩ = tt.getD j ⟨#[]⟩) : ss = tt := by
  apply List.ext_getElem hl
  intro i h1 h2
  have := h i h1
  rwa [List.getD, List.getD, List.getElem?_eq_getElem h1, List.getElem?_eq_getElem h2] at this
theorem ne_of_getD {ss tt : List ByteArray} {j : Nat} (h : ss.getD j ⟨#[]⟩ ≠ tt.getD j ⟨#[]⟩) : ss ≠ tt := fun e => h (by rw [e])
set_option maxRecDepth 100000 in
set_option maxHeartbeats 1600000 in
theorem same_any (ss tt : List ByteArray) (v u : Value) (w : World) (hr : rdS w v ss) (hq : rdS w u tt) :
    Calls Tryd.prog 32 #[v, u] w fun e w' => e = .returned (.bool (decide (ss = tt))) ∧ Below w.heap.size w w' := by
  have hlen := rdS_len hr
  have hlen2 := rdS_len hq
  by_cases hl : ss.length = tt.length
  · by_cases h0 : ss.length = 0
    · have he : ss = tt := by rw [List.eq_nil_of_length_eq_zero h0, List.eq_nil_of_length_eq_zero (show tt.length = 0 by omega)]
      have hd : decide (ss = tt) = true := by simpa using he
      rw [hd]
      obtain ⟨ao, cap, rfl⟩ := rdS_form hr
      obtain ⟨ao2, cap2, rfl⟩ := rdS_form hq
      rw [← hl, h0]
      clear hr hq hlen hlen2 hl h0 he hd
      go_enter Tryd.func32, Tryd.ntmps32
      go_wp2_with fail
      refine wp_loop_rounds 1 ?_
      rw [rounds_succ]
      go_wp2_with fail
      go_ret
      exact ⟨rfl, Below.refl _ _⟩
    · obtain ⟨b, off, cap, rfl, hb, hc⟩ := rdS_all hr (by omega)
      obtain ⟨b2, off2, cap2, rfl, hb2, hc2⟩ := rdS_all hq (by omega)
      rw [← hl]
      obtain ⟨n, hn⟩ : ∃ n, n = ss.length := ⟨_, rfl⟩
      rw [← hn] at hlen hc ⊢
      rw [← hl, ← hn] at hc2
      obtain ⟨r, hr0⟩ : ∃ r, r = decide (ss = tt) := ⟨_, rfl⟩
      rw [← hr0]
      have HR := Lib.hid hr0
      have HC := Lib.hid hc
      have HC2 := Lib.hid hc2
      have HN := Lib.hid (show n = ss.length ∧ ss.length = tt.length from ⟨hn, hl⟩)
      clear hr hq hl hc hc2 hr0 hlen2 h0 hn
      go_enter Tryd.func32, Tryd.ntmps32
      go_wp2_with fail
      go_loopw [4, 5] (fun _ i wr => ∃ k : Nat, k ≤ n ∧ i = .int .i64 (k : Int) ∧ (∀ j, j < k → ss.getD j ⟨#[]⟩ = tt.getD j ⟨#[]⟩) ∧ Below w.heap.size w wr) (fun _ i _ => n - (intOf i).toNat)
      case atStart => exact ⟨0, by omega, rfl, fun j hj => by omega, Below.refl _ _⟩
      case round =>
        obtain ⟨k, hk, rfl, hall, hB⟩ := hrel
        have HALL := Lib.hid hall
        have HB := Lib.hid hB
        clear hall hB
        by_cases hlt : k < n
        · obtain ⟨x, hx⟩ : ∃ x, x = ss.getD k ⟨#[]⟩ := ⟨_, rfl⟩
          obtain ⟨y, hy⟩ : ∃ y, y = tt.getD k ⟨#[]⟩ := ⟨_, rfl⟩
          have hcx : wr.drew.cell? ⟨b, off + k, none⟩ = some (.string x) := by rw [hx, ← HC.out k hlt]; exact HB.out.cell (p := ⟨b, off + k, none⟩) hb
          have hcy : wr.drew.cell? ⟨b2, off2 + k, none⟩ = some (.string y) := by rw [hy, ← HC2.out k hlt]; exact HB.out.cell (p := ⟨b2, off2 + k, none⟩) hb2
          have HX := Lib.hid (show x = ss.getD k ⟨#[]⟩ ∧ y = tt.getD k ⟨#[]⟩ ∧ k < n from ⟨hx, hy, hlt⟩)
          have hkb : decide ((k : Int) < (n : Int)) = true := by simp; omega
          have hki : (k : Int) < (n : Int) := by omega
          have hk0 : (0 : Int) ≤ (k : Int) := by omega
          clear hx hy hlt
          by_cases hxy : x = y
          · subst hxy
            have hoo := beq_yes x
            go_wp2_with fail
            refine Lone.wp_region_order [(0, false), (1, false), (2, false), (3, false), (4, false), (5, false), (6, false), (7, false), (8, false)] (fun w' => w'.cell? ⟨b, off + k, none⟩ = some (.string x) ∧ w'.cell? ⟨b2, off2 + k, none⟩ = some (.string x)) (by kernel_rfl) (by kernel_rfl) rfl (by kernel_rfl) (by intro _ _ d _ _ h; cases d <;> exact h) (⟨hcx, hcy⟩) ?_; simp only [List.map_cons, List.map_nil, List.getElem?_toArray, List.getElem?_cons_zero, List.getElem?_cons_succ, Option.getD_some]
            repeat (first | (refine Lone.ro_q (by rfl) (v := ?_) ?_ ?_; rotate_left; (focus (intro w' hSw; (try dsimp only at hSw); go_simp; try with_reducible rfl)); simp only [Act.put, List.setIfInBounds_toArray, List.set_cons_zero, List.set_cons_succ]) | (refine Lone.ro_skip (by rfl) ?_; simp only [Act.put, List.setIfInBounds_toArray, List.set_cons_zero, List.set_cons_succ]))
            (refine Lone.ro_nil ?_; go_wp2_with fail)
            go_roundw
            case rel =>
              refine ⟨k + 1, by have := HX.out; omega, by first | rfl | go_num, fun j hj => ?_, HB.out.drew⟩
              by_cases hjk : j = k
              · rw [hjk, ← HX.out.1, ← HX.out.2.1]
              · exact HALL.out j (by omega)
            case measure =>
              have := HX.out
              simp [intOf]; omega
          · have hoo := beq_no hxy
            have hf : r = false := by
              rw [HR.out]; simp only [decide_eq_false_iff_not]
              exact ne_of_getD (j := k) (by rw [← HX.out.1, ← HX.out.2.1]; exact hxy)
            have HF := Lib.hid hf
            clear hf hxy
            go_wp2_with fail
            refine Lone.wp_region_order [(0, false), (1, false), (2, false), (3, false), (4, false), (5, false), (6, false), (7, false), (8, false)] (fun w' => w'.cell? ⟨b, off + k, none⟩ = some (.string x) ∧ w'.cell? ⟨b2, off2 + k, none⟩ = some (.string y)) (by kernel_rfl) (by kernel_rfl) rfl (by kernel_rfl) (by intro _ _ d _ _ h; cases d <;> exact h) (⟨hcx, hcy⟩) ?_; simp only [List.map_cons, List.map_nil, List.getElem?_toArray, List.getElem?_cons_zero, List.getElem?_cons_succ, Option.getD_some]
            repeat (first | (refine Lone.ro_q (by rfl) (v := ?_) ?_ ?_; rotate_left; (focus (intro w' hSw; (try dsimp only at hSw); go_simp; try with_reducible rfl)); simp only [Act.put, List.setIfInBounds_toArray, List.set_cons_zero, List.set_cons_succ]) | (refine Lone.ro_skip (by rfl) ?_; simp only [Act.put, List.setIfInBounds_toArray, List.set_cons_zero, List.set_cons_succ]))
            (refine Lone.ro_nil ?_; go_wp2_with fail)
            go_ret
            exact ⟨(by rw [HF.out]; rfl), HB.out.drew⟩
        · have hf : r = true := by
            rw [HR.out]; simp only [decide_eq_true_eq]
            have hn := HN.out
            exact eq_of_getD hn.2 (fun j hj => HALL.out j (by omega))
          have HF := Lib.hid hf
          have hkn : k = n := by omega
          subst hkn
          have hkb : decide ((k : Int) < (k : Int)) = false := by simp
          clear hf hlt hk
          go_wp2_with fail
          go_ret
          exact ⟨(by rw [HF.out]; rfl), HB.out⟩
  · have hd : decide (ss = tt) = false := by simp only [decide_eq_false_iff_not]; exact fun e => hl (by rw [e])
    rw [hd]
    obtain ⟨ao, cap, rfl⟩ := rdS_form hr
    obtain ⟨ao2, cap2, rfl⟩ := rdS_form hq
    have hne : ((ss.length : Int) == (tt.length : Int)) = false := by simp; omega
    clear hr hq hd hlen hlen2
    go_enter Tryd.func32, Tryd.ntmps32
    go_wp2_with fail
    go_ret
    exact ⟨rfl, Below.refl _ _⟩
theorem smalls_more {q : List ByteArray} {x : ByteArray} (h : smalls q) (hx : x.size ≤ 140737488355328) : smalls (q ++ [x]) := by
  intro s hs
  rcases List.mem_append.1 hs with h' | h'
  · exact h s h'
  · rw [List.mem_singleton.1 h']; exact hx
theorem wp_append1at {P : Program} {w w0 : World} {B : Nat} {o : Oper} {a : Act} {K : Act → World → Prop} {Q : Exit → Act → World → Prop} (s x : Operand) (t : TypeId)
    (ho : o.op = .call { callee := .builtin .append, args := #[s, x], argTypes := #[t, t] })
    {base : Nat} {e : TypeId} {z : Value} {bytes : Nat} (hinf : infoIs P e z 1 bytes) (ht : P.underlying t = some (.slice e)) (hzs : z.cells.size = 1) (hby : 0 < bytes)
    {v : Value} {n : Nat} {xs : List Value} (hown : w.ownsRow base e 1 v n xs) (hbel : Below B w0 w) (hB : B ≤ base) (hb : base ≤ w.heap.size)
    {u : Value} {g : Nat} (hu : w.cell? ⟨g, 0, none⟩ = some u) (h1 : u.oneCell' = true) (hbytes : (n + 1) * bytes ≤ 140737488355328)
    (hs : a.eval s = v) (hx : a.eval x = .slice (some ⟨g, 0, none⟩) 1 1)
    (h : ∀ v' w', w'.ownsRow base e 1 v' (n + 1) (xs ++ [u]) → Below B w0 w' → K (a.put o.dst v') w') : o.wp P a w K Q := by
  obtain ⟨i, hi, hz, hsize, hbt⟩ := info_parts hinf
  have hle : n + 1 ≤ (n + 1) * bytes := Nat.le_mul_of_pos_right _ hby
  refine wp_append_own _ s x t ho base e i z 1 bytes ht hi hz hsize hbt hzs (by decide) v n xs hs hown ⟨g, 0, none⟩ 1 1 [u] hx (by simp) ?_ (by simpa using h1) (by unfold maxLen; omega) hbytes hb ?_
  · intro j x hj
    rw [addr_add, Nat.zero_add]
    rcases j with _ | j
    · simp at hj; subst hj; exact hu
    · simp at hj
  · intro v' w' hown' hgrow _
    refine h v' w' hown' (hbel.grown hgrow (by omega) ?_)
    intro k hk
    have := (hown.lt k hk).1; omega
theorem rdS_in {w : World} {v : Value} {len : Nat} {z : List ByteArray} (f : rdRow w 1 v len (z.map .string)) (g : ∀ s ∈ z, s.size ≤ 140737488351232) (m : len * 16 ≤ 140737488351232) : rdS w v z ∧ smalls z ∧ z.length * 16 ≤ 140737488351232 := by
  have hl : z.length = len := by have := f.1; simpa using this
  subst hl
  exact ⟨f, fun s hs => Nat.le_trans (g s hs) (by decide), m⟩
theorem wpList_append1w {P : Program} {w w0 : World} {B : Nat} {ops : Array Oper} {rest : List Oper} {o : Oper} {a : Act} {Q : Exit → Act → World → Prop} (hw : Region.wanted o (yielded ops a.tmps) = true) (s x : Operand) (t : TypeId)
    (ho : o.op = .call { callee := .builtin .append, args := #[s, x], argTypes := #[t, t] })
    {base : Nat} {e : TypeId} {z : Value} {bytes : Nat} (hinf : infoIs P e z 1 bytes) (ht : P.underlying t = some (.slice e)) (hzs : z.cells.size = 1) (hby : 0 < bytes)
    {v : Value} {n : Nat} {xs : List Value} (hown : w.ownsRow base e 1 v n xs) (hbel : Below B w0 w) (hB : B ≤ base) (hb : base ≤ w.heap.size)
    {u : Value} (h1 : u.oneCell' = true) (hbytes : (n + 1) * bytes ≤ 140737488355328)
    (hs : a.eval s = v) (hx : a.eval x = .slice (some ⟨w.heap.size, 0, none⟩) 1 1)
    (h : ∀ v' w', w'.ownsRow base e 1 v' (n + 1) (xs ++ [u]) → Below B w0 w' → wpList P ops Q rest (a.put o.dst v') w') : wpList P ops Q (o :: rest) a (w.alloc (.cells #[u] e)) :=
  wpList_yes hw fun K hK => wp_append1 s x t ho hinf ht hzs hby hown hbel hB hb h1 hbytes hs hx (fun v' w' h1 h2 => hK _ _ (h v' w' h1 h2))
end Go.Proofs.YtinhjnbgblieeaaDoor
