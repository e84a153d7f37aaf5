/- Slices of numbers that can be read; what is said of both numbers and strings. -/
import Derived.Test.YtmacceamebdelaaDoorBas
namespace Go.Proofs.YtmacceamebdelaaDoor
open Go.RowKit
set_option linter.unusedVariables false
set_option linter.unusedSimpArgs false

theorem info_int : infoIs Tryd.prog 3 (.int .i64 0) 1 8 := by unfold infoIs; kernel_rfl
theorem size_int : (Tryd.prog.info? 3).map (·.size) = some 1 := by kernel_rfl
def ivs (zs : List Int) : List Value := zs.map (.int .i64)
theorem ivs_take (zs : List Int) (k : Nat) : (ivs zs).take (k * 1) = ivs (zs.take k) := by simp [ivs, List.map_take]
theorem ivs_drop (zs : List Int) (k : Nat) : (ivs zs).drop (k * 1) = ivs (zs.drop k) := by simp [ivs, List.map_drop]
theorem ivs_append (a b : List Int) : ivs (a ++ b) = ivs a ++ ivs b := by simp [ivs]
theorem ivs_one (zs : List Int) : ∀ y ∈ ivs zs, y.oneCell' = true := by
  intro y hy
  obtain ⟨x, _, rfl⟩ := List.mem_map.1 hy
  rfl
theorem ivs_length (zs : List Int) : (ivs zs).length = zs.length := by simp [ivs]
def rdI (w : World) (v : Value) (zs : List Int) : Prop := rdRow w 1 v zs.length (ivs zs)
theorem rdI.below {w w' : World} {v : Value} {zs : List Int} (h : rdI w v zs) (hb : Below w.heap.size w w') : rdI w' v zs := rdRow.below h hb
theorem rdI_nil (w : World) : rdI w (.slice none 0 0) [] := ⟨rfl, none, 0, rfl, Nat.le_refl _, by decide, fun _ => rfl, fun _ h => by cases h⟩
theorem rdS_nil0 (w : World) : rdS w (.slice none 0 0) [] := ⟨rfl, none, 0, rfl, Nat.le_refl _, by decide, fun _ => rfl, fun _ h => by cases h⟩
theorem rdI_owns {w : World} {B : Nat} {v : Value} {zs : List Int} (h : w.ownsRow B 3 1 v zs.length (ivs zs)) : rdI w v zs := rdRow_of_owns h
theorem rdI_len {w : World} {v : Value} {zs : List Int} (hr : rdI w v zs) : zs.length ≤ 9223372036854775807 := by
  obtain ⟨_, ao, cap, rfl, h1, h2, _⟩ := hr
  unfold maxLen at h2; omega
theorem rdI_at {w : World} {ao : Option Addr} {cap : Nat} {zs : List Int} (hr : rdI w (.slice ao zs.length cap) zs) (h : 0 < zs.length) :
    ∃ b off, ao = some ⟨b, off, none⟩ ∧ b < w.heap.size ∧ ∀ j, j < zs.length → w.cell? ⟨b, off + j, none⟩ = some (.int .i64 (zs.getD j 0)) := by
  have hg : ∀ j, j < zs.length → (ivs zs)[j]? = some (.int .i64 (zs.getD j 0)) := fun j hj => by
    rw [ivs, List.getElem?_map, List.getD, List.getElem?_eq_getElem hj]; rfl
  obtain ⟨b, off, cap', hv, _, hb⟩ := rd_cell hr 0 _ (hg 0 h)
  injection hv with h1 h2 h3
  subst h1
  refine ⟨b, off, rfl, hb, fun j hj => ?_⟩
  obtain ⟨b', off', cap2, hv2, hc, _⟩ := rd_cell hr j _ (hg j hj)
  simp only [Value.slice.injEq, Option.some.injEq, Addr.mk.injEq, and_true, true_and] at hv2
  obtain ⟨⟨rfl, rfl⟩, _⟩ := hv2
  exact hc
theorem rdS_at' {w : World} {ao : Option Addr} {cap : Nat} {ss : List ByteArray} (hr : rdS w (.slice ao ss.length cap) ss) (h : 0 < ss.length) :
    ∃ b off, ao = some ⟨b, off, none⟩ ∧ b < w.heap.size ∧ ∀ j, j < ss.length → w.cell? ⟨b, off + j, none⟩ = some (.string (ss.getD j noB)) := by
  obtain ⟨b, off, cap', hv, hb, hc⟩ := rdS_all hr h
  injection hv with h1 h2 h3
  exact ⟨b, off, h1, hb, hc⟩
section
variable {P : Program} {w w0 : World} {B : Nat}
/-- 'append(s, x...)' inside a region: s of the call's own, x a slice that can be read. -/
theorem wp_append_rd {o : Oper} {a : Act} {K : Act → World → Prop} {Q : Exit → Act → World → Prop} (s x : Operand) (t : TypeId)
    (ho : o.op = .call { callee := .builtin .append, args := #[s, x], argTypes := #[t, t] })
    {base : Nat} {e : TypeId} {z : Value} {bytes size : Nat} (hinf : infoIs P e z size bytes) (ht : P.underlying t = some (.slice e)) (hzs : z.cells.size = size) (hsz : 0 < size) (hby : 0 < bytes)
    {v : Value} {n m : Nat} {xs ys : List Value} {u : Value} (hown : w.ownsRow base e size v n xs) (hbel : Below B w0 w) (hB : B ≤ base) (hb : base ≤ w.heap.size)
    (hr : rdRow w size u m ys) (h1 : ∀ y ∈ ys, y.oneCell' = true) (hbytes : (n + m) * bytes ≤ 140737488355328)
    (hs : a.eval s = v) (hx : a.eval x = u)
    (h : ∀ v' w', w'.ownsRow base e size v' (n + m) (xs ++ ys) → Below B w0 w' → K (a.put o.dst v') w') : o.wp P a w K Q := by
  obtain ⟨i, hi, hz, hsize, hbt⟩ := info_parts hinf
  have hle : n + m ≤ (n + m) * bytes := Nat.le_mul_of_pos_right _ hby
  obtain ⟨hl, ao, cap, rfl, hle2, hm, hz0, hc⟩ := hr
  cases ao with
  | none =>
    have hcap := hz0 rfl
    have hm0 : m = 0 := by omega
    subst hcap hm0
    have hy : ys = [] := List.eq_nil_of_length_eq_zero (by rw [hl, Nat.zero_mul])
    subst hy
    have hrun := run_append_owned_none (P := P) w base t o.type e i size ht hi v n xs hown
    unfold Oper.wp execOp
    simp only [ho, resolve, invoke, builtin, Sem.run_bind, Sem.run_pure, Result.andThen_ok, List.map_toArray, List.map_cons, List.map_nil, hs, hx, hrun]
    exact h v w (by simpa using hown) hbel
  | some ad =>
    refine wp_append_own _ s x t ho base e i z size bytes ht hi hz hsize hbt hzs hsz v n xs hs hown ad m cap ys hx hl (hc ad rfl) h1 (by unfold maxLen; omega) hbytes hb ?_
    intro v' w' hown' hgrow _
    refine h v' w' hown' (hbel.grown hgrow (by have := hbel.size; omega) ?_)
    intro k hk
    have := (hown.lt k hk).1; omega
end
theorem rdI_one {w : World} {n : Nat} {x : Int} (h : w.heap[n]? = some (.cells #[.int .i64 x] 3 (0, 0))) : rdRow w 1 (.slice (some ⟨n, 0, none⟩) 1 1) 1 [.int .i64 x] := by
  refine ⟨rfl, some ⟨n, 0, none⟩, 1, rfl, Nat.le_refl _, by decide, (fun h => by cases h), fun b hb j u hu => ?_⟩
  obtain rfl := Option.some.inj hb
  have hj : j = 0 := by have := (List.getElem?_eq_some_iff.1 hu).1; simpa using this
  subst hj
  have : u = .int .i64 x := by simpa using hu.symm
  subst this
  simp [World.cell?, Addr.add, h]
theorem rdS_one {w : World} {n : Nat} {x : ByteArray} (h : w.heap[n]? = some (.cells #[.string x] 9 (0, 0))) : rdRow w 1 (.slice (some ⟨n, 0, none⟩) 1 1) 1 [.string x] := by
  refine ⟨rfl, some ⟨n, 0, none⟩, 1, rfl, Nat.le_refl _, by decide, (fun h => by cases h), fun b hb j u hu => ?_⟩
  obtain rfl := Option.some.inj hb
  have hj : j = 0 := by have := (List.getElem?_eq_some_iff.1 hu).1; simpa using this
  subst hj
  have : u = .string x := by simpa using hu.symm
  subst this
  simp [World.cell?, Addr.add, h]
theorem rdI_cl {w : World} {b off cap n : Nat} {zs : List Int} (hr : rdI w (.slice (some ⟨b, off, none⟩) zs.length cap) zs) (h : n < zs.length) : w.cell? ⟨b, off + n, none⟩ = some (.int .i64 (zs.getD n 0)) := by
  obtain ⟨b', o', h1, _, hc⟩ := rdI_at hr (by omega)
  simp only [Option.some.injEq, Addr.mk.injEq, and_true] at h1
  obtain ⟨rfl, rfl⟩ := h1
  exact hc n h
theorem rdS_cl {w : World} {b off cap n : Nat} {zs : List ByteArray} (hr : rdS w (.slice (some ⟨b, off, none⟩) zs.length cap) zs) (h : n < zs.length) : w.cell? ⟨b, off + n, none⟩ = some (.string (zs.getD n noB)) := by
  obtain ⟨b', o', h1, _, hc⟩ := rdS_at' hr (by omega)
  simp only [Option.some.injEq, Addr.mk.injEq, and_true] at h1
  obtain ⟨rfl, rfl⟩ := h1
  exact hc n h
end Go.Proofs.YtmacceamebdelaaDoor
