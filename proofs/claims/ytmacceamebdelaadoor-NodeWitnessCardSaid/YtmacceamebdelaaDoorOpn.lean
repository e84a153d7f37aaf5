/- Texts put together: Open OpenRows OpenHead OpenStep OpenSteps. -/
import Derived.Test.YtmacceamebdelaaDoorBas
import Derived.ProofKit
import Derived.OpenShut
import Derived.SizedLaws
import Derived.Test.YtmacceamebdelaaDoorChecked
import Derived.Deep.Slices
import Derived.Test.YtmacceamebdelaaDoorStA
import Derived.Test.YtmacceamebdelaaDoorStB
/-! Open -/
namespace Go.Proofs.YtmacceamebdelaaDoor
open Go.ChangeShapes Go.WideShapes Go.ChangeAt Go.RowKit

theorem reach_num : reachBytes = 140737488351232 := by decide

section
variable {H : Type} {enc : TypeId × Value → H} {P : Program} {w : World} {held : Bool} {fuel : Nat}

theorem weights_le {ts : List TypeId} {ds : List (DataW H)} (h : (DataW.weightsEach P ts ds).all (· ≤ reachBytes) = true) {j : Nat} {t : TypeId} {d : DataW H} (ht : ts[j]? = some t) (hd : ds[j]? = some d) :
    ∀ n ∈ d.weights P t, n ≤ 140737488351232 := by
  intro n hn
  have := List.all_eq_true.1 h _ (DataW.weights_mem_each ht hd n hn)
  rw [← reach_num]; simpa using this

theorem weightsAll_mem {e : TypeId} : ∀ {l : List (DataW H)} {d : DataW H}, d ∈ l → ∀ n ∈ d.weights P e, n ∈ DataW.weightsAll P e l
  | d0 :: r, d, hd, n, hn => by
    rw [DataW.weightsAll, List.mem_append]
    rcases List.mem_cons.1 hd with rfl | h
    · exact .inl hn
    · exact .inr (weightsAll_mem h n hn)

theorem open_rdStrs {t e : TypeId} (ht : P.underlying t = some (.slice e)) (he : P.underlying e = some .string) (hc : P.cellsOf e = 1) (hby : P.bytesOf e = 16)
    {a : Option Addr} {len cap : Nat} {d : DataW H} {p : List MemPlace}
    (h : DataW.trod enc P w 0 (fun _ => true) held fuel t [.slice a len cap] = some (d, p)) (hw : ∀ n ∈ d.weights P t, n ≤ 140737488351232) :
    ∃ ss : List ByteArray, rdRow w 1 (.slice a len cap) len (ss.map .string) ∧ (∀ s ∈ ss, s.size ≤ 140737488351232) ∧ len * 16 ≤ 140737488351232 ∧ (d = .nil ∧ ss = [] ∨ ∃ sp, d = .slice (strs ss) sp) := by
  rcases open_strings ht he hc h with ⟨hcs, hx⟩ | ⟨x, l, c, ss, hcs, _, hl, hm, hz, hx, hcell, hws⟩
  · simp only [List.cons.injEq, Value.slice.injEq, and_true] at hcs
    obtain ⟨rfl, rfl, rfl⟩ := hcs
    simp only [Prod.mk.injEq] at hx
    exact ⟨[], ⟨by simp, none, 0, rfl, Nat.le_refl _, by decide, fun _ => rfl, fun _ h => by cases h⟩, by simp, by omega, .inl ⟨hx.1, rfl⟩⟩
  · simp only [List.cons.injEq, Value.slice.injEq, and_true] at hcs
    obtain ⟨rfl, rfl, rfl⟩ := hcs
    simp only [if_true] at hz
    simp only [Prod.mk.injEq] at hx
    obtain ⟨rfl, rfl⟩ := hx
    have hlen : (ss.take len).length = len := by simp; omega
    refine ⟨ss.take len, ⟨by simp; omega, some x, cap, rfl, hl, hm, (fun h => by cases h), fun b hb j u hu => ?_⟩, ?_, ?_, .inr ⟨_, rfl⟩⟩
    · obtain rfl := Option.some.inj hb
      have hj : j < len := by have := (List.getElem?_eq_some_iff.1 hu).1; simp at this; omega
      rw [hcell j (by omega)]
      rw [List.getElem?_map, List.getElem?_take, if_pos hj, List.getElem?_eq_getElem (by omega)] at hu
      simp only [Option.map_some, Option.some.injEq] at hu
      rw [← hu, List.getD, List.getElem?_eq_getElem (by omega)]; rfl
    · intro s hs
      have : s.data.toList.length ≤ 140737488351232 := by
        refine hw _ ?_
        rw [DataW.weights, ht]
        refine List.mem_cons_of_mem _ (List.mem_append_left _ (weightsAll_mem (d := .lit (.string s.data.toList)) ?_ _ ?_))
        · simp only [strs, List.mem_map]; exact ⟨s, hs, rfl⟩
        · simp [DataW.weights]
      simpa using this
    · have := hw ((strs (H := H) (ss.take len)).length * 16 + (strs (H := H) (ss.drop len)).length * 16) (by rw [DataW.weights, ht, ← hby, ← Nat.add_mul]; exact List.mem_cons_self)
      simp only [strs, List.length_map, hlen] at this
      omega

theorem open_rdInts {t e : TypeId} {k : IntKind} (ht : P.underlying t = some (.slice e)) (he : P.underlying e = some (.int k)) (hc : P.cellsOf e = 1) {by_ : Nat} (hby : P.bytesOf e = by_)
    {a : Option Addr} {len cap : Nat} {d : DataW H} {p : List MemPlace}
    (h : DataW.trod enc P w 0 (fun _ => true) held fuel t [.slice a len cap] = some (d, p)) (hw : ∀ n ∈ d.weights P t, n ≤ 140737488351232) :
    ∃ zs : List Int, rdRow w 1 (.slice a len cap) len (zs.map (.int k)) ∧ (∀ n ∈ zs, (Lit.int k n).wf = true) ∧ len * by_ ≤ 140737488351232 ∧ (d = .nil ∧ zs = [] ∨ ∃ sp, d = .slice (lits k zs) sp) := by
  rcases open_ints ht he hc h with ⟨hcs, hx⟩ | ⟨x, l, c, zs, hcs, _, hl, hm, hz, hx, hcell, hws⟩
  · simp only [List.cons.injEq, Value.slice.injEq, and_true] at hcs
    obtain ⟨rfl, rfl, rfl⟩ := hcs
    simp only [Prod.mk.injEq] at hx
    exact ⟨[], ⟨by simp, none, 0, rfl, Nat.le_refl _, by decide, fun _ => rfl, fun _ h => by cases h⟩, by simp, by omega, .inl ⟨hx.1, rfl⟩⟩
  · simp only [List.cons.injEq, Value.slice.injEq, and_true] at hcs
    obtain ⟨rfl, rfl, rfl⟩ := hcs
    simp only [if_true] at hz
    simp only [Prod.mk.injEq] at hx
    obtain ⟨rfl, rfl⟩ := hx
    have hlen : (zs.take len).length = len := by simp; omega
    refine ⟨zs.take len, ⟨by simp; omega, some x, cap, rfl, hl, hm, (fun h => by cases h), fun b hb j u hu => ?_⟩, fun n hn => hws n (List.mem_of_mem_take hn), ?_, .inr ⟨_, rfl⟩⟩
    · obtain rfl := Option.some.inj hb
      have hj : j < len := by have := (List.getElem?_eq_some_iff.1 hu).1; simp at this; omega
      rw [hcell j (by omega)]
      rw [List.getElem?_map, List.getElem?_take, if_pos hj, List.getElem?_eq_getElem (by omega)] at hu
      simp only [Option.map_some, Option.some.injEq] at hu
      rw [← hu, List.getD, List.getElem?_eq_getElem (by omega)]; rfl
    · have := hw ((lits (H := H) k (zs.take len)).length * by_ + (lits (H := H) k (zs.drop len)).length * by_) (by rw [DataW.weights, ht, ← hby, ← Nat.add_mul]; exact List.mem_cons_self)
      simp only [lits, List.length_map, hlen] at this
      omega
end
end Go.Proofs.YtmacceamebdelaaDoor
/-! OpenRows -/
namespace Go.Proofs.YtmacceamebdelaaDoor
open Go.ChangeShapes Go.WideShapes Go.ChangeAt Go.RowKit
set_option linter.unusedVariables false
set_option linter.unusedSimpArgs false

theorem open_rows {α : Type} {k : Nat} {f : α → List Value} (hk : ∀ x, (f x).length = k) (hk0 : 0 < k) (d : α) {H : Type} {enc : TypeId × Value → H} {w : World} {sp : Nat → Bool} {held : Bool} {T e : TypeId}
    (hu : Tryd.prog.underlying T = some (.slice e)) (hcell : Tryd.prog.cellsOf e = k) {R : α → Prop}
    (each : ∀ (n : Nat) (cs : List Value) (x : DataW H × List MemPlace), DataW.trod enc Tryd.prog w 0 sp held n e cs = some x → cs.length = k → ∃ y, cs = f y ∧ R y)
    {fuel : Nat} {c : Value} {x : DataW H × List MemPlace} (h : DataW.trod enc Tryd.prog w 0 sp held fuel T [c] = some x) : ∃ l : List α, rdG k f w c l ∧ ∀ y ∈ l, R y := by
  rcases Deep.open_slice hu h with ⟨hcs, _⟩ | ⟨a, len, cap, m, n, D, Pl, hcs, _, hl, hm, hmm, _, hel⟩
  · obtain rfl : c = .slice none 0 0 := by simpa using hcs
    exact ⟨[], rdG_nil _, fun _ h => by cases h⟩
  · obtain rfl : c = .slice (some a) len cap := by simpa using hcs
    have hlm : len ≤ m := by rw [hmm]; split <;> omega
    have each' : ∀ i, i < len → ∃ y : α, R y ∧ ∀ r u, (f y)[r]? = some u → w.cell? (a.add (i * k + r)) = some u := by
      intro i hi
      obtain ⟨cs', h1, h2⟩ := hel i (by omega)
      rw [hcell] at h1
      obtain ⟨_, hlen, hcl⟩ := World.cells?_some h1
      obtain ⟨y, rfl, hy⟩ := each _ _ _ h2 hlen
      refine ⟨y, hy, fun r u hu => ?_⟩
      have hr : r < k := by have := (List.getElem?_eq_some_iff.1 hu).1; rw [hk] at this; exact this
      have := hcl r hr
      rw [Deep.add_add] at this
      rw [this]; exact hu
    haveI : Inhabited α := ⟨d⟩
    obtain ⟨g, hg⟩ := Deep.choose_lt each'
    refine ⟨(List.range len).map g, ⟨?_, some a, cap, by simp, by simpa using hl, hm, (fun h => by cases h), fun b hb j u hu => ?_⟩, fun y hy => ?_⟩
    · rw [gvs_length hk]
    · obtain rfl := Option.some.inj hb
      have hj : j < len * k := by
        have := (List.getElem?_eq_some_iff.1 hu).1
        rw [gvs_length hk] at this; simpa using this
      have h1 : j / k < len := Nat.div_lt_of_lt_mul (by rw [Nat.mul_comm]; exact hj)
      have h2 : j % k < k := Nat.mod_lt _ hk0
      have h3 : j / k * k + j % k = j := by rw [Nat.mul_comm]; exact Nat.div_add_mod j k
      have e0 := gvs_get hk ((List.range len).map g) (j / k) d (by simpa using h1) (j % k) h2
      have e1 : ((List.range len).map g).getD (j / k) d = g (j / k) := by rw [List.getD, List.getElem?_map, List.getElem?_range h1]; rfl
      rw [e1, h3, hu] at e0
      have := (hg (j / k) h1).2 _ _ e0.symm
      rw [h3] at this
      exact this
    · obtain ⟨i, hi, rfl⟩ := List.mem_map.1 hy
      exact (hg i (by simpa using hi)).1
/-- How long a slice that comes in may be, by its weight. -/
theorem rows_len {H : Type} {enc : TypeId × Value → H} {w : World} {sp : Nat → Bool} {held : Bool} {T e : TypeId} (hu : Tryd.prog.underlying T = some (.slice e)) {by_ : Nat} (hb : Tryd.prog.bytesOf e = by_)
    {fuel : Nat} {a : Option Addr} {len cap : Nat} {d : DataW H} {p : List MemPlace} (h : DataW.trod enc Tryd.prog w 0 sp held fuel T [.slice a len cap] = some (d, p)) (hw : ∀ n ∈ d.weights Tryd.prog T, n ≤ 140737488351232) : len * by_ ≤ 140737488351232 := by
  rcases Deep.open_slice hu h with ⟨hcs, _⟩ | ⟨a', len', cap', m, n, D, Pl, hcs, _, hl, hm, hmm, hx, hel⟩
  · have : len = 0 := by simp only [List.cons.injEq, Value.slice.injEq, and_true] at hcs; exact hcs.2.1
    rw [this]; omega
  · have e1 : len = len' := by simp only [List.cons.injEq, Value.slice.injEq, and_true] at hcs; exact hcs.2.1
    subst e1
    have hd : d = _ := congrArg Prod.fst hx
    simp only at hd
    rw [hd, DataW.weights, hu] at hw
    have := hw _ (List.mem_cons_self)
    rw [hb] at this
    simp only [List.length_map, List.length_range] at this
    have h2 : len * by_ ≤ (len + (m - len)) * by_ := Nat.mul_le_mul_right _ (by omega)
    omega
end Go.Proofs.YtmacceamebdelaaDoor
/-! OpenHead -/
namespace Go.Proofs.YtmacceamebdelaaDoor
open Go.ChangeShapes Go.WideShapes Go.ChangeAt Go.RowKit
set_option linter.unusedVariables false
set_option linter.unusedSimpArgs false

set_option maxRecDepth 100000 in
theorem open_head {H : Type} {enc : TypeId × Value → H} {W : World} {b0 : Nat} {sp : Nat → Bool} {held : Bool} {v : Value} {d : DataW H} {p : List MemPlace}
    (hv : Value.okWide Tryd.prog W .any b0 28 v) (h : DataW.Trod enc Tryd.prog W 0 sp held 28 v d p) : ∃ (n : Int) (r : ByteArray), v = .agg #[.int .i64 n, .string r] := by
  obtain ⟨cs, rfl, hsz⟩ := okWide_struct Tryd.underlying28 hv
  have hc : Tryd.prog.cellsOf 28 = 2 := by kernel_rfl
  have hci : Tryd.prog.cellsOf 3 = 1 := by kernel_rfl
  have hcs : Tryd.prog.cellsOf 9 = 1 := by kernel_rfl
  obtain ⟨l⟩ := cs
  match l, hsz.trans hc with
  | [c0, c1], _ =>
    obtain ⟨fuel, hf⟩ := h
    obtain ⟨xs, n, _, hx, _, hlen, hg⟩ := DataW.trod_struct Tryd.underlying28 hf
    match xs, hlen with
    | [y0, y1], _ =>
      have h0 : DataW.trod enc Tryd.prog W 0 sp held n 3 (([c0, c1].drop 0).take (Tryd.prog.cellsOf 3)) = some y0 := hg 0 _ rfl
      have h1 : DataW.trod enc Tryd.prog W 0 sp held n 9 (([c0, c1].drop 1).take (Tryd.prog.cellsOf 9)) = some y1 := hg 1 _ rfl
      rw [hci] at h0
      rw [hcs] at h1
      obtain ⟨k, e0, _⟩ := DataW.trod_int Tryd.underlying3 h0
      obtain ⟨s, e1, _⟩ := DataW.trod_string Tryd.underlying9 h1
      have e0' : c0 = .int .i64 k := by simpa using e0
      have e1' : c1 = .string s := by simpa using e1
      subst e0' e1'
      exact ⟨k, s, rfl⟩
end Go.Proofs.YtmacceamebdelaaDoor
/-! OpenStep -/
namespace Go.Proofs.YtmacceamebdelaaDoor
open Go.ChangeShapes Go.WideShapes Go.ChangeAt Go.RowKit
set_option linter.unusedVariables false
set_option linter.unusedSimpArgs false

theorem openS1 {H : Type} {enc : TypeId × Value → H} {w : World} {sp : Nat → Bool} {held : Bool} {fuel : Nat} {c : Value} {x : DataW H × List MemPlace}
    (h : DataW.trod enc Tryd.prog w 0 sp held fuel 35 [c] = some x) : ∃ ss : List ByteArray, rdS w c ss := by
  have hc1 : Tryd.prog.cellsOf 9 = 1 := by kernel_rfl
  rcases Deep.open_slice Tryd.underlying35 h with ⟨hcs, _⟩ | ⟨a, len, cap, m, n, D, Pl, hcs, _, hl, hm, hmm, _, hel⟩
  · obtain rfl : c = .slice none 0 0 := by simpa using hcs
    exact ⟨[], rfl, none, 0, rfl, Nat.le_refl _, by decide, fun _ => rfl, fun _ h => by cases h⟩
  · obtain rfl : c = .slice (some a) len cap := by simpa using hcs
    have hlm : len ≤ m := by rw [hmm]; split <;> omega
    have each : ∀ i, i < len → ∃ s : ByteArray, w.cell? (a.add i) = some (.string s) := by
      intro i hi
      obtain ⟨cs', h1, h2⟩ := hel i (by omega)
      rw [hc1] at h1
      obtain ⟨_, hlen, hcell⟩ := World.cells?_some h1
      obtain ⟨s0, e0, _⟩ := DataW.trod_string Tryd.underlying9 h2
      subst e0
      refine ⟨s0, ?_⟩
      have := hcell 0 (by omega)
      rw [Deep.add_add] at this
      simpa using this
    obtain ⟨f, hf⟩ := Deep.choose_lt each
    refine ⟨(List.range len).map f, ?_, some a, cap, by simp, by simpa using hl, hm, (fun h => by cases h), fun b hb j u hu => ?_⟩
    · simp [svs]
    · obtain rfl := Option.some.inj hb
      have hj : j < len := by
        have := (List.getElem?_eq_some_iff.1 hu).1
        simpa [svs] using this
      rw [hf j hj]
      simp [svs, hj] at hu
      rw [hu]
theorem openI1 {H : Type} {enc : TypeId × Value → H} {w : World} {sp : Nat → Bool} {held : Bool} {fuel : Nat} {c : Value} {x : DataW H × List MemPlace}
    (h : DataW.trod enc Tryd.prog w 0 sp held fuel 139 [c] = some x) : ∃ ss : List Int, rdI w c ss := by
  have hc1 : Tryd.prog.cellsOf 3 = 1 := by kernel_rfl
  rcases Deep.open_slice Tryd.underlying139 h with ⟨hcs, _⟩ | ⟨a, len, cap, m, n, D, Pl, hcs, _, hl, hm, hmm, _, hel⟩
  · obtain rfl : c = .slice none 0 0 := by simpa using hcs
    exact ⟨[], rfl, none, 0, rfl, Nat.le_refl _, by decide, fun _ => rfl, fun _ h => by cases h⟩
  · obtain rfl : c = .slice (some a) len cap := by simpa using hcs
    have hlm : len ≤ m := by rw [hmm]; split <;> omega
    have each : ∀ i, i < len → ∃ s : Int, w.cell? (a.add i) = some (.int .i64 s) := by
      intro i hi
      obtain ⟨cs', h1, h2⟩ := hel i (by omega)
      rw [hc1] at h1
      obtain ⟨_, hlen, hcell⟩ := World.cells?_some h1
      obtain ⟨s0, e0, _⟩ := DataW.trod_int Tryd.underlying3 h2
      subst e0
      refine ⟨s0, ?_⟩
      have := hcell 0 (by omega)
      rw [Deep.add_add] at this
      simpa using this
    obtain ⟨f, hf⟩ := Deep.choose_lt each
    refine ⟨(List.range len).map f, ?_, some a, cap, by simp, by simpa using hl, hm, (fun h => by cases h), fun b hb j u hu => ?_⟩
    · simp [ivs]
    · obtain rfl := Option.some.inj hb
      have hj : j < len := by
        have := (List.getElem?_eq_some_iff.1 hu).1
        simpa [ivs] using this
      rw [hf j hj]
      simp [ivs, hj] at hu
      rw [hu]
set_option maxRecDepth 100000 in
theorem open_step {H : Type} {enc : TypeId × Value → H} {W : World} {b0 : Nat} {sp : Nat → Bool} {held : Bool} {v : Value} {d : DataW H} {p : List MemPlace}
    (hv : Value.okWide Tryd.prog W .any b0 141 v) (h : DataW.Trod enc Tryd.prog W 0 sp held 141 v d p) :
    ∃ (s : Stp) (vw vs : Value), v = .agg #[.string s.ref, .string s.old, .string s.new, vw, vs] ∧ rdI W vw s.who ∧ rdS W vs s.seals := by
  obtain ⟨cs, rfl, hsz⟩ := okWide_struct Tryd.underlying141 hv
  have hc : Tryd.prog.cellsOf 141 = 5 := by kernel_rfl
  have hcs : Tryd.prog.cellsOf 9 = 1 := by kernel_rfl
  have hce : Tryd.prog.cellsOf 139 = 1 := by kernel_rfl
  have hcp : Tryd.prog.cellsOf 35 = 1 := by kernel_rfl
  obtain ⟨l⟩ := cs
  match l, hsz.trans hc with
  | [c0, c1, c2, c3, c4], _ =>
    obtain ⟨fuel, hf⟩ := h
    obtain ⟨xs, n, _, hx, _, hlen, hg⟩ := DataW.trod_struct Tryd.underlying141 hf
    match xs, hlen with
    | [y0, y1, y2, y3, y4], _ =>
      have h0 : DataW.trod enc Tryd.prog W 0 sp held n 9 (([c0, c1, c2, c3, c4].drop 0).take (Tryd.prog.cellsOf 9)) = some y0 := hg 0 _ rfl
      have h1 : DataW.trod enc Tryd.prog W 0 sp held n 9 (([c0, c1, c2, c3, c4].drop 1).take (Tryd.prog.cellsOf 9)) = some y1 := hg 1 _ rfl
      have h2 : DataW.trod enc Tryd.prog W 0 sp held n 9 (([c0, c1, c2, c3, c4].drop 2).take (Tryd.prog.cellsOf 9)) = some y2 := hg 2 _ rfl
      have h3 : DataW.trod enc Tryd.prog W 0 sp held n 139 (([c0, c1, c2, c3, c4].drop 3).take (Tryd.prog.cellsOf 139)) = some y3 := hg 3 _ rfl
      have h4 : DataW.trod enc Tryd.prog W 0 sp held n 35 (([c0, c1, c2, c3, c4].drop 4).take (Tryd.prog.cellsOf 35)) = some y4 := hg 4 _ rfl
      rw [hcs] at h0 h1 h2
      rw [hce] at h3
      rw [hcp] at h4
      obtain ⟨s0, e0, _⟩ := DataW.trod_string Tryd.underlying9 h0
      obtain ⟨s1, e1, _⟩ := DataW.trod_string Tryd.underlying9 h1
      obtain ⟨s2, e2, _⟩ := DataW.trod_string Tryd.underlying9 h2
      obtain ⟨zs, e3⟩ := openI1 (c := c3) h3
      obtain ⟨ss, e4⟩ := openS1 (c := c4) h4
      have e0' : c0 = .string s0 := by simpa using e0
      have e1' : c1 = .string s1 := by simpa using e1
      have e2' : c2 = .string s2 := by simpa using e2
      subst e0' e1' e2'
      exact ⟨⟨s0, s1, s2, zs, ss⟩, c3, c4, rfl, e3, e4⟩
end Go.Proofs.YtmacceamebdelaaDoor
/-! OpenSteps -/
namespace Go.Proofs.YtmacceamebdelaaDoor
open Go.ChangeShapes Go.WideShapes Go.ChangeAt Go.RowKit
set_option linter.unusedVariables false
set_option linter.unusedSimpArgs false

set_option maxRecDepth 100000 in
theorem open_steps {H : Type} {enc : TypeId × Value → H} {W : World} {b0 : Nat} {sp : Nat → Bool} {held : Bool} {v : Value} {d : DataW H} {p : List MemPlace}
    (hv : Value.okWide Tryd.prog W .any b0 48 v) (h : DataW.Trod enc Tryd.prog W 0 sp held 48 v d p) : ∃ l : List Stp, rdT W v l := by
  obtain ⟨a, len, cap, rfl⟩ := okWide_slice Tryd.underlying48 hv
  obtain ⟨fuel, hf⟩ := h
  have hc : Tryd.prog.cellsOf 141 = 5 := by kernel_rfl
  have hcs : Tryd.prog.cellsOf 9 = 1 := by kernel_rfl
  have hce : Tryd.prog.cellsOf 139 = 1 := by kernel_rfl
  have hcp : Tryd.prog.cellsOf 35 = 1 := by kernel_rfl
  obtain ⟨L, h1, h2⟩ := open_rows (f := stvC) stvC_len (by decide) zeroStv Tryd.underlying48 hc (R := fun t => rdI W t.vw t.s.who ∧ rdS W t.vs t.s.seals) (fun k cs x hx hl => by
    obtain ⟨xs, n, _, hx, _, hlen, hg⟩ := DataW.trod_struct Tryd.underlying141 hx
    match cs, hl with
    | [c0, c1, c2, c3, c4], _ =>
      match xs, hlen with
      | [y0, y1, y2, y3, y4], _ =>
        have h0 : DataW.trod enc Tryd.prog W 0 sp held n 9 (([c0, c1, c2, c3, c4].drop 0).take (Tryd.prog.cellsOf 9)) = some y0 := hg 0 _ rfl
        have h1 : DataW.trod enc Tryd.prog W 0 sp held n 9 (([c0, c1, c2, c3, c4].drop 1).take (Tryd.prog.cellsOf 9)) = some y1 := hg 1 _ rfl
        have h2 : DataW.trod enc Tryd.prog W 0 sp held n 9 (([c0, c1, c2, c3, c4].drop 2).take (Tryd.prog.cellsOf 9)) = some y2 := hg 2 _ rfl
        have h3 : DataW.trod enc Tryd.prog W 0 sp held n 139 (([c0, c1, c2, c3, c4].drop 3).take (Tryd.prog.cellsOf 139)) = some y3 := hg 3 _ rfl
        have h4 : DataW.trod enc Tryd.prog W 0 sp held n 35 (([c0, c1, c2, c3, c4].drop 4).take (Tryd.prog.cellsOf 35)) = some y4 := hg 4 _ rfl
        rw [hcs] at h0 h1 h2
        rw [hce] at h3
        rw [hcp] at h4
        obtain ⟨s0, e0, _⟩ := DataW.trod_string Tryd.underlying9 h0
        obtain ⟨s1, e1, _⟩ := DataW.trod_string Tryd.underlying9 h1
        obtain ⟨s2, e2, _⟩ := DataW.trod_string Tryd.underlying9 h2
        obtain ⟨zs, e3⟩ := openI1 (c := c3) h3
        obtain ⟨ss, e4⟩ := openS1 (c := c4) h4
        have e0' : c0 = .string s0 := by simpa using e0
        have e1' : c1 = .string s1 := by simpa using e1
        have e2' : c2 = .string s2 := by simpa using e2
        subst e0' e1' e2'
        exact ⟨⟨⟨s0, s1, s2, zs, ss⟩, c3, c4⟩, rfl, e3, e4⟩) hf
  exact ⟨L.map Stv.s, L, rfl, h1, h2⟩
theorem steps_len {H : Type} {enc : TypeId × Value → H} {W : World} {sp : Nat → Bool} {held : Bool} {v : Value} {d : DataW H} {p : List MemPlace} {l : List Stp}
    (hr : rdT W v l) (h : DataW.Trod enc Tryd.prog W 0 sp held 48 v d p) (hw : ∀ n ∈ d.weights Tryd.prog 48, n ≤ 140737488351232) : l.length ≤ 140737488351232 := by
  obtain ⟨a, cap, rfl⟩ := rdT_form hr
  obtain ⟨fuel, hf⟩ := h
  have := rows_len Tryd.underlying48 (by_ := 96) (by kernel_rfl) hf hw
  omega
end Go.Proofs.YtmacceamebdelaaDoor
