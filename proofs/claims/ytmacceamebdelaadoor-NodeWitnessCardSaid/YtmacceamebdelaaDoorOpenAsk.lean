/- A list of asks that comes in, opened. -/
import Derived.Test.YtmacceamebdelaaDoorBas
import Derived.Test.YtmacceamebdelaaDoorOpn
import Derived.Test.YtmacceamebdelaaDoorMer
namespace Go.Proofs.YtmacceamebdelaaDoor
open Go.ChangeShapes Go.WideShapes Go.ChangeAt Go.RowKit
set_option linter.unusedVariables false
set_option linter.unusedSimpArgs false

structure Ask where
  n : Int
  r : ByteArray
  ps : List ByteArray
  fuse : Int
  wake : Bool
  keep : Int
structure Askv where
  a : Ask
  vp : Value
def askC (t : Askv) : List Value := [.int .i64 t.a.n, .string t.a.r, t.vp, .int .i64 t.a.fuse, .bool t.a.wake, .int .i64 t.a.keep]
theorem askC_len (t : Askv) : (askC t).length = 6 := rfl
def zeroAskv : Askv := ⟨⟨0, ⟨#[]⟩, [], 0, false, 0⟩, .slice none 0 0⟩
structure AskOk (w : World) (t : Askv) : Prop where
  ps : rdS w t.vp t.a.ps
  sm : smalls t.a.ps
  fuse : -9223372036854775808 ≤ t.a.fuse ∧ t.a.fuse ≤ 9223372036854775807
  keep : -9223372036854775808 ≤ t.a.keep ∧ t.a.keep ≤ 9223372036854775807
structure RdA (w : World) (v : Value) (L : List Askv) : Prop where
  row : rdG 6 askC w v L
  sub : ∀ t ∈ L, AskOk w t
theorem RdA.below {w w' : World} {v : Value} {L : List Askv} (h : RdA w v L) (hb : Below w.heap.size w w') : RdA w' v L :=
  ⟨h.row.below hb, fun t ht => ⟨(h.sub t ht).ps.below hb, (h.sub t ht).sm, (h.sub t ht).fuse, (h.sub t ht).keep⟩⟩
theorem RdA.at {w : World} {ao : Option Addr} {n cap : Nat} {L : List Askv} (h : RdA w (.slice ao n cap) L) {k : Nat} (hk : k < L.length) :
    ∃ b off, ao = some ⟨b, off, none⟩ ∧ (w.cell? ⟨b, off + k * 6, none⟩ = some (.int .i64 (L.getD k zeroAskv).a.n) ∧ w.cell? ⟨b, off + k * 6 + 1, none⟩ = some (.string (L.getD k zeroAskv).a.r) ∧ w.cell? ⟨b, off + k * 6 + 2, none⟩ = some (L.getD k zeroAskv).vp ∧ w.cell? ⟨b, off + k * 6 + 3, none⟩ = some (.int .i64 (L.getD k zeroAskv).a.fuse) ∧
      w.cell? ⟨b, off + k * 6 + 4, none⟩ = some (.bool (L.getD k zeroAskv).a.wake) ∧ w.cell? ⟨b, off + k * 6 + 5, none⟩ = some (.int .i64 (L.getD k zeroAskv).a.keep)) ∧ AskOk w (L.getD k zeroAskv) := by
  obtain ⟨b, off, h1, _, hc⟩ := rdG_at askC_len (by decide) zeroAskv h.row (by omega)
  have hm : L.getD k zeroAskv ∈ L := by rw [List.getD, List.getElem?_eq_getElem hk]; exact List.getElem_mem hk
  refine ⟨b, off, h1, ⟨?_, ?_, ?_, ?_, ?_, ?_⟩, h.sub _ hm⟩
  · exact hc k hk 0 _ rfl
  · rw [Nat.add_assoc]; exact hc k hk 1 _ rfl
  · rw [Nat.add_assoc]; exact hc k hk 2 _ rfl
  · rw [Nat.add_assoc]; exact hc k hk 3 _ rfl
  · rw [Nat.add_assoc]; exact hc k hk 4 _ rfl
  · rw [Nat.add_assoc]; exact hc k hk 5 _ rfl
/-- As open_rows, with what the elements weigh. -/
theorem open_rowsW {α : Type} {k : Nat} {f : α → List Value} (hk : ∀ x, (f x).length = k) (hk0 : 0 < k) (d : α) {H : Type} {enc : TypeId × Value → H} {w : World} {sp : Nat → Bool} {held : Bool} {T e : TypeId}
    (hu : Tryd.prog.underlying T = some (.slice e)) (hcell : Tryd.prog.cellsOf e = k) {R : α → Prop} {N : Nat}
    (each : ∀ (n : Nat) (cs : List Value) (x : DataW H × List MemPlace), DataW.trod enc Tryd.prog w 0 sp held n e cs = some x → (∀ j ∈ x.1.weights Tryd.prog e, j ≤ N) → cs.length = k → ∃ y, cs = f y ∧ R y)
    {fuel : Nat} {c : Value} {x : DataW H × List MemPlace} (h : DataW.trod enc Tryd.prog w 0 sp held fuel T [c] = some x) (hw : ∀ j ∈ x.1.weights Tryd.prog T, j ≤ N) : ∃ l : List α, rdG k f w c l ∧ ∀ y ∈ l, R y := by
  rcases Deep.open_slice hu h with ⟨hcs, _⟩ | ⟨a, len, cap, m, n, D, Pl, hcs, _, hl, hm, hmm, hx, hel⟩
  · obtain rfl : c = .slice none 0 0 := by simpa using hcs
    exact ⟨[], rdG_nil _, fun _ h => by cases h⟩
  · obtain rfl : c = .slice (some a) len cap := by simpa using hcs
    have hlm : len ≤ m := by rw [hmm]; split <;> omega
    rw [hx] at hw
    have hw2 : ∀ i, i < len → ∀ j ∈ (D i).weights Tryd.prog e, j ≤ N := fun i hi j hj => hw j (by
      rw [DataW.weights, hu]
      exact List.mem_cons_of_mem _ (List.mem_append_left _ (weightsAll_mem (List.mem_map.2 ⟨i, List.mem_range.2 hi, rfl⟩) _ hj)))
    have each' : ∀ i, i < len → ∃ y : α, R y ∧ ∀ r u, (f y)[r]? = some u → w.cell? (a.add (i * k + r)) = some u := by
      intro i hi
      obtain ⟨cs', h1, h2⟩ := hel i (by omega)
      rw [hcell] at h1
      obtain ⟨_, hlen, hcl⟩ := World.cells?_some h1
      obtain ⟨y, rfl, hy⟩ := each _ _ _ h2 (hw2 i hi) hlen
      refine ⟨y, hy, fun r u hu => ?_⟩
      have hr : r < k := by have := (List.getElem?_eq_some_iff.1 hu).1; rw [hk] at this; exact this
      have := hcl r hr
      rw [Deep.add_add] at this
      rw [this]; exact hu
    haveI : Inhabited α := ⟨d⟩
    obtain ⟨g, hg⟩ := Deep.choose_lt each'
    refine ⟨(List.range len).map g, ⟨?_, some a, cap, by simp, by simpa using hl, hm, (fun h => by cases h), fun b hb j u hu => ?_⟩, fun y hy => ?_⟩
    · rw [gvs_length hk]
    · obtain rfl := Option.some.inj hb
      have hj : j < len * k := by
        have := (List.getElem?_eq_some_iff.1 hu).1
        rw [gvs_length hk] at this; simpa using this
      have h1 : j / k < len := Nat.div_lt_of_lt_mul (by rw [Nat.mul_comm]; exact hj)
      have h2 : j % k < k := Nat.mod_lt _ hk0
      have h3 : j / k * k + j % k = j := by rw [Nat.mul_comm]; exact Nat.div_add_mod j k
      have e0 := gvs_get hk ((List.range len).map g) (j / k) d (by simpa using h1) (j % k) h2
      have e1 : ((List.range len).map g).getD (j / k) d = g (j / k) := by rw [List.getD, List.getElem?_map, List.getElem?_range h1]; rfl
      rw [e1, h3, hu] at e0
      have := (hg (j / k) h1).2 _ _ e0.symm
      rw [h3] at this
      exact this
    · obtain ⟨i, hi, rfl⟩ := List.mem_map.1 hy
      exact (hg i (by simpa using hi)).1
set_option maxRecDepth 100000 in
theorem open_asks {H : Type} {enc : TypeId × Value → H} {W : World} {b0 : Nat} {held : Bool} {v : Value} {d : DataW H} {p : List MemPlace}
    (hv : Value.okWide Tryd.prog W .any b0 22 v) (h : DataW.Trod enc Tryd.prog W 0 (fun _ => true) held 22 v d p) (hw : ∀ n ∈ d.weights Tryd.prog 22, n ≤ 140737488351232) : ∃ L : List Askv, RdA W v L := by
  obtain ⟨a, len, cap, rfl⟩ := okWide_slice Tryd.underlying22 hv
  obtain ⟨fuel, hf⟩ := h
  have hc : Tryd.prog.cellsOf 37 = 6 := by kernel_rfl
  have hch : Tryd.prog.cellsOf 28 = 2 := by kernel_rfl
  have hcs : Tryd.prog.cellsOf 9 = 1 := by kernel_rfl
  have hci : Tryd.prog.cellsOf 3 = 1 := by kernel_rfl
  have hcb : Tryd.prog.cellsOf 4 = 1 := by kernel_rfl
  have hcp : Tryd.prog.cellsOf 35 = 1 := by kernel_rfl
  obtain ⟨L, h1, h2⟩ := open_rowsW (f := askC) askC_len (by decide) zeroAskv Tryd.underlying22 hc (R := fun t => AskOk W t) (N := 140737488351232) (fun k cs x hx hwx hl => by
    obtain ⟨xs, n, _, hx2, _, hlen, hg⟩ := DataW.trod_struct Tryd.underlying37 hx
    match cs, hl with
    | [c0, c1, c2, c3, c4, c5], _ =>
      match xs, hlen with
      | [y0, y1, y2, y3, y4], _ =>
        have h0 : DataW.trod enc Tryd.prog W 0 (fun _ => true) held n 28 (([c0, c1, c2, c3, c4, c5].drop 0).take (Tryd.prog.cellsOf 28)) = some y0 := hg 0 _ rfl
        have h1 : DataW.trod enc Tryd.prog W 0 (fun _ => true) held n 35 (([c0, c1, c2, c3, c4, c5].drop 2).take (Tryd.prog.cellsOf 35)) = some y1 := hg 1 _ rfl
        have h2 : DataW.trod enc Tryd.prog W 0 (fun _ => true) held n 3 (([c0, c1, c2, c3, c4, c5].drop 3).take (Tryd.prog.cellsOf 3)) = some y2 := hg 2 _ rfl
        have h3 : DataW.trod enc Tryd.prog W 0 (fun _ => true) held n 4 (([c0, c1, c2, c3, c4, c5].drop 4).take (Tryd.prog.cellsOf 4)) = some y3 := hg 3 _ rfl
        have h4 : DataW.trod enc Tryd.prog W 0 (fun _ => true) held n 3 (([c0, c1, c2, c3, c4, c5].drop 5).take (Tryd.prog.cellsOf 3)) = some y4 := hg 4 _ rfl
        rw [hch] at h0
        rw [hcp] at h1
        rw [hci] at h2 h4
        rw [hcb] at h3
        have hw1 : ∀ j ∈ y1.1.weights Tryd.prog 35, j ≤ 140737488351232 := fun j hj => hwx j (by
          rw [hx2]
          simp only [List.map_cons, List.map_nil]
          rw [DataW.weights, Tryd.underlying37]
          exact List.mem_append_right _ (List.mem_append_left _ hj))
        obtain ⟨ys, m, _, _, _, hl2, hg2⟩ := DataW.trod_struct Tryd.underlying28 h0
        match ys, hl2 with
        | [u0, u1], _ =>
          have k0 : DataW.trod enc Tryd.prog W 0 (fun _ => true) held m 3 (([c0, c1].drop 0).take (Tryd.prog.cellsOf 3)) = some u0 := hg2 0 _ rfl
          have k1 : DataW.trod enc Tryd.prog W 0 (fun _ => true) held m 9 (([c0, c1].drop 1).take (Tryd.prog.cellsOf 9)) = some u1 := hg2 1 _ rfl
          rw [hci] at k0
          rw [hcs] at k1
          obtain ⟨s1, e1, _⟩ := DataW.trod_string Tryd.underlying9 k1
          obtain ⟨i0, e0, _⟩ := DataW.trod_int Tryd.underlying3 k0
          obtain ⟨i3, e3, f3⟩ := DataW.trod_int Tryd.underlying3 h2
          obtain ⟨b4, e4, _⟩ := DataW.trod_bool Tryd.underlying4 h3
          obtain ⟨i5, e5, f5⟩ := DataW.trod_int Tryd.underlying3 h4
          have e0' : c0 = .int .i64 i0 := by simpa using e0
          have e1' : c1 = .string s1 := by simpa using e1
          have e3' : c3 = .int .i64 i3 := by simpa using e3
          have e4' : c4 = .bool b4 := by simpa using e4
          have e5' : c5 = .int .i64 i5 := by simpa using e5
          have hs : ∃ ss : List ByteArray, rdS W c2 ss ∧ smalls ss := by
            rcases Deep.open_slice Tryd.underlying35 h1 with ⟨g1, _⟩ | ⟨a, len, cap, _, _, _, _, g1, _⟩
            · obtain rfl : c2 = .slice none 0 0 := by simpa using g1
              exact ⟨[], rdS_nil0 _, fun _ h => by cases h⟩
            · obtain rfl : c2 = .slice (some a) len cap := by simpa using g1
              obtain ⟨ss, g2, g3, g4, _⟩ := open_rdStrs (d := y1.1) (p := y1.2) Tryd.underlying35 Tryd.underlying9 (by kernel_rfl) (by kernel_rfl) h1 hw1
              obtain ⟨g5, _, _⟩ := rdS_in g2 g3 g4
              exact ⟨ss, g5, fun s hs => by have := g3 s hs; omega⟩
          obtain ⟨ss, g1, g2⟩ := hs
          subst e0' e1' e3' e4' e5'
          exact ⟨⟨⟨i0, s1, ss, i3, b4, i5⟩, c2⟩, rfl, g1, g2, (by have := bounds_i64 f3.2; omega), (by have := bounds_i64 f5.2; omega)⟩) hf hw
  exact ⟨L, h1, h2⟩
end Go.Proofs.YtmacceamebdelaaDoor
