/- Laws of the walk for slices that a call makes itself, in a short form; rows of cells that are only read. -/
import Derived.Test.YtafgbmeibnhapaaBytes
import Derived.WalkKit
import Derived.WalkSpells
import Derived.WalkLawsBesides
import Derived.Lib.Hide
namespace Go.Proofs.Ytafgbmeibnhapaa
open Go.RowKit

/-- The element type's row of the table, as one closed fact. -/
def infoIs (P : Program) (e : TypeId) (z : Value) (size bytes : Nat) : Prop :=
  (P.info? e).map (fun i => (i.zero, i.size, i.bytes)) = some (some z, size, bytes)

theorem ret_congr {a b : Value} (h : a = b) : Ending.returned a = .returned b := by rw [h]

theorem cell_block {w : World} {cs : Array Value} {e : TypeId} (j : Nat) (u : Value) (h : cs[j]? = some u) :
    (w.alloc (.cells cs e)).cell? ⟨w.heap.size, j, none⟩ = some u := by
  rw [World.cell?_alloc_at _ _ _ _ rfl]; simpa using h

theorem addr_add (g j k : Nat) : (⟨g, j, none⟩ : Addr).add k = ⟨g, j + k, none⟩ := by unfold Addr.add; split <;> simp_all

/-- 'append(s, x)', x one element that lies in a new block. -/
theorem wpList_append1 {P : Program} {w w0 : World} {B : Nat} {ops : Array Oper} {rest : List Oper} {o : Oper} {a : Act} {Q : Exit → Act → World → Prop} (hgd : o.guard = none) (s x : Operand) (t : TypeId)
    (ho : o.op = .call { callee := .builtin .append, args := #[s, x], argTypes := #[t, t] })
    {base : Nat} {e : TypeId} {z : Value} {size bytes : Nat} (hinf : infoIs P e z size bytes) (ht : P.underlying t = some (.slice e)) (hzs : z.cells.size = size) (hsz : 0 < size) (hby : 0 < bytes)
    {v : Value} {n : Nat} {xs : List Value} (hown : w.ownsRow base e size v n xs) (hbel : Below B w0 w) (hB : B ≤ base) (hb : base ≤ w.heap.size)
    {cs : Array Value} (hcs : cs.size = size) (h1 : ∀ u ∈ cs.toList, u.oneCell' = true) (hbytes : (n + 1) * bytes ≤ 140737488355328)
    (hs : a.eval s = v) (hx : a.eval x = .slice (some ⟨w.heap.size, 0, none⟩) 1 1)
    (h : ∀ v' w', w'.ownsRow base e size v' (n + 1) (xs ++ cs.toList) → Below B w0 w' → w.heap.size < w'.heap.size → wpList P ops Q rest (a.put o.dst v') w') : wpList P ops Q (o :: rest) a (w.alloc (.cells cs e)) := by
  obtain ⟨i, hi, hz, hsize, hbt⟩ := info_parts hinf
  have hle : n + 1 ≤ (n + 1) * bytes := Nat.le_mul_of_pos_right _ hby
  refine wpList_append_own _ hgd s x t ho base e i z size bytes ht hi hz hsize hbt hzs hsz v n xs hs (hown.alloc _) ⟨w.heap.size, 0, none⟩ 1 1 cs.toList hx (by simp [hcs]) ?_ h1 (by unfold maxLen; omega) hbytes (by simp; omega) ?_
  · intro j u hu
    rw [addr_add, Nat.zero_add]
    exact cell_block j u (by simpa using hu)
  · intro v' w' hown' hgrow _
    refine h v' w' hown' ?_ (by have := hgrow.size; simp at this; omega)
    refine (hbel.alloc (by omega) _).grown hgrow (by simp; omega) ?_
    intro k hk
    have := (hown.lt k hk).1; omega

/-- A slice that can be read: n elements of 'size' cells each. -/
def rdRow (w : World) (size : Nat) (v : Value) (n : Nat) (xs : List Value) : Prop :=
  xs.length = n * size ∧ ∃ ao cap, v = .slice ao n cap ∧ n ≤ cap ∧ cap ≤ maxLen ∧ (ao = none → cap = 0) ∧ ∀ a, ao = some a → ∀ j u, xs[j]? = some u → w.cell? (a.add j) = some u

theorem rdRow_of_owns {w : World} {base : Nat} {e : TypeId} {size : Nat} {v : Value} {n : Nat} {xs : List Value} (h : w.ownsRow base e size v n xs) : rdRow w size v n xs := by
  refine ⟨h.1, ?_⟩
  rcases h.2 with ⟨rfl, rfl⟩ | ⟨g, cap, cur, rfl, hb, hg, hn, hm, hs, ht⟩
  · exact ⟨none, 0, rfl, Nat.le_refl _, by decide, fun _ => rfl, fun a h => by cases h⟩
  · refine ⟨_, cap, rfl, hn, hm, (fun h => by cases h), fun a ha j u hu => ?_⟩
    obtain rfl := Option.some.inj ha
    exact h.cells (g := g) rfl j u hu

theorem rdRow.below {w w' : World} {size : Nat} {v : Value} {n : Nat} {xs : List Value} (h : rdRow w size v n xs) (hb : Below w.heap.size w w') : rdRow w' size v n xs := by
  obtain ⟨h1, ao, cap, hv, hn, hm, hz, hc⟩ := h
  refine ⟨h1, ao, cap, hv, hn, hm, hz, fun a ha j u hu => ?_⟩
  have hc' := hc a ha j u hu
  rw [hb.cell (World.block_lt_of_cell? w _ hc')]; exact hc'

/-- A row of the call's own stays so while blocks below its base, or none, turn. -/
theorem owns_below {w w' : World} {base : Nat} {e : TypeId} {size : Nat} {v : Value} {n : Nat} {xs : List Value} (h : w.ownsRow base e size v n xs) (hb : Below w.heap.size w w') : w'.ownsRow base e size v n xs := by
  refine ⟨h.1, ?_⟩
  rcases h.2 with h | ⟨g, cap, cur, rfl, hbg, hg, r⟩
  · exact .inl h
  · exact .inr ⟨g, cap, cur, rfl, hbg, by rw [hb.block g (Array.getElem?_eq_some_iff.1 hg).1]; exact hg, r⟩

theorem owns_base {w : World} {base base' : Nat} {e : TypeId} {size : Nat} {v : Value} {n : Nat} {xs : List Value} (h : w.ownsRow base e size v n xs) (hb : base' ≤ base) : w.ownsRow base' e size v n xs := by
  refine ⟨h.1, ?_⟩
  rcases h.2 with h | ⟨g, cap, cur, rfl, hbg, hg, r⟩
  · exact .inl h
  · exact .inr ⟨g, cap, cur, rfl, by omega, hg, r⟩

/-- Bytes as cells. -/
def bvs (l : List UInt8) : List Value := l.map fun c => .int .u8 (c.toNat : Int)
theorem bvs_length (l : List UInt8) : (bvs l).length = l.length := by simp [bvs]
theorem bvs_append (a b : List UInt8) : bvs (a ++ b) = bvs a ++ bvs b := by simp [bvs]
theorem bvs_one (c : UInt8) : bvs [c] = [.int .u8 (c.toNat : Int)] := rfl

theorem run_bytes_string {P : Program} {w : World} {src e dst : TypeId} (hs : P.underlying src = some (.slice e)) (he : P.underlying e = some (.int .u8)) (hd : P.underlying dst = some .string)
    {v : Value} {n : Nat} {l : List UInt8} (h : rdRow w 1 v n (bvs l)) : (convert src dst v).run P w = .ok (.string ⟨l.toArray⟩) w := by
  have hlen : l.length = n := by have := h.1; rw [bvs_length] at this; omega
  obtain ⟨-, ao, cap, rfl, hn, hm, hz, hc⟩ := h
  cases l with
  | nil =>
    obtain rfl : n = 0 := hlen.symm
    rw [run_convert_bytes_string w src dst e _ _ _ hs he hd]
    cases ao with
    | none => simp [Conv.bytesToString]; rfl
    | some a =>
      have : (loadCells a 0).run P w = .ok ([].map (Value.int .u8)).toArray w := by simp [loadCells, loadCellsFrom]
      rw [run_bytesToString w a 0 cap [] this]; rfl
  | cons c l =>
    cases ao with
    | none => have := hz rfl; simp at hlen; omega
    | some a =>
      have hc0 := hc a rfl 0 _ (by simp [bvs]; rfl)
      obtain ⟨g, off, spot⟩ := a
      have hspot : spot = none := by simpa [Addr.add] using World.cell?_spot hc0
      subst hspot
      have := run_convert_bytes_arg (P := P) w src e hs he g off n cap ((c :: l).map fun c => (c.toNat : Int)) (by simpa using hlen) ?_ dst hd
      · rw [this]
        congr 2
        simp [strOfNums, List.map_map, Function.comp_def]
      · intro i hi
        have := hc _ rfl i (.int .u8 ((c :: l)[i]'(by omega)).toNat) (by simp only [bvs]; rw [List.getElem?_map, List.getElem?_eq_getElem (by omega)]; rfl)
        rw [addr_add] at this
        rw [this, List.getD, List.getElem?_map, List.getElem?_eq_getElem (show i < (c :: l).length by omega)]
        rfl

/-- 'string(b)' of bytes that can be read. -/
theorem wpList_bytes_string {P : Program} {w : World} {ops : Array Oper} {rest : List Oper} {o : Oper} {a : Act} {Q : Exit → Act → World → Prop} (hgd : o.guard = none) (x : Operand) (src dst e : TypeId)
    (ho : o.op = .convert src dst x) (hs : P.underlying src = some (.slice e)) (he : P.underlying e = some (.int .u8)) (hd : P.underlying dst = some .string)
    {v : Value} {n : Nat} {l : List UInt8} (hr : rdRow w 1 v n (bvs l)) (hx : a.eval x = v)
    (h : wpList P ops Q rest (a.put o.dst (.string ⟨l.toArray⟩)) w) : wpList P ops Q (o :: rest) a w := by
  refine wpList_plain hgd fun K hK => ?_
  have hrun := run_bytes_string hs he hd hr
  unfold Oper.wp
  simp only [execOp, ho, hx, Sem.run_bind, hrun, Result.andThen, Sem.run_pure, Oper.upon]
  exact hK _ _ h

end Go.Proofs.Ytafgbmeibnhapaa
