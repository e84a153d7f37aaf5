/- A state is equal to itself. -/
import Derived.Test.YtafgbmeibnhapaaDoorSumPieces
import Derived.Test.YtafgbmeibnhapaaDoorBlk
import Derived.Laws.StructEq
namespace Go.Proofs.YtafgbmeibnhapaaDoor
open Go.RowKit
set_option linter.unusedVariables false
set_option linter.unusedSimpArgs false

theorem run_part_one {P : Program} (w : World) (t : TypeId) (cs : Array Value) (off : Nat) (v : Value) {d : TypeDesc} (hu : P.underlying t = some d) (hd : (match d with | .struct _ | .array _ _ => true | _ => false) = false) (hv : cs[off]? = some v) :
    (part t cs off).run P w = .ok v w := by
  unfold part isAgg
  simp only [Sem.run_bind, run_underlying hu]
  cases d <;> simp_all
theorem run_part_agg {P : Program} (w : World) (t : TypeId) (cs : Array Value) (off n : Nat) {d : TypeDesc} (hu : P.underlying t = some d) (hd : (match d with | .struct _ | .array _ _ => true | _ => false) = true) (hi : (P.info? t).map (·.size) = some n) :
    (part t cs off).run P w = .ok (.agg (cs.extract off (off + n))) w := by
  obtain ⟨i, hi, rfl⟩ := Option.map_eq_some_iff.1 hi
  unfold part isAgg
  simp only [Sem.run_bind, run_underlying hu]
  cases d <;> simp_all [sizeOf, typeInfo]
theorem run_forIn_same {P : Program} {β : Type} (f : Nat → β → Sem (ForInStep β)) (b : β) (w : World) : ∀ l : List Nat, (∀ i ∈ l, (f i b).run P w = .ok (.yield b) w) → (forIn l b f).run P w = .ok b w
  | [], _ => by simp
  | x :: l, h => by
    rw [List.forIn_cons, Sem.run_bind, h x (by simp), Result.andThen_ok]
    exact run_forIn_same f b w l (fun i hi => h i (by simp [hi]))
/-- An array of cells of integers is equal to itself. -/
theorem run_equalIn_ints {P : Program} (w : World) (d n : Nat) (t e : TypeId) (k : IntKind) (zs : List Int) (ht : P.underlying t = some (.array n e)) (he : P.underlying e = some (.int k)) (hi : (P.info? e).map (·.size) = some 1) (hn : zs.length = n) :
    (Op.equalIn (d + 2) t (.agg (zs.map (Value.int k)).toArray) (.agg (zs.map (Value.int k)).toArray)).run P w = .ok true w := by
  obtain ⟨i, hi, hs⟩ := Option.map_eq_some_iff.1 hi
  rw [Op.equalIn]
  simp only [Sem.run_bind, run_underlying ht, Result.andThen_ok, sizeOf, typeInfo, hi, hs, run_program, Sem.run_pure]
  rw [Std.Legacy.Range.forIn_eq_forIn_range', run_forIn_same]
  · simp
  · intro j hj
    have hjn : j < n := by simp [Std.Legacy.Range.size] at hj; omega
    have hc : (zs.map (Value.int k)).toArray[j * 1]? = some (.int k (zs[j]'(by omega))) := by simp [hn, hjn]
    simp only [Sem.run_bind, run_part_one w e _ _ _ he rfl hc, Result.andThen_ok, run_equalIn_int w d e k k _ _ he]
    simp
theorem run_eql_state (s : St) (w : World) : (binOp .eql 25 (.agg (stCells s).toArray) (.agg (stCells s).toArray)).run Tryd.prog w = .ok (.bool true) w := by
  have hf : (Tryd.prog.fieldsOf 25).toList = [{ name := "Heads", type := 23, offset := 0, embedded := false, tag := "", pkgPath := "", byteOffset := 0 },
        { name := "Rest", type := 9, offset := 8, embedded := false, tag := "", pkgPath := "", byteOffset := 32 },
        { name := "Many", type := 3, offset := 9, embedded := false, tag := "", pkgPath := "", byteOffset := 48 }] := by kernel_rfl
  rw [run_eql_struct, run_equalIn_agg w 9999 25 _ _ (by kernel_rfl) (by kernel_rfl), hf]
  have h8 : (stCells s).toArray.extract 0 (0 + 8) = (s.heads.list.map (Value.int .u32)).toArray := by simp [stCells, Hd.list]
  have e8 := run_equalIn_ints w 9997 8 23 22 .u32 s.heads.list Tryd.underlying23 Tryd.underlying22 (by kernel_rfl) rfl
  have p1 : (part 23 (stCells s).toArray 0).run Tryd.prog w = .ok (.agg (s.heads.list.map (Value.int .u32)).toArray) w := by
    rw [run_part_agg w 23 (stCells s).toArray 0 8 Tryd.underlying23 rfl (by kernel_rfl), h8]
  have p2 : (part 9 (stCells s).toArray 8).run Tryd.prog w = .ok (.string s.rest) w := run_part_one w _ _ _ _ Tryd.underlying9 rfl rfl
  have p3 : (part 3 (stCells s).toArray 9).run Tryd.prog w = .ok (.int .i64 s.many) w := run_part_one w _ _ _ _ Tryd.underlying3 rfl rfl
  have e2 : (Op.equalIn 9999 9 (.string s.rest) (.string s.rest)).run Tryd.prog w = .ok true w := by
    rw [run_equalIn_string w 9998 _ _ _ Tryd.underlying9]; simp
  have e3 : (Op.equalIn 9999 3 (.int .i64 s.many) (.int .i64 s.many)).run Tryd.prog w = .ok true w := by
    rw [run_equalIn_int w 9998 _ _ _ _ _ Tryd.underlying3]; simp
  simp [Op.eqFields, p1, e8, p2, e2, p3, e3]
end Go.Proofs.YtafgbmeibnhapaaDoor
