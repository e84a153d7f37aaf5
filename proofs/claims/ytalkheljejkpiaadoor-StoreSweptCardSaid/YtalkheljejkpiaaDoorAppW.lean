/- append of a slice that can be read, up to 1.6 * 2^47 bytes. -/
import Derived.Test.YtalkheljejkpiaaDoorBas
import Derived.Deep.DeepAppendWide
namespace Go.Proofs.YtalkheljejkpiaaDoor
open Go.RowKit
set_option linter.unusedVariables false
set_option linter.unusedSimpArgs false

section
variable {P : Program} {w w0 : World} {B : Nat}
/-- 'append(s, x...)', up to 1.6 * 2^47 bytes. -/
theorem wp_append_rdW {o : Oper} {a : Act} {K : Act → World → Prop} {Q : Exit → Act → World → Prop} (s x : Operand) (t : TypeId)
    (ho : o.op = .call { callee := .builtin .append, args := #[s, x], argTypes := #[t, t] })
    {base : Nat} {e : TypeId} {z : Value} {bytes size : Nat} (hinf : infoIs P e z size bytes) (ht : P.underlying t = some (.slice e)) (hzs : z.cells.size = size) (hsz : 0 < size)
    {v : Value} {n m : Nat} {xs ys : List Value} {u : Value} (hown : w.ownsRow base e size v n xs) (hbel : Below B w0 w) (hB : B ≤ base) (hb : base ≤ w.heap.size)
    (hr : rdRow w size u m ys) (h1 : ∀ y ∈ ys, y.oneCell' = true) (hbytes : ((n + m) + (n + m) / 4 + 192) * bytes ≤ 281474976710656) (hle : n + m ≤ maxLen)
    (hs : a.eval s = v) (hx : a.eval x = u)
    (h : ∀ v' w', w'.ownsRow base e size v' (n + m) (xs ++ ys) → Below B w0 w' → K (a.put o.dst v') w') : o.wp P a w K Q := by
  obtain ⟨i, hi, hz, hsize, hbt⟩ := info_parts hinf
  obtain ⟨hl, ao, cap, rfl, hle2, hm, hz0, hc⟩ := hr
  cases ao with
  | none =>
    have hcap := hz0 rfl
    have hm0 : m = 0 := by omega
    subst hcap hm0
    have hy : ys = [] := List.eq_nil_of_length_eq_zero (by rw [hl, Nat.zero_mul])
    subst hy
    have hrun := run_append_owned_none (P := P) w base t o.type e i size ht hi v n xs hown
    unfold Oper.wp execOp
    simp only [ho, resolve, invoke, builtin, Sem.run_bind, Sem.run_pure, Result.andThen_ok, List.map_toArray, List.map_cons, List.map_nil, hs, hx, hrun]
    exact h v w (by simpa using hown) hbel
  | some ad =>
    refine wp_append_own_wide _ s x t ho base e i z size bytes ht hi hz hsize hbt hzs hsz v n xs hs hown ad m cap ys hx hl (hc ad rfl) h1 hle hbytes hb ?_
    intro v' w' hown' hgrow _
    refine h v' w' hown' (hbel.grown hgrow (by have := hbel.size; omega) ?_)
    intro k hk
    have := (hown.lt k hk).1; omega
theorem wpList_append_rdW {ops : Array Oper} {rest : List Oper} {o : Oper} {a : Act} {Q : Exit → Act → World → Prop} (hw : Region.wanted o (yielded ops a.tmps) = true) (s x : Operand) (t : TypeId)
    (ho : o.op = .call { callee := .builtin .append, args := #[s, x], argTypes := #[t, t] })
    {base : Nat} {e : TypeId} {z : Value} {bytes size : Nat} (hinf : infoIs P e z size bytes) (ht : P.underlying t = some (.slice e)) (hzs : z.cells.size = size) (hsz : 0 < size)
    {v : Value} {n m : Nat} {xs ys : List Value} {u : Value} (hown : w.ownsRow base e size v n xs) (hbel : Below B w0 w) (hB : B ≤ base) (hb : base ≤ w.heap.size)
    (hr : rdRow w size u m ys) (h1 : ∀ y ∈ ys, y.oneCell' = true) (hbytes : ((n + m) + (n + m) / 4 + 192) * bytes ≤ 281474976710656) (hle : n + m ≤ maxLen)
    (hs : a.eval s = v) (hx : a.eval x = u)
    (h : ∀ v' w', w'.ownsRow base e size v' (n + m) (xs ++ ys) → Below B w0 w' → wpList P ops Q rest (a.put o.dst v') w') : wpList P ops Q (o :: rest) a w :=
  wpList_yes hw fun K hK => wp_append_rdW s x t ho hinf ht hzs hsz hown hbel hB hb hr h1 hbytes hle hs hx (fun v' w' h1 h2 => hK _ _ (h v' w' h1 h2))
end
end Go.Proofs.YtalkheljejkpiaaDoor
