/- The walk of package store's Reach. -/
import Derived.Test.YtalkheljejkpiaaDoorReachLaw
import Derived.Test.YtalkheljejkpiaaDoorSortLay
import Derived.Test.YtalkheljejkpiaaDoorAppW
import Derived.Test.YtalkheljejkpiaaDoorRef
import Derived.Sort.OwnSorted
import Derived.Maps.RangeWalk
import Derived.Shelf.Slices.In.SortNone
namespace Go.Proofs.YtalkheljejkpiaaDoor
open Go.RowKit Go.Maps
set_option linter.unusedVariables false
set_option linter.unusedSimpArgs false

theorem svs_append5 (a b : List ByteArray) : svs (a ++ b) = svs a ++ svs b := by simp [svs]
theorem wpList_append_rdU {P : Program} {w : World} {ops : Array Oper} {rest : List Oper} {o : Oper} {a : Act} {Q : Exit → Act → World → Prop} (hw : Region.wanted o (yielded ops a.tmps) = true) (s x : Operand) (t : TypeId)
    (ho : o.op = .call { callee := .builtin .append, args := #[s, x], argTypes := #[t, t] })
    {base : Nat} {e : TypeId} {z : Value} {bytes size : Nat} (hinf : infoIs P e z size bytes) (ht : P.underlying t = some (.slice e)) (hzs : z.cells.size = size) (hsz : 0 < size)
    {v : Value} {n m : Nat} {xs ys : List Value} {u : Value} (hown : w.ownsRow base e size v n xs) (hb : base ≤ w.heap.size)
    (hr : rdRow w size u m ys) (h1 : ∀ y ∈ ys, y.oneCell' = true) (hbytes : ((n + m) + (n + m) / 4 + 192) * bytes ≤ 281474976710656) (hle : n + m ≤ maxLen)
    (hs : a.eval s = v) (hx : a.eval x = u)
    (h : ∀ v' w', w'.ownsRow base e size v' (n + m) (xs ++ ys) → Upd (fun k => v.ownBlock = some k) w w' → wpList P ops Q rest (a.put o.dst v') w') : wpList P ops Q (o :: rest) a w := by
  refine wpList_yes hw fun K hK => ?_
  obtain ⟨i, hi, hz, hsize, hbt⟩ := info_parts hinf
  obtain ⟨hl, ao, cap, rfl, hle2, hm, hz0, hc⟩ := hr
  cases ao with
  | none =>
    have hcap := hz0 rfl
    have hm0 : m = 0 := by omega
    subst hcap hm0
    have hy : ys = [] := List.eq_nil_of_length_eq_zero (by rw [hl, Nat.zero_mul])
    subst hy
    have hrun := run_append_owned_none (P := P) w base t o.type e i size ht hi v n xs hown
    unfold Oper.wp execOp
    simp only [ho, resolve, invoke, builtin, Sem.run_bind, Sem.run_pure, Result.andThen_ok, List.map_toArray, List.map_cons, List.map_nil, hs, hx, hrun]
    exact hK _ _ (h v w (by simpa using hown) (Upd.refl _ _))
  | some ad =>
    refine wp_append_own_wide _ s x t ho base e i z size bytes ht hi hz hsize hbt hzs hsz v n xs hs hown ad m cap ys hx hl (hc ad rfl) h1 hle hbytes hb ?_
    intro v' w' hown' hgrow _
    exact hK _ _ (h v' w' hown' ((Upd.refl _ w).grown hgrow (fun k hk => .inl hk)))
set_option maxRecDepth 100000 in
set_option maxHeartbeats 3200000 in
theorem cloneS_any (l : List ByteArray) (v : Value) (w : World) (hr : rdS w v l) (hl : (l.length + l.length / 4 + 192) * 16 ≤ 281474976710656) :
    Calls Tryd.prog 73 #[v] w fun e w' => ∃ v', e = .returned v' ∧ w'.ownsRow w.heap.size 9 1 v' l.length (svs l) ∧ Below w.heap.size w w' := by
  have q22 : ∀ (w : World) (a : Option Addr) (n c n' c' : Nat), (binOp .eql 22 (.slice a n c) (.slice none n' c')).run Tryd.prog w = .ok (.bool a.isNone) w := fun w a n c n' c' => Lib.run_eql_slice_nil w _ _ a n c n' c' Tryd.underlying22
  obtain ⟨ao, cap, rfl⟩ := rd_form hr
  cases ao with
  | none =>
    have h0 : l.length = 0 := by
      obtain ⟨_, ao', cap', hv, hle, _, hz, _⟩ := hr
      simp only [Value.slice.injEq, true_and] at hv
      obtain ⟨rfl, rfl⟩ := hv
      have := hz rfl
      omega
    have he : l = [] := List.eq_nil_of_length_eq_zero h0
    subst he
    clear hr
    go_enter Tryd.func73, Tryd.ntmps73
    go_wp2_with fail
    go_ret
    exact ⟨_, rfl, World.ownsRow_nil _ _ _ _, Below.refl _ _⟩
  | some a =>
    have HR := Lib.hid hr
    have HLL := Lib.hid hl
    have hmx : 0 + l.length ≤ maxLen := by unfold maxLen; omega
    clear hr hl
    go_enter Tryd.func73, Tryd.ntmps73
    go_wp2_with (first | (at_builtin; refine wpList_append_rdW (w0 := w) (B := w.heap.size) (by rfl) (.tmp 5) (.tmp 6) 22 rfl info_string Tryd.underlying22 rfl (by decide) (World.ownsRow_made w #[] 0 (Nat.le_refl _) (Nat.zero_le _) (by simp)) ((Below.refl _ w).alloc (Nat.le_refl _) _) (Nat.le_refl _) (by simp) (HR.out.below ((Below.refl _ w).alloc (Nat.le_refl _) _)) svs_one5 (by rw [Nat.zero_add]; exact HLL.out) hmx rfl rfl ?_; intro v' w' ho hb; have HO := Lib.hid ho; have HB := Lib.hid hb; clear ho hb))
    go_ret
    exact ⟨_, rfl, by have := HO.out; simpa using this, HB.out⟩
theorem own_last {w : World} {base g cap : Nat} {e : TypeId} {xs : List ByteArray} {x : ByteArray} {n : Nat} (h : w.ownsRow base e 1 (.slice (some ⟨g, 0, none⟩) n cap) n (svs xs.reverse ++ svs [x])) : w.cell? ⟨g, xs.length, none⟩ = some (.string x) := by
  have hc := h.cells (g := g) rfl xs.length (.string x) (by rw [List.getElem?_append_right (by simp [svs])]; simp [svs])
  rwa [addr_add, Nat.zero_add] at hc
theorem initS_run (w : World) (g : Nat) {n cap : Nat} (k : Nat) (h1 : k ≤ n) (h2 : n ≤ cap) : (Instr.sliceAt 22 (.slice (some ⟨g, 0, none⟩) n cap) none (some (.int .i64 (k : Int))) none).run Tryd.prog w = .ok (.slice (some ⟨g, 0, none⟩) k cap) w := by
  obtain ⟨i, hi, hs⟩ := Option.map_eq_some_iff.1 size_string
  have ht := Tryd.underlying22
  have hel := elem_eq ht
  have ht' : Tryd.prog.underlying 22 = some (.slice (Tryd.prog.elem 22)) := by rw [hel]; exact ht
  have e : sliced (some ⟨g, 0, none⟩) 0 k cap 1 = .slice (some ⟨g, 0, none⟩) k cap := by
    unfold sliced
    split
    · next h => simp [h]
    · simp [addr_add]
  rw [run_sliceAt_slice _ _ _ _ _ _ ht', run_slice_h _ 22 (some ⟨g, 0, none⟩) n cap ht' .i64 k (by omega) (by omega), ← e]
  simp [sizeOf, typeInfo, hel, hi, hs]
theorem own_init {w : World} {base g cap n : Nat} {e : TypeId} {xs ys : List Value} (h : w.ownsRow base e 1 (.slice (some ⟨g, 0, none⟩) n cap) n (xs ++ ys)) : w.ownsRow base e 1 (.slice (some ⟨g, 0, none⟩) xs.length cap) xs.length xs := by
  obtain ⟨h1, ⟨h2, _⟩ | ⟨g', cap', cur, hv, hbg, hg, hn, hm, hs, ht⟩⟩ := h
  · cases h2
  · injection hv with hv _ hc; injection hv with hv; injection hv with hv _ _
    subst hv hc
    have hl : xs.length ≤ n := by rw [List.length_append] at h1; omega
    refine ⟨by simp, .inr ⟨g, cap, cur, rfl, hbg, hg, by omega, hm, hs, ?_⟩⟩
    have e1 := congrArg (List.take xs.length) ht
    rw [List.take_take, Nat.mul_one, Nat.min_eq_left hl, List.take_left] at e1
    rw [Nat.mul_one]; exact e1
theorem rd_map {w w' : World} {size n : Nat} {v : Value} {xs : List Value} {gm k : Nat} {D : DataW Unit} (h : rdRow w size v n xs) (hg : w.grownBy w' (some gm)) (hm : ownsB w gm k D) : rdRow w' size v n xs := by
  obtain ⟨h1, ao, cap, rfl, hle, hmx, hz, hc⟩ := h
  refine ⟨h1, ao, cap, rfl, hle, hmx, hz, fun a ha j u hu => ?_⟩
  have h2 := hc a ha j u hu
  refine hg.cell h2 (fun e => ?_)
  injection e with e
  obtain ⟨es, cl, hb, _⟩ := hm
  unfold World.cell? at h2
  rw [e, hb] at h2
  cases h2
/-- What Reach keeps. -/
structure ReSt (w : World) (B gm : Nat) (D : DataW Unit) (seen st : List ByteArray) (vq : Value) : Prop where
  mp : ownsB w gm seen.length D
  rep : RepB D seen
  q : w.ownsRow B 9 1 vq st.length (svs st.reverse)
  bs : B ≤ gm ∧ B ≤ w.heap.size
  sz : smalls st
section
variable {w w' : World} {B gm : Nat} {D : DataW Unit} {seen st : List ByteArray} {vq : Value} {x : ByteArray}
theorem ReSt.below (h : ReSt w B gm D seen st vq) (hb : Below w.heap.size w w') : ReSt w' B gm D seen st vq :=
  ⟨ownsMap_blk h.mp (hb.block gm h.mp.lt), h.rep, owns_below h.q hb, ⟨h.bs.1, Nat.le_trans h.bs.2 hb.size⟩, h.sz⟩
theorem ReSt.pop {g cap : Nat} (h : ReSt w B gm D seen (x :: st) (.slice (some ⟨g, 0, none⟩) (x :: st).length cap)) : ReSt w B gm D seen st (.slice (some ⟨g, 0, none⟩) st.length cap) := by
  refine ⟨h.mp, h.rep, ?_, h.bs, fun y hy => h.sz y (by simp [hy])⟩
  have hq := h.q
  rw [List.reverse_cons, svs_append5] at hq
  have := own_init hq
  rwa [svs_length, List.length_reverse] at this
theorem ReSt.far (h : ReSt w B gm D seen st vq) : vq.ownBlock ≠ some gm := by
  intro e
  obtain ⟨_, cs, f, hk⟩ := owns_elem h.q e
  obtain ⟨es, cl, hb, _⟩ := h.mp
  rw [hb] at hk; cases hk
theorem ReSt.put (h : ReSt w B gm D seen st vq) (hx : hasB seen x = false) (hm : ownsB w' gm (seen.length + 1) (D.put (keyB x) (.lit (.bool true)))) (hg : w.grownBy w' (some gm)) : ReSt w' B gm (D.put (keyB x) (.lit (.bool true))) (seen ++ [x]) st vq ∧ Below B w w' := by
  have hu : Upd (· = gm) w w' := ⟨hg.os, hg.tape, hg.output, hg.size, fun k hk hn => hg.block k hk (fun e => hn (by injection e))⟩
  exact ⟨⟨by rw [List.length_append]; exact hm, repB_put h.rep (h.mp.tidy lawS) x hx, owns_upd h.q hu (fun k hk e => h.far (e ▸ hk)), ⟨h.bs.1, Nat.le_trans h.bs.2 hg.size⟩, h.sz⟩, hu.below h.bs.2 (fun k hk => by rw [hk]; exact h.bs.1)⟩
theorem ReSt.app (h : ReSt w B gm D seen st vq) {ys : List ByteArray} {v' : Value} (ho : w'.ownsRow B 9 1 v' (st.length + ys.length) (svs st.reverse ++ svs ys)) (hu : Upd (fun k => vq.ownBlock = some k) w w') (hy : smalls ys) : ReSt w' B gm D seen (ys.reverse ++ st) v' ∧ Below B w w' := by
  refine ⟨⟨ownsMap_blk h.mp (hu.block gm h.mp.lt h.far), h.rep, ?_, ⟨h.bs.1, Nat.le_trans h.bs.2 hu.size⟩, fun s hs => (List.mem_append.1 hs).elim (fun k => hy s (List.mem_reverse.1 k)) (h.sz s)⟩, hu.below h.bs.2 (fun k hk => (h.q.lt k hk).1)⟩
  rw [List.reverse_append, List.reverse_reverse, svs_append5, List.length_append, List.length_reverse, Nat.add_comm]
  exact ho
end
theorem plainB_inv {v : Value} {y : DataW Unit × List MemPlace} (h : plainElem Tryd.prog 4 v = some y) : ∃ c : Bool, v = .bool c := by
  simp only [plainElem, Tryd.underlying4] at h
  cases v <;> simp at h
  exact ⟨_, rfl⟩
theorem sort_none (p : Option Addr) (cap : Nat) (w : World) : Calls Tryd.prog 74 #[.slice p 0 cap] w fun e w' => e = .returned (.tuple #[]) ∧ w' = w :=
  Any.slices_Sort_string_none srLay p cap w
theorem seen_perm {w : World} {b n : Nat} {D : DataW Unit} {seen : List ByteArray} (h : ownsB w b n D) (r : RepB D seen) : (seen.map fun b => b.data.toList).Perm (strKeys D) := by
  obtain ⟨es, hD, hpw, _⟩ := h.entries lawS
  obtain ⟨es', hD', hko⟩ := h.keysOf
  obtain rfl : es = es' := by rw [hD] at hD'; simpa using hD'
  subst hD
  refine perm_strKeys hpw (fun p hp => ?_) (List.pairwise_map.2 (r.nod.imp fun hne e => hne (bs_ext e))) (fun x => ?_)
  · obtain ⟨v, hv⟩ := hko p hp
    obtain ⟨x, _, hx, _⟩ := Maps.keyOf_str Tryd.underlying9 hv
    exact ⟨x, hx⟩
  · have hk := r.has ⟨x.toArray⟩
    have e : keyB ⟨x.toArray⟩ = .string x := rfl
    rw [e] at hk
    rw [hk, hasB_iff, List.mem_map]
    constructor
    · rintro ⟨y, hy, rfl⟩; exact hy
    · intro hy; exact ⟨_, hy, rfl⟩
theorem grown_of {S : Nat → Prop} {v : Value} {w w' : World} (h : Upd (fun k => v.ownBlock = some k) w w') : w.grownBy w' v.ownBlock := ⟨h.os, h.tape, h.output, h.size, fun k hk hn => h.block k hk (fun e => hn e.symm)⟩
theorem svs_sort (l : List ByteArray) : svs (sortF l) = ((l.map fun b => b.data.toList).mergeSort leB).map encStr := by
  unfold sortF svs
  rw [List.map_map]; rfl
set_option maxRecDepth 100000 in
set_option maxHeartbeats 3200000 in
theorem reach_any (fid : FuncId) (caps : Array Value) (g : ByteArray → ByteArray × Int) (eg : ∀ args w, (callFunc fid args).run Tryd.prog w = .ok (.enter fid args) w) (ids : List ByteArray) (vi : Value) (w : World) (hcl : GetOk fid caps w g) (hgs : ∀ x, (g x).1.size ≤ 140737488355328) (hr : rdS w vi ids) (hsm : smalls ids) (hn : ids.length ≤ 8796093023000) :
    Calls Tryd.prog 51 #[.func (.func fid) #[] caps, vi] w fun e w' => ∃ v, e = .returned (.tuple #[v, .int .i64 (reachF g ids).2]) ∧ rdS w' v (reachF g ids).1 ∧ Below w.heap.size w w' := by
  obtain ⟨F, hF⟩ : ∃ F, F = reachF g ids := ⟨_, rfl⟩
  rw [← hF]
  have HF := Lib.hid hF
  obtain ⟨N, hN⟩ : ∃ N, N = ids.length := ⟨_, rfl⟩
  have HN := Lib.hid (show N ≤ 8796093023000 by rw [hN]; exact hn)
  obtain ⟨G, hG⟩ : ∃ G, reG g (26001 + ids.length) [] ids.reverse false false = G := ⟨_, rfl⟩
  have HGE := Lib.hid hG.symm
  have HCL := Lib.hid hcl
  have HGS := Lib.hid hgs
  have HSM := Lib.hid hsm
  have hmm := @run_makeMap Tryd.prog
  obtain ⟨W, hW⟩ : ∃ W, w.alloc (.map #[] 0) = W := ⟨_, rfl⟩
  have hbW : Below w.heap.size w W := by rw [← hW]; exact (Below.refl _ _).alloc (Nat.le_refl _) _
  have hm0 : ownsB W w.heap.size 0 (.map []) := by rw [← hW]; exact World.ownsMap_made (H := Unit) w Tryd.prog 9 (plainElem Tryd.prog 4)
  have HC := Lib.hid (cloneS_any ids vi W (hr.below hbW) (by omega))
  have HM0 := Lib.hid hm0
  have HW0 := Lib.hid hbW
  obtain ⟨i1, i2, rfl⟩ := rd_form hr
  clear hF hcl hgs hsm hn hr hbW hm0 hG
  go_enter Tryd.func51, Tryd.ntmps51
  go_wp2_with fail
  clear hmm
  (with_reducible refine HC.out.mono ?_)
  rintro e w1 ⟨v1, rfl, ho, hb⟩
  have HB1 := Lib.hid (HW0.out.trans (hb.mono HW0.out.size))
  have HD1 := Lib.hid (show ReSt w1 w.heap.size w.heap.size (.map []) [] ids.reverse v1 from ⟨ownsMap_blk HM0.out (hb.block _ HM0.out.lt), repB_start, by rw [List.reverse_reverse, List.length_reverse]; exact owns_base ho HW0.out.size, ⟨Nat.le_refl _, HB1.out.size⟩, fun s hs => HSM.out s (List.mem_reverse.1 hs)⟩)
  clear ho hb HC hW
  go_wp2_with fail
  go_loopw [7, 8, 9] (fun vq v8 v9 wr => ∃ (seen st : List ByteArray) (D : DataW Unit) (n : Nat) (lk wg : Bool), v8 = .bool lk ∧ v9 = .bool wg ∧ Hid (ReSt wr w.heap.size w.heap.size D seen st vq) ∧ Hid (G = reG g n seen st lk wg) ∧ Hid (muR seen st < n) ∧ Hid (seen.length ≤ 400 ∧ n ≤ 26001 + N) ∧ Hid (Below w.heap.size w wr)) (fun vq _ _ wr => (400 - mapLen wr w.heap.size) * 65 + qLen vq)
  case atStart => exact ⟨[], ids.reverse, .map [], 26001 + ids.length, false, false, rfl, rfl, HD1, HGE, Lib.hid (by unfold muR; simp), Lib.hid ⟨Nat.zero_le _, by rw [hN]; exact Nat.le_refl _⟩, HB1⟩
  case round =>
    clear HD1 HB1
    obtain ⟨seen, st, D, n, lk, wg, rfl, rfl, HD, HG, HMU, HSL, HB⟩ := hrel
    obtain ⟨m, rfl⟩ : ∃ m, n = m + 1 := ⟨n - 1, by have := HMU.out; omega⟩
    cases st with
    | nil =>
      have HRE := Lib.hid (HGE.out.symm.trans (HG.out.trans reG_0))
      obtain ⟨a9, c9, hv9⟩ := rd_form (rdRow_of_owns HD.out.q)
      subst hv9
      have z1 : decide ((0 : Int) < ((0 : Nat) : Int)) = false := by decide
      cases lk with
      | true =>
        have hF := HF.out.trans (reachF_2 HRE.out)
        subst hF
        go_wp2_with fail
        go_ret2
        exact ⟨_, rfl, rdS_nil _, HB.out⟩
      | false =>
        cases wg with
        | true =>
          have hF := HF.out.trans (reachF_3 HRE.out)
          subst hF
          go_wp2_with fail
          go_ret2
          exact ⟨_, rfl, rdS_nil _, HB.out⟩
        | false =>
          have hF := HF.out.trans (reachF_4 HRE.out)
          subst hF
          go_wp2_with (first | (at_range; refine wpList_range_own _ rfl _ 94 rfl 9 4 lawS Tryd.underlying94 (plainElem Tryd.prog 4) w.heap.size seen.length D rfl HD.out.mp ?_; intro w2 hrg hg2 hs2; have HRG := Lib.hid hrg; have hb2 : Below wr.heap.size wr w2 := ⟨hg2.os, hg2.tape, hg2.output, hg2.size, fun k hk => hg2.block k hk (by simp)⟩; have HB2 := Lib.hid (HB.out.trans (hb2.mono HB.out.size)); clear hrg hg2 hs2 hb2))
          obtain ⟨rb, hrb⟩ : ∃ rb, rb = wr.heap.size := ⟨_, rfl⟩
          rw [← hrb] at HRG
          try rw [← hrb]
          have HRB0 := Lib.hid (show w.heap.size ≤ rb by rw [hrb]; exact HB.out.size)
          have HRS := Lib.hid (show Maps.size D = seen.length from HD.out.rep.siz)
          clear hrb
          simp only [Act.put, List.setIfInBounds_toArray, List.set_cons_zero, List.set_cons_succ]
          go_loopw [14] (fun vl wx => ∃ (left : Lit → Bool) (cnt : Nat) (ss : List (List UInt8)), Hid (wx.ranges Tryd.prog 9 (plainElem Tryd.prog 4) w.heap.size rb seen.length D left cnt) ∧ Hid (Collected D left ss) ∧ Hid (wx.ownsRow w.heap.size 9 1 vl ss.length (ss.map encStr)) ∧ Hid (ss.length + cnt ≤ 400) ∧ Hid (Below w.heap.size w wx)) (fun _ wx => wx.rangeLeft w.heap.size rb)
          case atStart => exact ⟨_, _, [], HRG, Lib.hid (Collected.start D), Lib.hid (World.ownsRow_nil _ _ _ _), Lib.hid (by rw [HRS.out]; simpa using HSL.out.1), HB2⟩
          case round =>
            clear HRG HB2
            obtain ⟨left, cnt, ss, HRG, HCO, HOW, HCN, HB3⟩ := hrel
            go_wp2_with (at_next; refine wpList_next_ranges _ rfl _ rfl 9 lawS (plainElem Tryd.prog 4) encStr (id : Value → Value) (fun key kl h => by obtain ⟨x, hx, _⟩ := Maps.keyOf_str Tryd.underlying9 h; exact ⟨x, hx⟩) (fun v y h => ⟨v, rfl⟩) w.heap.size rb seen.length D left cnt rfl HRG.out ?_ ?_)
            · intro hc0 hl0
              have hperm := (HCO.out.perm HRG.out.owns lawS Tryd.underlying9 hl0).trans (seen_perm HRG.out.owns HD.out.rep).symm
              have HMS := Lib.hid (show svs (sortF seen) = (ss.mergeSort leB).map encStr by rw [svs_sort, mergeSort_of_perm hperm])
              have HLS := Lib.hid (show (sortF seen).length = ss.length by have := congrArg List.length HMS.out; rwa [svs_length, List.length_map, List.length_mergeSort] at this)
              have hs4 : ss.length < 4611686018427387904 := by have := HCN.out; omega
              have HS4 := Lib.hid hs4
              clear hc0 hl0 hperm hs4
              by_cases h0 : ss.length = 0
              · have hss : ss = [] := List.eq_nil_of_length_eq_zero h0
                subst hss
                obtain ⟨p1, p2, rfl⟩ := rd_form (rdRow_of_owns HOW.out)
                have HC := Lib.hid (sort_none p1 p2 wr)
                go_wp2_with fail
                (with_reducible refine HC.out.mono ?_)
                rintro e9 w9 ⟨rfl, rfl⟩
                clear HC
                go_wp2_with fail
                go_ret2
                refine ⟨_, rfl, ?_, HB3.out⟩
                unfold rdS
                rw [HLS.out, HMS.out, List.mergeSort_nil]
                exact rdRow_of_owns HOW.out
              · obtain ⟨gg, cp, rfl, hcp⟩ := own_form HOW.out (by omega)
                obtain ⟨_, ⟨hx, _⟩ | ⟨g', cap', cur, hv, hbg, hg, hn, hm, hsz9, htk⟩⟩ := HOW.out
                · cases hx
                · injection hv with hv _ hc9; injection hv with hv; injection hv with hv _ _; subst hv hc9
                  have hho := holds_of_block hg (by rw [← Nat.mul_one ss.length]; exact htk)
                  have HC := Lib.hid (sort_any gg 0 cp ss wr hho (lt_of_block hg) HS4.out)
                  have hos := fun n os => ownsRow_sorted (n := n) (os := os) (List.length_mergeSort (le := leB) ss) hbg hg hn hm hsz9
                  have hgs := fun n (os : Array Obj) => grownBy_sorted (w := wr) (g := gg) (n := n) (os := os) (ss.mergeSort leB).toArray
                  have HOS := Lib.hid hos
                  have HGG := Lib.hid hgs
                  have HBG := Lib.hid hbg
                  clear hos hgs hho hg hsz9 htk hbg hn hm
                  go_wp2_with fail
                  (with_reducible refine HC.out.mono ?_)
                  rintro e9 w9 ⟨rfl, nn, os, rfl⟩
                  clear HC
                  go_wp2_with fail
                  go_ret2
                  refine ⟨_, rfl, ?_, HB3.out.grown (HGG.out nn os) HB3.out.size (fun j hj => by injection hj with hj; rw [← hj]; exact HBG.out)⟩
                  unfold rdS
                  rw [HLS.out, HMS.out]
                  exact rdRow_of_owns (HOS.out nn os)
            · intro x c kl y1 y2 w4 cnt4 hkx hlk hRc hat hrg4 hlt hg4 hs4 hen
              obtain ⟨x', ex, rfl, hxl⟩ := Maps.keyOf_str Tryd.underlying9 hkx
              obtain rfl : x = x' := encStr_inj ex
              have HOW4 := Lib.hid (owns_upd (S := (· = rb)) HOW.out ⟨hg4.os, hg4.tape, hg4.output, hg4.size, fun k hk hn => hg4.block k hk (fun e => hn (by injection e))⟩ (fun k hk e => row_ne_iter HOW.out HRG.out (by rw [hk, e])))
              have HB4 := Lib.hid (HB3.out.trans (Upd.below (S := (· = rb)) ⟨hg4.os, hg4.tape, hg4.output, hg4.size, fun k hk hn => hg4.block k hk (fun e => hn (by injection e))⟩ HB3.out.size (fun k hk => by rw [hk]; exact HRB0.out)))
              have HRG4 := Lib.hid hrg4
              have HCO4 := Lib.hid (HCO.out.step hlk hat)
              have HCN4 := Lib.hid (show (ss ++ [x]).length + cnt4 ≤ 400 by have := HCN.out; simp only [List.length_append, List.length_cons, List.length_nil]; omega)
              have HLT := Lib.hid hlt
              have hby : (ss.length + 1) * 16 ≤ 140737488355328 := by have := HCN.out; omega
              have HRL := Lib.hid HRG.out.left_eq
              clear hkx hlk hRc hat hrg4 hlt hg4 hs4 hxl ex
              go_wp2_with (first | (at_builtin; refine wpList_append1u (by rfl) _ _ 22 rfl info_string Tryd.underlying22 rfl (by decide) (by decide) HOW4.out HB4.out.size (cs := #[encStr x]) rfl (by simp [encStr, Value.oneCell']) hby rfl rfl ?_; intro v5 w5 ho5 hu5; have HRG5 := Lib.hid (HRG4.out.kept (grown_of (S := fun _ => True) hu5) (by intro e; obtain ⟨_, cs, f, hk⟩ := owns_elem HOW4.out e.symm; obtain ⟨es, cl, hb, _⟩ := HRG4.out.owns; rw [hb] at hk; cases hk) (row_ne_iter HOW4.out HRG4.out)); have HB5 := Lib.hid (HB4.out.trans (hu5.below HB4.out.size (fun k hk => (HOW4.out.lt k hk).1))); have HO5 := Lib.hid ho5; clear ho5 hu5 hen))
              exact ⟨⟨_, cnt4, HRG5, ss ++ [x], HCO4, Lib.hid (by rw [List.length_append, List.map_append]; exact HO5.out), HCN4⟩, by rw [HRG5.out.left_eq, HRL.out]; exact HLT.out⟩
    | cons x r =>
      obtain ⟨gq, cap, hv, hcap⟩ := own_form HD.out.q (by simp)
      subst hv
      have hq := HD.out.q
      rw [List.reverse_cons, svs_append5] at hq
      have e0 := own_last hq
      have hinit := fun wx => initS_run wx gq (n := (x :: r).length) (cap := cap) r.length (by simp) hcap
      have HCU := Lib.hid (HD.out.pop)
      simp only [List.length_cons] at hinit
      have hxs : x.size ≤ 140737488355328 := HD.out.sz x (by simp)
      have HXS := Lib.hid hxs
      have hlook := look_bool HD.out.mp HD.out.rep x (by unfold maxLen; omega)
      have hkey : keyOf Tryd.prog 9 (.string x) = some (keyB x) := keyB_of x (by unfold maxLen; omega)
      have HRB := Lib.hid (show r.length + 1 ≤ 26001 + N by have := HMU.out; have := HSL.out.2; unfold muR at *; simp only [List.length_cons] at *; omega)
      have z1 : decide ((0 : Int) < ((r.length : Int) + 1)) = true := decide_eq_true (by omega)
      have z2 : (0 : Int) < (r.length : Int) + 1 := by omega
      have z3 : (r.length : Int) + 1 ≤ 9223372036854775807 := by have := HRB.out; have := HN.out; omega
      have HSL2 := Lib.hid (show seen.length ≤ 400 ∧ m ≤ 26001 + N from ⟨HSL.out.1, by have := HSL.out.2; omega⟩)
      have HML := Lib.hid (mapLen_eq HD.out.mp HD.out.rep)
      clear hq hxs
      obtain ⟨hs, hhs⟩ : ∃ hs, hs = hasB seen x := ⟨_, rfl⟩
      rw [← hhs] at hlook
      have HHS := Lib.hid hhs.symm
      clear hhs
      cases hs with
      | true =>
        have HFN := Lib.hid (HG.out.trans (reG_1 HHS.out))
        have HMN := Lib.hid (show muR seen r < m by have := HMU.out; unfold muR at *; simp only [List.length_cons] at *; omega)
        have HSN := HSL2
        go_wp2_with fail
        exact ⟨⟨seen, r, D, m, lk, wg, rfl, rfl, HCU, HFN, HMN, HSN, HB⟩, by first | (rw [HML.out]; show _ + qLen _ < _ + qLen _; simp only [qLen, List.length_cons]; omega) | (rw [mapLen_eq HCU.out.mp HCU.out.rep, HML.out]; show _ + qLen _ < _ + qLen _; have := H4.out; simp only [qLen, List.length_append, List.length_cons, List.length_nil, List.length_reverse]; omega)⟩
      | false =>
        obtain ⟨⟨s, e⟩, hg⟩ : ∃ q, q = g x := ⟨_, rfl⟩
        have HGX := Lib.hid hg.symm
        have HSZ := Lib.hid (show s.size ≤ 140737488355328 by have := HGS.out x; rw [← hg] at this; exact this)
        clear hg
        have hcall := HCL.out wr x HB.out HXS.out
        rw [HGX.out] at hcall
        have HC := Lib.hid hcall
        clear hcall
        go_wp2_with fail
        clear e0 hinit hlook
        (with_reducible refine HC.out.mono ?_)
        rintro e3 w3 ⟨rfl, hb⟩
        have HD3 := Lib.hid (HCU.out.below hb)
        have HB3 := Lib.hid (HB.out.trans (hb.mono HB.out.size))
        have HM3 := Lib.hid (show mapLen w3 w.heap.size = seen.length from mapLen_eq HD3.out.mp HD3.out.rep)
        clear HC hb
        by_cases he : e = 0
        · subst he
          have HDEC := Lib.hid (decode_any s w3 (by have := HSZ.out; omega))
          obtain ⟨⟨o, ed⟩, hq⟩ : ∃ q, q = decodeF s := ⟨_, rfl⟩
          rw [← hq] at HDEC
          have HED := Lib.hid hq.symm
          clear hq
          go_wp2_with fail
          (with_reducible refine HDEC.out.mono ?_)
          rintro e4 w4 ⟨ve, vp, rfl, re, rs, hb⟩
          have HD4 := Lib.hid (HD3.out.below hb)
          have HB4 := Lib.hid (HB3.out.trans (hb.mono HB3.out.size))
          have RP4 := Lib.hid rs
          have RE4 := Lib.hid re
          obtain ⟨C, hC⟩ : ∃ C : Array Value, C = (objC o ve vp).toArray := ⟨_, rfl⟩
          have hsz : C.size = 9 := by rw [hC]; rfl
          have hone : C.all (·.oneCell') = true := by rw [hC]; exact objC_one re rs
          rw [← hC]
          have HCC := Lib.hid hC
          clear hC re rs hb HDEC
          by_cases hz : ed = 0
          · subst hz
            have hgo := goodF_good (decode_ok HED.out).1
            have HLK := Lib.hid (links_good hgo)
            have HEL := Lib.hid (And.intro hgo.ents hgo.pars)
            clear hgo
            by_cases h4 : 400 ≤ seen.length
            · have t1 : decide ((400 : Int) ≤ (seen.length : Int)) = true := decide_eq_true (by omega)
              have t2 : decide (400 ≤ seen.length) = true := decide_eq_true h4
              have hlen := fun ty => HD4.out.mp.len Tryd.underlying94 ty
              rw [HD4.out.rep.siz] at hlen
              have hlen5 : ∀ w5, Below w4.heap.size w4 w5 → ∀ ty, (Builtin.len_ #[94] ty #[.map (some w.heap.size)]).run Tryd.prog w5 = .ok (.int .i64 (seen.length : Int)) w5 := fun w5 hb ty => by have h := (HD4.out.below hb).mp.len Tryd.underlying94 ty; rwa [HD4.out.rep.siz] at h
              have HL5 := Lib.hid hlen5
              clear hlen hlen5
              have hF := HF.out.trans (reachF_1 (HGE.out.symm.trans (HG.out.trans (reG_4 HHS.out HGX.out HED.out h4))))
              subst hF
              clear h4
              go_wp2_with (refine wpList_store_blk (by rfl) 54 (.tmp 13) (.tmp 47) rfl w4.heap.size C rfl rfl (old := _) (heap_alloc_new _ _) (by rw [hsz]; exact info_ob) (by rw [hsz]; rfl) hone ?_; intro w5 gy uy; have hbz := below_upd ((Below.refl w4.heap.size w4).alloc (Nat.le_refl _) _) uy (Nat.le_refl _) (by simp); have HB5 := Lib.hid (HB4.out.trans (hbz.mono HB4.out.size)); have HD5 := Lib.hid (HD4.out.below hbz); have RE5 := Lib.hid (rdRow.below RE4.out hbz); have RP5 := Lib.hid (RP4.out.below hbz); have HG5 := Lib.hid gy; have hl5 := HL5.out _ hbz; clear gy uy hbz)
              go_ret2
              exact ⟨_, rfl, rdS_nil _, HB5.out⟩
            · have t1 : decide ((400 : Int) ≤ (seen.length : Int)) = false := decide_eq_false (by omega)
              have t2 : decide (400 ≤ seen.length) = false := decide_eq_false h4
              have H4 := Lib.hid h4
              have HFN := Lib.hid (HG.out.trans (reG_5 HHS.out HGX.out HED.out h4))
              have HMN := Lib.hid (show muR (seen ++ [x]) ((linksF o).reverse ++ r) < m by have := HMU.out; have := HLK.out.1; unfold muR at *; simp only [List.length_cons, List.length_append, List.length_nil, List.length_reverse] at *; omega)
              have HSN := Lib.hid (show (seen ++ [x]).length ≤ 400 ∧ m ≤ 26001 + N from ⟨by simp only [List.length_append, List.length_cons, List.length_nil]; omega, HSL2.out.2⟩)
              have hnm : seen.length < maxLen := by unfold maxLen; omega
              clear h4
              have hlen5 : ∀ w5, Below w4.heap.size w4 w5 → ∀ ty, (Builtin.len_ #[94] ty #[.map (some w.heap.size)]).run Tryd.prog w5 = .ok (.int .i64 (seen.length : Int)) w5 := fun w5 hb ty => by have h := (HD4.out.below hb).mp.len Tryd.underlying94 ty; rwa [HD4.out.rep.siz] at h
              have HL5 := Lib.hid hlen5
              clear hlen5
              go_wp2_with (first | (refine wpList_store_blk (by rfl) 54 (.tmp 13) (.tmp 47) rfl w4.heap.size C rfl rfl (old := _) (heap_alloc_new _ _) (by rw [hsz]; exact info_ob) (by rw [hsz]; rfl) hone ?_; intro w5 gy uy; have hbz := below_upd ((Below.refl w4.heap.size w4).alloc (Nat.le_refl _) _) uy (Nat.le_refl _) (by simp); have HB5 := Lib.hid (HB4.out.trans (hbz.mono HB4.out.size)); have HD5 := Lib.hid (HD4.out.below hbz); have RE5 := Lib.hid (rdRow.below RE4.out hbz); have RP5 := Lib.hid (RP4.out.below hbz); have HG5 := Lib.hid gy; have hl5 := HL5.out _ hbz; clear gy uy hbz) | (at_mapUpdate; refine wpList_mapUpdate_own _ rfl _ _ _ 94 rfl 9 4 lawS Tryd.underlying94 _ w.heap.size seen.length D rfl HD5.out.mp hnm _ _ _ rfl rfl hkey _ [] (plainElem_bool Tryd.underlying4 true) ?_; intro w6 hown6 hgrow6; obtain ⟨hd6, hb6⟩ := HD5.out.put HHS.out hown6 hgrow6; have HD6 := Lib.hid hd6; have HB6 := Lib.hid (HB5.out.trans hb6); have HG6 := Lib.hid (by rw [hgrow6.block _ (lt_of_block HG5.out) (by intro e; injection e with e; obtain ⟨es, cl, hm, _⟩ := HD5.out.mp; rw [← e, HG5.out] at hm; cases hm)]; exact HG5.out : w6.heap[w4.heap.size]? = some (.cells C 54 (0, 0))); have RE6 := Lib.hid (rd_map RE5.out hgrow6 HD5.out.mp); have RP6 := Lib.hid (rd_map RP5.out hgrow6 HD5.out.mp); clear hown6 hgrow6 hd6 hb6 hl5) | (refine wpList_load_blk (by rfl) 54 (.tmp 13) rfl w4.heap.size rfl (.agg C) rfl HG6.out Tryd.underlying54 rfl (by rw [hsz]; exact info_ob) ?_))
              have hlk := links_any o ve vp w6 RE6.out RP6.out HEL.out
              rw [← HCC.out] at hlk
              have HC := Lib.hid hlk
              clear hlk
              (with_reducible refine HC.out.mono ?_)
              rintro e7 w7 ⟨v7, rfl, ho7, hb⟩
              have HD7 := Lib.hid (HD6.out.below hb)
              have HB7 := Lib.hid (HB6.out.trans (hb.mono HB6.out.size))
              have RL7 := Lib.hid (rdS_owns ho7)
              obtain ⟨l1, l2, rfl⟩ := rd_form RL7.out
              clear HC ho7 hb
              have hby : ((r.length + (linksF o).length) + (r.length + (linksF o).length) / 4 + 192) * 16 ≤ 281474976710656 := by have := HRB.out; have := HN.out; have := HLK.out.1; omega
              have hmx : r.length + (linksF o).length ≤ maxLen := by have := HRB.out; have := HN.out; have := HLK.out.1; unfold maxLen; omega
              go_wp2_with (first | (at_builtin; refine wpList_append_rdU (by rfl) _ _ 22 rfl info_string Tryd.underlying22 rfl (by decide) HD7.out.q HD7.out.bs.2 RL7.out svs_one5 hby hmx rfl rfl ?_; intro v8 w8 ho8 hu8; obtain ⟨hd8, hb8⟩ := HD7.out.app ho8 hu8 (fun y hy => by rw [HLK.out.2 y hy]; decide); have HD8 := Lib.hid hd8; have HB8 := Lib.hid (HB7.out.trans hb8); clear ho8 hu8 hd8 hb8))
              obtain ⟨a7, c7, hv7⟩ := rd_form (rdRow_of_owns HD8.out.q)
              subst hv7
              exact ⟨⟨seen ++ [x], (linksF o).reverse ++ r, _, m, lk, wg, rfl, rfl, HD8, HFN, HMN, HSN, HB8⟩, by rw [mapLen_eq HD8.out.mp HD8.out.rep, HML.out]; show _ + qLen _ < _ + qLen _; have := H4.out; have := HLK.out.1; simp only [qLen, List.length_append, List.length_cons, List.length_nil, List.length_reverse]; omega⟩
          · have n1 : (ed == 0) = false := beq_eq_false_iff_ne.2 hz
            have n2 : (ed != 0) = true := by rw [bne, n1]; rfl
            have HFN := Lib.hid (HG.out.trans (reG_3 HHS.out HGX.out HED.out hz))
            have HMN := Lib.hid (show muR seen r < m by have := HMU.out; unfold muR at *; simp only [List.length_cons] at *; omega)
            clear hz
            go_wp2_with (refine wpList_store_blk (by rfl) 54 (.tmp 13) (.tmp 47) rfl w4.heap.size C rfl rfl (old := _) (heap_alloc_new _ _) (by rw [hsz]; exact info_ob) (by rw [hsz]; rfl) hone ?_; intro w5 gy uy; have hbz := below_upd ((Below.refl w4.heap.size w4).alloc (Nat.le_refl _) _) uy (Nat.le_refl _) (by simp); have HB5 := Lib.hid (HB4.out.trans (hbz.mono HB4.out.size)); have HD5 := Lib.hid (HD4.out.below hbz); have RE5 := Lib.hid (rdRow.below RE4.out hbz); have RP5 := Lib.hid (RP4.out.below hbz); have HG5 := Lib.hid gy; clear gy uy hbz)
            exact ⟨⟨seen, r, D, m, lk, true, rfl, rfl, HD5, HFN, HMN, HSL2, HB5⟩, by rw [mapLen_eq HD5.out.mp HD5.out.rep, HML.out]; show _ + qLen _ < _ + qLen _; simp only [qLen, List.length_cons]; omega⟩
        · have n1 : (e == 0) = false := beq_eq_false_iff_ne.2 he
          have n2 : (e != 0) = true := by rw [bne, n1]; rfl
          have HFN := Lib.hid (HG.out.trans (reG_2 HHS.out HGX.out he))
          have HMN := Lib.hid (show muR seen r < m by have := HMU.out; unfold muR at *; simp only [List.length_cons] at *; omega)
          clear he
          go_wp2_with fail
          exact ⟨⟨seen, r, D, m, true, wg, rfl, rfl, HD3, HFN, HMN, HSL2, HB3⟩, by rw [mapLen_eq HD3.out.mp HD3.out.rep, HML.out]; show _ + qLen _ < _ + qLen _; simp only [qLen, List.length_cons]; omega⟩
end Go.Proofs.YtalkheljejkpiaaDoor
