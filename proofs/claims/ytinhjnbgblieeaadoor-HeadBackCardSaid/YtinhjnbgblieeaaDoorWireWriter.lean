/- The walks of the writer's methods. -/
import Derived.Test.YtinhjnbgblieeaaDoorWireText
namespace Go.Proofs.YtinhjnbgblieeaaDoor
open Go.RowKit
set_option linter.unusedVariables false

/-- Block g is a writer that holds the bytes l and the error e; its row is v, in a block from B on. -/
structure WrSt (w : World) (B g : Nat) (v : Value) (l : List UInt8) (e : Int) : Prop where
  blk : w.heap[g]? = some (.cells #[v, .int .i64 e] 76 (0, 0))
  own : w.ownsRow B 5 1 v l.length (bvs l)
  ne : v.ownBlock ≠ some g
  le : B ≤ w.heap.size

def WrS (g : Nat) (v : Value) : Nat → Prop := fun k => k = g ∨ v.ownBlock = some k

theorem WrSt.upd {w w' : World} {B g : Nat} {v : Value} {l : List UInt8} {e : Int} (h : WrSt w B g v l e) {S : Nat → Prop} (hu : Upd S w w') (h1 : ¬ S g) (h2 : ∀ k, v.ownBlock = some k → ¬ S k) : WrSt w' B g v l e :=
  ⟨by rw [hu.block g (lt_of_block h.blk) h1]; exact h.blk, owns_upd h.own hu h2, h.ne, Nat.le_trans h.le hu.size⟩

theorem WrSt.below {w w' : World} {B g : Nat} {v : Value} {l : List UInt8} {e : Int} (h : WrSt w B g v l e) (hu : Below w.heap.size w w') : WrSt w' B g v l e :=
  h.upd (S := fun _ => False) (Upd.of_below hu) (fun h => h) (fun _ _ h => h)

/-- What a method leaves: the writer holds l' and e'; nothing else that was there has turned. -/
def WrTo (w : World) (B g : Nat) (v : Value) (l' : List UInt8) (e' : Int) (e : Ending) (w' : World) : Prop :=
  e = .returned (.tuple #[]) ∧ ∃ v', WrSt w' B g v' l' e' ∧ Upd (WrS g v) w w' ∧ (v'.ownBlock = v.ownBlock ∨ ∃ k, v'.ownBlock = some k ∧ w.heap.size ≤ k)

theorem WrTo.same {w : World} {B g : Nat} {v : Value} {l : List UInt8} {e : Int} (h : WrSt w B g v l e) : WrTo w B g v l e (.returned (.tuple #[])) w :=
  ⟨rfl, v, h, Upd.refl _ _, .inl rfl⟩

theorem WrTo.mk {w w1 w2 : World} {B g : Nat} {v v' : Value} {l l' : List UInt8} {e e' : Int} (hb : Below w.heap.size w w1) (h : WrSt w1 B g v l e) (hown : w2.ownsRow B 5 1 v' l'.length (bvs l'))
    (hg : w1.grownBy w2 v.ownBlock) (hblk : v'.ownBlock = v.ownBlock ∨ v'.ownBlock = some w1.heap.size) (hlt : g < w.heap.size) :
    WrTo w B g v l' e' (.returned (.tuple #[])) ((w2.setCell ⟨g, 0, none⟩ v').setCell ⟨g, 1, none⟩ (.int .i64 e')) := by
  have hlt1 := lt_of_block h.blk
  have hg2 : w2.heap[g]? = w1.heap[g]? := hg.block g hlt1 (fun e => h.ne e.symm)
  have hblk2 : w2.heap[g]? = some (.cells #[v, .int .i64 e] 76 (0, 0)) := by rw [hg2]; exact h.blk
  have hne' : v'.ownBlock ≠ some g := by
    rcases hblk with e | e
    · rw [e]; exact h.ne
    · rw [e]; intro h'; have := Option.some.inj h'; omega
  have hs2 := hg.size
  refine ⟨rfl, v', ⟨two_setCell1 (two_setCell0 hblk2), owns_setCell (owns_setCell hown (by exact hne') _) (by exact hne') _, hne', ?_⟩, ?_, ?_⟩
  · have := h.le; simp [World.setCell]; omega
  · refine (((Upd.of_below hb).grown hg ?_).setCell ?_ _).setCell ?_ _
    · intro k hk; exact .inl (.inr hk)
    · exact .inl (.inl rfl)
    · exact .inl (.inl rfl)
  · rcases hblk with e | e
    · exact .inl e
    · exact .inr ⟨_, e, hb.size⟩

theorem WrTo.mk0 {w1 w2 : World} {B g : Nat} {v v' : Value} {l l' : List UInt8} (h : WrSt w1 B g v l 0) (hown : w2.ownsRow B 5 1 v' l'.length (bvs l'))
    (hg : w1.grownBy w2 v.ownBlock) (hblk : v'.ownBlock = v.ownBlock ∨ v'.ownBlock = some w1.heap.size) (hlt : g < w1.heap.size) :
    WrTo w1 B g v l' 0 (.returned (.tuple #[])) (w2.setCell ⟨g, 0, none⟩ v') := by
  have hg2 : w2.heap[g]? = w1.heap[g]? := hg.block g hlt (fun e => h.ne e.symm)
  have hblk2 : w2.heap[g]? = some (.cells #[v, .int .i64 0] 76 (0, 0)) := by rw [hg2]; exact h.blk
  have hne' : v'.ownBlock ≠ some g := by
    rcases hblk with e | e
    · rw [e]; exact h.ne
    · rw [e]; intro h'; have := Option.some.inj h'; omega
  have hs2 := hg.size
  refine ⟨rfl, v', ⟨two_setCell0 hblk2, owns_setCell hown (by exact hne') _, hne', ?_⟩, ?_, ?_⟩
  · have := h.le; simp [World.setCell]; omega
  · refine (((Upd.refl _ _).grown hg ?_).setCell ?_ _)
    · intro k hk; exact .inl (.inr hk)
    · exact .inl (.inl rfl)
  · rcases hblk with e | e
    · exact .inl e
    · exact .inr ⟨_, e, Nat.le_refl _⟩

theorem owns_slice {w : World} {base : Nat} {e : TypeId} {size : Nat} {v : Value} {n : Nat} {xs : List Value} (h : w.ownsRow base e size v n xs) : ∃ ao cap, v = .slice ao n cap := by
  rcases h.2 with ⟨rfl, rfl⟩ | ⟨g, cap, cur, rfl, _⟩
  · exact ⟨_, _, rfl⟩
  · exact ⟨_, _, rfl⟩

theorem WrSt.cells2 {w1 w2 : World} {B g : Nat} {v : Value} {l : List UInt8} {e : Int} (h : WrSt w1 B g v l e) (hg : w1.grownBy w2 v.ownBlock) :
    w2.cell? ⟨g, 0, none⟩ = some v ∧ w2.cell? ⟨g, 1, none⟩ = some (.int .i64 e) ∧ w2.frozen? ⟨g, 0, none⟩ = false ∧ w2.frozen? ⟨g, 1, none⟩ = false :=
  cell_of_two (by rw [hg.block g (lt_of_block h.blk) (fun e => h.ne e.symm)]; exact h.blk)

set_option maxRecDepth 100000 in
set_option maxHeartbeats 400000 in
theorem wNumber_good {w : World} {B g : Nat} {v : Value} {l : List UInt8} (hst : WrSt w B g v l 0) (n : Int) (h0 : 0 ≤ n) (h1 : n < 4611686018427387904) (hl : l.length + 9 ≤ 140737488355328) :
    Calls Tryd.prog 34 #[.pointer (some ⟨g, 0, none⟩), .int .i64 n] w (WrTo w B g v (l ++ enc n.toNat) 0) := by
  have hlt := lt_of_block hst.blk
  obtain ⟨c0, c1, f0, f1⟩ := cell_of_two hst.blk
  go_enter Tryd.func34, Tryd.ntmps34
  go_wp2_with fail
  have hlen := enc_len9 n.toNat (by omega)
  refine (put_int _ _ _ (by decide) h0 h1).mono ?_
  rintro e w1 ⟨rfl, hb⟩
  have hst1 := hst.below hb
  obtain ⟨d0, d1, g0, g1⟩ := cell_of_two hst1.blk
  clear c0 c1 f0 f1
  have hz := putB_size ⟨#[]⟩ n.toNat
  have hz2 : (putB ⟨#[]⟩ n.toNat).size ≤ 9 := by rw [hz]; show 0 + _ ≤ 9; omega
  have ht := putB_toList ⟨#[]⟩ n.toNat
  have HT : Hid ((putB ⟨#[]⟩ n.toNat).data.toList = enc n.toNat) := Lib.hid (by rw [ht]; rfl)
  clear hz ht
  generalize putB ⟨#[]⟩ n.toNat = s at *
  go_wp2_with (first | (at_builtin; refine wpList_append_str (S := WrS g v) rfl _ _ 74 9 rfl info_u8W Tryd.underlying74 Tryd.underlying9 hst1.own (Upd.refl _ _) hst1.le (by omega) (fun k hk => .inl (.inr hk)) rfl rfl ?_; intro v' w2 hown' hgrow hupd hblk; obtain ⟨k0, k1, k2, k3⟩ := hst1.cells2 hgrow; obtain ⟨ao, cp, rfl⟩ := owns_slice hown'))
  go_end0
  have hfin := WrTo.mk (e' := 0) hb hst1 hown' hgrow hblk hlt
  rw [List.length_append, toList_length, HT.out] at hfin
  exact hfin

set_option maxRecDepth 100000 in
set_option maxHeartbeats 400000 in
theorem wNumber_bad {w : World} {B g : Nat} {v : Value} {l : List UInt8} (hst : WrSt w B g v l 0) (n : Int) (hn : n < 0 ∨ 4611686018427387904 ≤ n) (hl : l.length ≤ 140737488355328) :
    Calls Tryd.prog 34 #[.pointer (some ⟨g, 0, none⟩), .int .i64 n] w (WrTo w B g v l 3) := by
  have hlt := lt_of_block hst.blk
  obtain ⟨c0, c1, f0, f1⟩ := cell_of_two hst.blk
  go_enter Tryd.func34, Tryd.ntmps34
  go_wp2_with fail
  refine (put_bad _ _ _ hn).mono ?_
  rintro e w1 ⟨rfl, rfl⟩
  have hb := Below.refl w.heap.size w
  have hst1 := hst.below hb
  obtain ⟨d0, d1, g0, g1⟩ := cell_of_two hst1.blk
  clear c0 c1 f0 f1
  have hz0 : (⟨#[]⟩ : ByteArray).size = 0 := rfl
  go_wp2_with (first | (at_builtin; refine wpList_append_str (S := WrS g v) rfl _ _ 74 9 rfl info_u8W Tryd.underlying74 Tryd.underlying9 hst1.own (Upd.refl _ _) hst1.le (by omega) (fun k hk => .inl (.inr hk)) rfl rfl ?_; intro v' w2 hown' hgrow hupd hblk; obtain ⟨k0, k1, k2, k3⟩ := hst1.cells2 hgrow; obtain ⟨ao, cp, rfl⟩ := owns_slice hown'))
  go_end0
  have hfin := WrTo.mk (e' := 3) hb hst1 hown' hgrow hblk hlt
  simpa using hfin

set_option maxRecDepth 100000 in
set_option maxHeartbeats 400000 in
theorem wText_good {w : World} {B g : Nat} {v : Value} {l : List UInt8} (hst : WrSt w B g v l 0) (t : ByteArray) (ht : t.size ≤ 4096) (hl : l.length + 4105 ≤ 140737488355328) :
    Calls Tryd.prog 35 #[.pointer (some ⟨g, 0, none⟩), .string t] w (WrTo w B g v (l ++ (enc t.size ++ t.data.toList)) 0) := by
  have hlt := lt_of_block hst.blk
  obtain ⟨c0, c1, f0, f1⟩ := cell_of_two hst.blk
  go_enter Tryd.func35, Tryd.ntmps35
  go_wp2_with fail
  have hlen := enc_len9 t.size (by omega)
  refine (putText_good _ _ _ (by decide) ht).mono ?_
  rintro e w1 ⟨rfl, hb⟩
  have hst1 := hst.below hb
  obtain ⟨d0, d1, g0, g1⟩ := cell_of_two hst1.blk
  clear c0 c1 f0 f1
  have hz := textB_size ⟨#[]⟩ t
  have hz2 : (textB ⟨#[]⟩ t).size ≤ 4105 := by rw [hz]; show 0 + _ + _ ≤ 4105; omega
  have htt := textB_toList ⟨#[]⟩ t
  have HT : Hid ((textB ⟨#[]⟩ t).data.toList = enc t.size ++ t.data.toList) := Lib.hid (by rw [htt]; rfl)
  clear hz htt
  generalize textB ⟨#[]⟩ t = s at *
  go_wp2_with (first | (at_builtin; refine wpList_append_str (S := WrS g v) rfl _ _ 74 9 rfl info_u8W Tryd.underlying74 Tryd.underlying9 hst1.own (Upd.refl _ _) hst1.le (by omega) (fun k hk => .inl (.inr hk)) rfl rfl ?_; intro v' w2 hown' hgrow hupd hblk; obtain ⟨k0, k1, k2, k3⟩ := hst1.cells2 hgrow; obtain ⟨ao, cp, rfl⟩ := owns_slice hown'))
  go_end0
  have hfin := WrTo.mk (e' := 0) hb hst1 hown' hgrow hblk hlt
  rw [List.length_append, toList_length, HT.out] at hfin
  exact hfin

set_option maxRecDepth 100000 in
set_option maxHeartbeats 400000 in
theorem wText_bad {w : World} {B g : Nat} {v : Value} {l : List UInt8} (hst : WrSt w B g v l 0) (t : ByteArray) (ht : 4096 < t.size) (hl : l.length ≤ 140737488355328) :
    Calls Tryd.prog 35 #[.pointer (some ⟨g, 0, none⟩), .string t] w (WrTo w B g v l 1) := by
  have hlt := lt_of_block hst.blk
  obtain ⟨c0, c1, f0, f1⟩ := cell_of_two hst.blk
  go_enter Tryd.func35, Tryd.ntmps35
  go_wp2_with fail
  refine (putText_long _ _ _ ht).mono ?_
  rintro e w1 ⟨rfl, rfl⟩
  have hb := Below.refl w.heap.size w
  have hst1 := hst.below hb
  obtain ⟨d0, d1, g0, g1⟩ := cell_of_two hst1.blk
  clear c0 c1 f0 f1
  have hz0 : (⟨#[]⟩ : ByteArray).size = 0 := rfl
  go_wp2_with (first | (at_builtin; refine wpList_append_str (S := WrS g v) rfl _ _ 74 9 rfl info_u8W Tryd.underlying74 Tryd.underlying9 hst1.own (Upd.refl _ _) hst1.le (by omega) (fun k hk => .inl (.inr hk)) rfl rfl ?_; intro v' w2 hown' hgrow hupd hblk; obtain ⟨k0, k1, k2, k3⟩ := hst1.cells2 hgrow; obtain ⟨ao, cp, rfl⟩ := owns_slice hown'))
  go_end0
  have hfin := WrTo.mk (e' := 1) hb hst1 hown' hgrow hblk hlt
  simpa using hfin

set_option maxRecDepth 100000 in
set_option maxHeartbeats 400000 in
theorem wNumber_err {w : World} {B g : Nat} {v : Value} {l : List UInt8} {er : Int} (hst : WrSt w B g v l er) (he : er ≠ 0) (n : Int) :
    Calls Tryd.prog 34 #[.pointer (some ⟨g, 0, none⟩), .int .i64 n] w (WrTo w B g v l er) := by
  have he' : (er == 0) = false := by simpa using he
  have he2 : (er != 0) = true := by simpa using he
  clear he
  obtain ⟨c0, c1, f0, f1⟩ := cell_of_two hst.blk
  go_enter Tryd.func34, Tryd.ntmps34
  go_wp2_with fail
  go_end0
  exact WrTo.same hst

set_option maxRecDepth 100000 in
set_option maxHeartbeats 400000 in
theorem wText_err {w : World} {B g : Nat} {v : Value} {l : List UInt8} {er : Int} (hst : WrSt w B g v l er) (he : er ≠ 0) (t : ByteArray) :
    Calls Tryd.prog 35 #[.pointer (some ⟨g, 0, none⟩), .string t] w (WrTo w B g v l er) := by
  have he' : (er == 0) = false := by simpa using he
  have he2 : (er != 0) = true := by simpa using he
  clear he
  obtain ⟨c0, c1, f0, f1⟩ := cell_of_two hst.blk
  go_enter Tryd.func35, Tryd.ntmps35
  go_wp2_with fail
  go_end0
  exact WrTo.same hst

theorem WrSt.below' {w w' : World} {B g : Nat} {v : Value} {l l' : List UInt8} {e e' : Int} {en : Ending} (h : WrSt w B g v l e) (hg : B ≤ g) (ht : WrTo w B g v l' e' en w') : Below B w w' := by
  obtain ⟨_, v', _, hu, _⟩ := ht
  refine hu.below h.le ?_
  intro k hk
  rcases hk with rfl | hk
  · exact hg
  · exact (h.own.lt k hk).1

/-- What the methods do to bytes and error. -/
def wNum (st : List UInt8 × Int) (n : Int) : List UInt8 × Int := if st.2 ≠ 0 then st else if 0 ≤ n ∧ n < 4611686018427387904 then (st.1 ++ enc n.toNat, 0) else (st.1, 3)
def wTxt (st : List UInt8 × Int) (t : ByteArray) : List UInt8 × Int := if st.2 ≠ 0 then st else if t.size ≤ 4096 then (st.1 ++ (enc t.size ++ t.data.toList), 0) else (st.1, 1)
def wByt (st : List UInt8 × Int) (t : ByteArray) : List UInt8 × Int := if st.2 ≠ 0 then st else (st.1 ++ t.data.toList, 0)

theorem wNumber_any {w : World} {B g : Nat} {v : Value} {st : List UInt8 × Int} (hst : WrSt w B g v st.1 st.2) (n : Int) (hl : st.1.length + 9 ≤ 140737488355328) :
    Calls Tryd.prog 34 #[.pointer (some ⟨g, 0, none⟩), .int .i64 n] w (WrTo w B g v (wNum st n).1 (wNum st n).2) := by
  obtain ⟨l, er⟩ := st
  simp only at hst hl
  unfold wNum
  by_cases he : er = 0
  · subst he
    rw [if_neg (by simp)]
    by_cases hn : 0 ≤ n ∧ n < 4611686018427387904
    · rw [if_pos hn]; exact wNumber_good hst n hn.1 hn.2 hl
    · rw [if_neg hn]; exact wNumber_bad hst n (by omega) (by omega)
  · rw [if_pos he]; exact wNumber_err hst he n

theorem wText_any {w : World} {B g : Nat} {v : Value} {st : List UInt8 × Int} (hst : WrSt w B g v st.1 st.2) (t : ByteArray) (hl : st.1.length + 4105 ≤ 140737488355328) :
    Calls Tryd.prog 35 #[.pointer (some ⟨g, 0, none⟩), .string t] w (WrTo w B g v (wTxt st t).1 (wTxt st t).2) := by
  obtain ⟨l, er⟩ := st
  simp only at hst hl
  unfold wTxt
  by_cases he : er = 0
  · subst he
    rw [if_neg (by simp)]
    by_cases hn : t.size ≤ 4096
    · rw [if_pos hn]; exact wText_good hst t hn hl
    · rw [if_neg hn]; exact wText_bad hst t (by omega) (by omega)
  · rw [if_pos he]; exact wText_err hst he t

/-- What Done answers. -/
def doneV (st : List UInt8 × Int) : Value := if st.2 = 0 then .tuple #[.string ⟨st.1.toArray⟩, .int .i64 0] else .tuple #[.string ⟨#[]⟩, .int .i64 st.2]

set_option maxRecDepth 100000 in
set_option maxHeartbeats 400000 in
theorem wDone_any {w : World} {B g : Nat} {v : Value} {st : List UInt8 × Int} (hst : WrSt w B g v st.1 st.2) :
    Calls Tryd.prog 36 #[.pointer (some ⟨g, 0, none⟩)] w fun e w' => e = .returned (doneV st) ∧ ∃ n, w' = w.drewN n := by
  obtain ⟨l, er⟩ := st
  simp only at hst
  obtain ⟨c0, c1, f0, f1⟩ := cell_of_two hst.blk
  have hr := rdRow_of_owns hst.own
  unfold doneV
  by_cases he : er = 0
  · subst he
    rw [if_pos rfl]
    go_enter Tryd.func36, Tryd.ntmps36
    go_wp2_with (refine wpList_bytes_string rfl _ _ _ _ rfl Tryd.underlying74 Tryd.underlying5 Tryd.underlying9 hr rfl ?_)
    go_ret2
    exact ⟨rfl, 0, rfl⟩
  · rw [if_neg he]
    have he' : (er == 0) = false := by simpa using he
    have he2 : (er != 0) = true := by simpa using he
    clear he
    go_enter Tryd.func36, Tryd.ntmps36
    go_wp2_with fail
    go_region
    go_wp2_with fail
    go_ret2
    exact ⟨rfl, 1, rfl⟩

end Go.Proofs.YtinhjnbgblieeaaDoor
